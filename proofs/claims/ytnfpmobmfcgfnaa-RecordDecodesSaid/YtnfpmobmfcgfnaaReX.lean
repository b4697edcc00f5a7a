/- THE WALK OF record.get (printed by gen/gengtc.py). -/
import Derived.Test.YtnfpmobmfcgfnaaPs
namespace Go.Proofs.Ytnfpmobmfcgfnaa
open Go.RowKit
set_option maxRecDepth 100000 in
set_option maxHeartbeats 16000000 in
theorem get_k1 {w : World} {g B : Nat} {s : RS} (h : RdS w g B s) : Calls Try.prog 72 #[.pointer (some ⟨g, 0, none⟩), .int .i64 1] w (GetCPost (fun s w => RdS w g B s) g w (get1 s)) := by
 obtain ⟨a1, s1, h1⟩ : ∃ a t, textS s = (a, t) := ⟨_, _, rfl⟩
 obtain ⟨a2, s2, h2⟩ : ∃ a t, numS s1 = (a, t) := ⟨_, _, rfl⟩
 obtain ⟨a3, s3, h3⟩ : ∃ a t, numS s2 = (a, t) := ⟨_, _, rfl⟩
 have HG := Lib.hid (show get1 s = ({ Cm.zero with kind := 1, cty := a1, ix := a2, day := a3 }, s3) by simp only [get1, h1, h2, h3])
 have H1 := Lib.hid h1
 have H2 := Lib.hid h2
 have H3 := Lib.hid h3
 clear h1 h2 h3
 have HL0 := Lib.hid (h.below (zal w))
 have HK0 := Lib.hid (show Only g w _ from Kept.ofBelow (zal w))
 have HB0 := Lib.hid (zbk w)
 have HOKR := Lib.hid (rdS_ok g B)
 have HGL := Lib.hid h.lt
 have HBG := Lib.hid h.le
 clear h
 generalize hV' : Cm.vs { Cm.zero with kind := 1 } (.slice none 0 0) = V' at *
 obtain ⟨HV1, HV2, HVI⟩ := vfs hV'
 have HV' := Lib.hid hV'
 clear hV'
 go_enter Try.func72, Try.ntmps72
 go_upto_region 1 with fail
 rw [zero_vs]
 generalize World.alloc w _ = w2 at *
 generalize hb : w.heap.size = bl at HB0 ⊢
 have HBL := Lib.hid hb
 clear hb
 go_upto_region 2 with ((with_reducible show wpList _ _ _ (⟨none, .store _ _ _, _, _, _, _⟩ :: _) _ _); go_must (refine wpList_store_row rfl 53 (.tmp 5) (.tmp 9) rfl w2.heap.size V' rfl (by rw [← HV'.out]; rfl) 53 _ (heap_alloc_new w2 _) HVI.out (by rw [HV2.out]; rfl) HV1.out ?_))
 rw [zero_vs]
 have HR0 := Lib.hid (bz0 HOKR.out HL0.out HK0.out HB0.out HGL.out (by have h1 := HBL.out; have h2 := HGL.out; omega) V')
 generalize w2.heap.size = b3 at *
 clear HL0 HK0 HB0
 generalize World.setRow _ _ _ = w3 at HR0 ⊢
 rw [← HV'.out] at HR0
 clear HV1 HV2 HVI
 go_upto_region 15 with fail
 have q1 := text_s HR0.out.br.rd
 rw [H1.out] at q1
 go_upto_region 16 with (first
  | (go_at_call 100; (with_reducible refine q1.mono ?_); rintro e x1 ⟨rfl, hrx, hox⟩; have HC1 := Lib.hid (HR0.out.call HGL.out hrx hox); clear q1 hrx hox; have y1 := cells_of HC1.out.br.bk 1 _ rfl; have k1 := HC1.out.br.bk.free 1))
 have hs1 := HC1.out.set HOKR.out HGL.out 1 (.string a1) (cs' := Cm.vs ({ Cm.zero with kind := 1, cty := a1 }) (.slice none 0 0)) rfl
 have HR1 := Lib.hid hs1
 clear hs1 y1 k1 HR0 HC1
 generalize World.setCell _ _ _ = wz1 at HR1 ⊢
 have q2 := num_s HR1.out.br.rd
 rw [H2.out] at q2
 go_upto_region 30 with (first
  | (go_at_call 73; (with_reducible refine q2.mono ?_); rintro e x2 ⟨rfl, hrx, hox⟩; have HC2 := Lib.hid (HR1.out.call HGL.out hrx hox); clear q2 hrx hox; have q3 := num_s HC2.out.br.rd; rw [H3.out] at q3)
  | (go_at_call 73; (with_reducible refine q3.mono ?_); rintro e x3 ⟨rfl, hrx, hox⟩; have HC3 := Lib.hid (HC2.out.call HGL.out hrx hox); clear q3 hrx hox; have y9 := cells_of HC3.out.br.bk 9 _ rfl; have k9 := HC3.out.br.bk.free 9; have y5 := cells_of HC3.out.br.bk 5 _ rfl; have k5 := HC3.out.br.bk.free 5))
 have hs9 := HC3.out.set HOKR.out HGL.out 9 (.int .i64 a2) (cs' := Cm.vs ({ Cm.zero with kind := 1, cty := a1, ix := a2 }) (.slice none 0 0)) rfl
 have hs5 := hs9.set HOKR.out HGL.out 5 (.int .i64 a3) (cs' := Cm.vs ({ Cm.zero with kind := 1, cty := a1, ix := a2, day := a3 }) (.slice none 0 0)) rfl
 have HR2 := Lib.hid hs5
 clear hs9 hs5 y9 k9 y5 k5 HR1 HC2 HC3
 generalize World.setCell _ _ _ = wz2 at HR2 ⊢
 have HZ := HR2
 clear HR2
 generalize hV6 : Cm.vs ({ Cm.zero with kind := 1, cty := a1, ix := a2, day := a3 }) (.slice none 0 0) = V6 at *
 obtain ⟨H2, H3, H4⟩ := vfs hV6
 have H1 := Lib.hid HZ.out.br.bk.hp
 have H0 := Lib.hid HZ.out.zb.hp
 have HV6 := Lib.hid hV6
 clear hV6
 go_wp2_with (first
  | (with_reducible refine wpList_load_row rfl 53 (.tmp 5) rfl b3 rfl 53 V6 (0, 0) _ H1.out Try.underlying53 rfl H4.out ?_)
  | ((with_reducible show wpList _ _ _ (⟨none, .store _ _ _, _, _, _, _⟩ :: _) _ _); go_must (refine wpList_store_row rfl 53 (.tmp 4) (.tmp 112) rfl bl V6 rfl rfl 53 _ H0.out H4.out (by rw [H3.out]; rfl) H2.out ?_)))
 have HE := HZ.out.fin HOKR.out (by have h1 := HBL.out; have h2 := HGL.out; have h3 := HBG.out; omega) V6
 refine bodyPost_ret (results_cell_row rfl _ _ bl 53 _ (0, 0) _ rfl (setRow_heap _ _ _ _ _ _ H0.out) Try.underlying53 rfl H4.out) rfl ⟨.slice none 0 0, ?_⟩
 rw [HG.out]
 exact ⟨by rw [← HV6.out], HE.1, HE.2.1, HZ.out.br.on.trans' HE.2.2 (by have := HBL.out; omega)⟩
set_option maxRecDepth 100000 in
set_option maxHeartbeats 16000000 in
theorem get_k2 {w : World} {g B : Nat} {s : RS} (h : RdS w g B s) : Calls Try.prog 72 #[.pointer (some ⟨g, 0, none⟩), .int .i64 2] w (GetCPost (fun s w => RdS w g B s) g w (get2 s)) := by
 obtain ⟨a1, s1, h1⟩ : ∃ a t, textS s = (a, t) := ⟨_, _, rfl⟩
 obtain ⟨a2, s2, h2⟩ : ∃ a t, numS s1 = (a, t) := ⟨_, _, rfl⟩
 obtain ⟨a3, s3, h3⟩ : ∃ a t, numS s2 = (a, t) := ⟨_, _, rfl⟩
 obtain ⟨a4, s4, h4⟩ : ∃ a t, numS s3 = (a, t) := ⟨_, _, rfl⟩
 obtain ⟨a5, s5, h5⟩ : ∃ a t, numS s4 = (a, t) := ⟨_, _, rfl⟩
 have HG := Lib.hid (show get2 s = ({ Cm.zero with kind := 2, cty := a1, cat := a2, day := a3, til := a4, bp := a5 }, s5) by simp only [get2, h1, h2, h3, h4, h5])
 have H1 := Lib.hid h1
 have H2 := Lib.hid h2
 have H3 := Lib.hid h3
 have H4 := Lib.hid h4
 have H5 := Lib.hid h5
 clear h1 h2 h3 h4 h5
 have HL0 := Lib.hid (h.below (zal w))
 have HK0 := Lib.hid (show Only g w _ from Kept.ofBelow (zal w))
 have HB0 := Lib.hid (zbk w)
 have HOKR := Lib.hid (rdS_ok g B)
 have HGL := Lib.hid h.lt
 have HBG := Lib.hid h.le
 clear h
 generalize hV' : Cm.vs { Cm.zero with kind := 2 } (.slice none 0 0) = V' at *
 obtain ⟨HV1, HV2, HVI⟩ := vfs hV'
 have HV' := Lib.hid hV'
 clear hV'
 go_enter Try.func72, Try.ntmps72
 go_upto_region 1 with fail
 rw [zero_vs]
 generalize World.alloc w _ = w2 at *
 generalize hb : w.heap.size = bl at HB0 ⊢
 have HBL := Lib.hid hb
 clear hb
 go_upto_region 2 with ((with_reducible show wpList _ _ _ (⟨none, .store _ _ _, _, _, _, _⟩ :: _) _ _); go_must (refine wpList_store_row rfl 53 (.tmp 5) (.tmp 9) rfl w2.heap.size V' rfl (by rw [← HV'.out]; rfl) 53 _ (heap_alloc_new w2 _) HVI.out (by rw [HV2.out]; rfl) HV1.out ?_))
 rw [zero_vs]
 have HR0 := Lib.hid (bz0 HOKR.out HL0.out HK0.out HB0.out HGL.out (by have h1 := HBL.out; have h2 := HGL.out; omega) V')
 generalize w2.heap.size = b3 at *
 clear HL0 HK0 HB0
 generalize World.setRow _ _ _ = w3 at HR0 ⊢
 rw [← HV'.out] at HR0
 clear HV1 HV2 HVI
 go_upto_region 17 with fail
 have q1 := text_s HR0.out.br.rd
 rw [H1.out] at q1
 go_upto_region 18 with (first
  | (go_at_call 100; (with_reducible refine q1.mono ?_); rintro e x1 ⟨rfl, hrx, hox⟩; have HC1 := Lib.hid (HR0.out.call HGL.out hrx hox); clear q1 hrx hox; have y1 := cells_of HC1.out.br.bk 1 _ rfl; have k1 := HC1.out.br.bk.free 1))
 have hs1 := HC1.out.set HOKR.out HGL.out 1 (.string a1) (cs' := Cm.vs ({ Cm.zero with kind := 2, cty := a1 }) (.slice none 0 0)) rfl
 have HR1 := Lib.hid hs1
 clear hs1 y1 k1 HR0 HC1
 generalize World.setCell _ _ _ = wz1 at HR1 ⊢
 have q2 := num_s HR1.out.br.rd
 rw [H2.out] at q2
 go_upto_region 30 with (first
  | (go_at_call 73; (with_reducible refine q2.mono ?_); rintro e x2 ⟨rfl, hrx, hox⟩; have HC2 := Lib.hid (HR1.out.call HGL.out hrx hox); clear q2 hrx hox; have q3 := num_s HC2.out.br.rd; rw [H3.out] at q3)
  | (go_at_call 73; (with_reducible refine q3.mono ?_); rintro e x3 ⟨rfl, hrx, hox⟩; have HC3 := Lib.hid (HC2.out.call HGL.out hrx hox); clear q3 hrx hox; have q4 := num_s HC3.out.br.rd; rw [H4.out] at q4)
  | (go_at_call 73; (with_reducible refine q4.mono ?_); rintro e x4 ⟨rfl, hrx, hox⟩; have HC4 := Lib.hid (HC3.out.call HGL.out hrx hox); clear q4 hrx hox; have q5 := num_s HC4.out.br.rd; rw [H5.out] at q5)
  | (go_at_call 73; (with_reducible refine q5.mono ?_); rintro e x5 ⟨rfl, hrx, hox⟩; have HC5 := Lib.hid (HC4.out.call HGL.out hrx hox); clear q5 hrx hox; have y3 := cells_of HC5.out.br.bk 3 _ rfl; have k3 := HC5.out.br.bk.free 3; have y5 := cells_of HC5.out.br.bk 5 _ rfl; have k5 := HC5.out.br.bk.free 5; have y6 := cells_of HC5.out.br.bk 6 _ rfl; have k6 := HC5.out.br.bk.free 6; have y4 := cells_of HC5.out.br.bk 4 _ rfl; have k4 := HC5.out.br.bk.free 4))
 have hs3 := HC5.out.set HOKR.out HGL.out 3 (.int .i64 a2) (cs' := Cm.vs ({ Cm.zero with kind := 2, cty := a1, cat := a2 }) (.slice none 0 0)) rfl
 have hs5 := hs3.set HOKR.out HGL.out 5 (.int .i64 a3) (cs' := Cm.vs ({ Cm.zero with kind := 2, cty := a1, cat := a2, day := a3 }) (.slice none 0 0)) rfl
 have hs6 := hs5.set HOKR.out HGL.out 6 (.int .i64 a4) (cs' := Cm.vs ({ Cm.zero with kind := 2, cty := a1, cat := a2, day := a3, til := a4 }) (.slice none 0 0)) rfl
 have hs4 := hs6.set HOKR.out HGL.out 4 (.int .i64 a5) (cs' := Cm.vs ({ Cm.zero with kind := 2, cty := a1, cat := a2, day := a3, til := a4, bp := a5 }) (.slice none 0 0)) rfl
 have HR2 := Lib.hid hs4
 clear hs3 hs5 hs6 hs4 y3 k3 y5 k5 y6 k6 y4 k4 HR1 HC2 HC3 HC4 HC5
 generalize World.setCell _ _ _ = wz2 at HR2 ⊢
 have HZ := HR2
 clear HR2
 generalize hV6 : Cm.vs ({ Cm.zero with kind := 2, cty := a1, cat := a2, day := a3, til := a4, bp := a5 }) (.slice none 0 0) = V6 at *
 obtain ⟨H2, H3, H4⟩ := vfs hV6
 have H1 := Lib.hid HZ.out.br.bk.hp
 have H0 := Lib.hid HZ.out.zb.hp
 have HV6 := Lib.hid hV6
 clear hV6
 go_wp2_with (first
  | (with_reducible refine wpList_load_row rfl 53 (.tmp 5) rfl b3 rfl 53 V6 (0, 0) _ H1.out Try.underlying53 rfl H4.out ?_)
  | ((with_reducible show wpList _ _ _ (⟨none, .store _ _ _, _, _, _, _⟩ :: _) _ _); go_must (refine wpList_store_row rfl 53 (.tmp 4) (.tmp 112) rfl bl V6 rfl rfl 53 _ H0.out H4.out (by rw [H3.out]; rfl) H2.out ?_)))
 have HE := HZ.out.fin HOKR.out (by have h1 := HBL.out; have h2 := HGL.out; have h3 := HBG.out; omega) V6
 refine bodyPost_ret (results_cell_row rfl _ _ bl 53 _ (0, 0) _ rfl (setRow_heap _ _ _ _ _ _ H0.out) Try.underlying53 rfl H4.out) rfl ⟨.slice none 0 0, ?_⟩
 rw [HG.out]
 exact ⟨by rw [← HV6.out], HE.1, HE.2.1, HZ.out.br.on.trans' HE.2.2 (by have := HBL.out; omega)⟩
set_option maxRecDepth 100000 in
set_option maxHeartbeats 16000000 in
theorem get_k3 {w : World} {g B : Nat} {s : RS} (h : RdS w g B s) : Calls Try.prog 72 #[.pointer (some ⟨g, 0, none⟩), .int .i64 3] w (GetCPost (fun s w => RdS w g B s) g w (get3 s)) := by
 obtain ⟨a1, s1, h1⟩ : ∃ a t, numS s = (a, t) := ⟨_, _, rfl⟩
 obtain ⟨a2, s2, h2⟩ : ∃ a t, numS s1 = (a, t) := ⟨_, _, rfl⟩
 have HG := Lib.hid (show get3 s = ({ Cm.zero with kind := 3, day := a1, til := a2 }, s2) by simp only [get3, h1, h2])
 have H1 := Lib.hid h1
 have H2 := Lib.hid h2
 clear h1 h2
 have HL0 := Lib.hid (h.below (zal w))
 have HK0 := Lib.hid (show Only g w _ from Kept.ofBelow (zal w))
 have HB0 := Lib.hid (zbk w)
 have HOKR := Lib.hid (rdS_ok g B)
 have HGL := Lib.hid h.lt
 have HBG := Lib.hid h.le
 clear h
 generalize hV' : Cm.vs { Cm.zero with kind := 3 } (.slice none 0 0) = V' at *
 obtain ⟨HV1, HV2, HVI⟩ := vfs hV'
 have HV' := Lib.hid hV'
 clear hV'
 go_enter Try.func72, Try.ntmps72
 go_upto_region 1 with fail
 rw [zero_vs]
 generalize World.alloc w _ = w2 at *
 generalize hb : w.heap.size = bl at HB0 ⊢
 have HBL := Lib.hid hb
 clear hb
 go_upto_region 2 with ((with_reducible show wpList _ _ _ (⟨none, .store _ _ _, _, _, _, _⟩ :: _) _ _); go_must (refine wpList_store_row rfl 53 (.tmp 5) (.tmp 9) rfl w2.heap.size V' rfl (by rw [← HV'.out]; rfl) 53 _ (heap_alloc_new w2 _) HVI.out (by rw [HV2.out]; rfl) HV1.out ?_))
 rw [zero_vs]
 have HR0 := Lib.hid (bz0 HOKR.out HL0.out HK0.out HB0.out HGL.out (by have h1 := HBL.out; have h2 := HGL.out; omega) V')
 generalize w2.heap.size = b3 at *
 clear HL0 HK0 HB0
 generalize World.setRow _ _ _ = w3 at HR0 ⊢
 rw [← HV'.out] at HR0
 clear HV1 HV2 HVI
 go_upto_region 20 with fail
 have q1 := num_s HR0.out.br.rd
 rw [H1.out] at q1
 go_upto_region 30 with (first
  | (go_at_call 73; (with_reducible refine q1.mono ?_); rintro e x1 ⟨rfl, hrx, hox⟩; have HC1 := Lib.hid (HR0.out.call HGL.out hrx hox); clear q1 hrx hox; have q2 := num_s HC1.out.br.rd; rw [H2.out] at q2)
  | (go_at_call 73; (with_reducible refine q2.mono ?_); rintro e x2 ⟨rfl, hrx, hox⟩; have HC2 := Lib.hid (HC1.out.call HGL.out hrx hox); clear q2 hrx hox; have y5 := cells_of HC2.out.br.bk 5 _ rfl; have k5 := HC2.out.br.bk.free 5; have y6 := cells_of HC2.out.br.bk 6 _ rfl; have k6 := HC2.out.br.bk.free 6))
 have hs5 := HC2.out.set HOKR.out HGL.out 5 (.int .i64 a1) (cs' := Cm.vs ({ Cm.zero with kind := 3, day := a1 }) (.slice none 0 0)) rfl
 have hs6 := hs5.set HOKR.out HGL.out 6 (.int .i64 a2) (cs' := Cm.vs ({ Cm.zero with kind := 3, day := a1, til := a2 }) (.slice none 0 0)) rfl
 have HR1 := Lib.hid hs6
 clear hs5 hs6 y5 k5 y6 k6 HR0 HC1 HC2
 generalize World.setCell _ _ _ = wz1 at HR1 ⊢
 have HZ := HR1
 clear HR1
 generalize hV6 : Cm.vs ({ Cm.zero with kind := 3, day := a1, til := a2 }) (.slice none 0 0) = V6 at *
 obtain ⟨H2, H3, H4⟩ := vfs hV6
 have H1 := Lib.hid HZ.out.br.bk.hp
 have H0 := Lib.hid HZ.out.zb.hp
 have HV6 := Lib.hid hV6
 clear hV6
 go_wp2_with (first
  | (with_reducible refine wpList_load_row rfl 53 (.tmp 5) rfl b3 rfl 53 V6 (0, 0) _ H1.out Try.underlying53 rfl H4.out ?_)
  | ((with_reducible show wpList _ _ _ (⟨none, .store _ _ _, _, _, _, _⟩ :: _) _ _); go_must (refine wpList_store_row rfl 53 (.tmp 4) (.tmp 112) rfl bl V6 rfl rfl 53 _ H0.out H4.out (by rw [H3.out]; rfl) H2.out ?_)))
 have HE := HZ.out.fin HOKR.out (by have h1 := HBL.out; have h2 := HGL.out; have h3 := HBG.out; omega) V6
 refine bodyPost_ret (results_cell_row rfl _ _ bl 53 _ (0, 0) _ rfl (setRow_heap _ _ _ _ _ _ H0.out) Try.underlying53 rfl H4.out) rfl ⟨.slice none 0 0, ?_⟩
 rw [HG.out]
 exact ⟨by rw [← HV6.out], HE.1, HE.2.1, HZ.out.br.on.trans' HE.2.2 (by have := HBL.out; omega)⟩
set_option maxRecDepth 100000 in
set_option maxHeartbeats 16000000 in
theorem get_k4 {w : World} {g B : Nat} {s : RS} (h : RdS w g B s) : Calls Try.prog 72 #[.pointer (some ⟨g, 0, none⟩), .int .i64 4] w (GetCPost (fun s w => RdS w g B s) g w (get4 s)) := by
 obtain ⟨a1, s1, h1⟩ : ∃ a t, textS s = (a, t) := ⟨_, _, rfl⟩
 obtain ⟨a2, s2, h2⟩ : ∃ a t, textS s1 = (a, t) := ⟨_, _, rfl⟩
 obtain ⟨a3, s3, h3⟩ : ∃ a t, numS s2 = (a, t) := ⟨_, _, rfl⟩
 obtain ⟨a4, s4, h4⟩ : ∃ a t, numS s3 = (a, t) := ⟨_, _, rfl⟩
 have HG := Lib.hid (show get4 s = ({ Cm.zero with kind := 4, cty := a1, txt := a2, day := a3, til := a4 }, s4) by simp only [get4, h1, h2, h3, h4])
 have H1 := Lib.hid h1
 have H2 := Lib.hid h2
 have H3 := Lib.hid h3
 have H4 := Lib.hid h4
 clear h1 h2 h3 h4
 have HL0 := Lib.hid (h.below (zal w))
 have HK0 := Lib.hid (show Only g w _ from Kept.ofBelow (zal w))
 have HB0 := Lib.hid (zbk w)
 have HOKR := Lib.hid (rdS_ok g B)
 have HGL := Lib.hid h.lt
 have HBG := Lib.hid h.le
 clear h
 generalize hV' : Cm.vs { Cm.zero with kind := 4 } (.slice none 0 0) = V' at *
 obtain ⟨HV1, HV2, HVI⟩ := vfs hV'
 have HV' := Lib.hid hV'
 clear hV'
 go_enter Try.func72, Try.ntmps72
 go_upto_region 1 with fail
 rw [zero_vs]
 generalize World.alloc w _ = w2 at *
 generalize hb : w.heap.size = bl at HB0 ⊢
 have HBL := Lib.hid hb
 clear hb
 go_upto_region 2 with ((with_reducible show wpList _ _ _ (⟨none, .store _ _ _, _, _, _, _⟩ :: _) _ _); go_must (refine wpList_store_row rfl 53 (.tmp 5) (.tmp 9) rfl w2.heap.size V' rfl (by rw [← HV'.out]; rfl) 53 _ (heap_alloc_new w2 _) HVI.out (by rw [HV2.out]; rfl) HV1.out ?_))
 rw [zero_vs]
 have HR0 := Lib.hid (bz0 HOKR.out HL0.out HK0.out HB0.out HGL.out (by have h1 := HBL.out; have h2 := HGL.out; omega) V')
 generalize w2.heap.size = b3 at *
 clear HL0 HK0 HB0
 generalize World.setRow _ _ _ = w3 at HR0 ⊢
 rw [← HV'.out] at HR0
 clear HV1 HV2 HVI
 go_upto_region 19 with fail
 have q1 := text_s HR0.out.br.rd
 rw [H1.out] at q1
 go_upto_region 20 with (first
  | (go_at_call 100; (with_reducible refine q1.mono ?_); rintro e x1 ⟨rfl, hrx, hox⟩; have HC1 := Lib.hid (HR0.out.call HGL.out hrx hox); clear q1 hrx hox; have q2 := text_s HC1.out.br.rd; rw [H2.out] at q2)
  | (go_at_call 100; (with_reducible refine q2.mono ?_); rintro e x2 ⟨rfl, hrx, hox⟩; have HC2 := Lib.hid (HC1.out.call HGL.out hrx hox); clear q2 hrx hox; have y1 := cells_of HC2.out.br.bk 1 _ rfl; have k1 := HC2.out.br.bk.free 1; have y2 := cells_of HC2.out.br.bk 2 _ rfl; have k2 := HC2.out.br.bk.free 2))
 have hs1 := HC2.out.set HOKR.out HGL.out 1 (.string a1) (cs' := Cm.vs ({ Cm.zero with kind := 4, cty := a1 }) (.slice none 0 0)) rfl
 have hs2 := hs1.set HOKR.out HGL.out 2 (.string a2) (cs' := Cm.vs ({ Cm.zero with kind := 4, cty := a1, txt := a2 }) (.slice none 0 0)) rfl
 have HR1 := Lib.hid hs2
 clear hs1 hs2 y1 k1 y2 k2 HR0 HC1 HC2
 generalize World.setCell _ _ _ = wz1 at HR1 ⊢
 have q3 := num_s HR1.out.br.rd
 rw [H3.out] at q3
 go_upto_region 30 with (first
  | (go_at_call 73; (with_reducible refine q3.mono ?_); rintro e x3 ⟨rfl, hrx, hox⟩; have HC3 := Lib.hid (HR1.out.call HGL.out hrx hox); clear q3 hrx hox; have q4 := num_s HC3.out.br.rd; rw [H4.out] at q4)
  | (go_at_call 73; (with_reducible refine q4.mono ?_); rintro e x4 ⟨rfl, hrx, hox⟩; have HC4 := Lib.hid (HC3.out.call HGL.out hrx hox); clear q4 hrx hox; have y5 := cells_of HC4.out.br.bk 5 _ rfl; have k5 := HC4.out.br.bk.free 5; have y6 := cells_of HC4.out.br.bk 6 _ rfl; have k6 := HC4.out.br.bk.free 6))
 have hs5 := HC4.out.set HOKR.out HGL.out 5 (.int .i64 a3) (cs' := Cm.vs ({ Cm.zero with kind := 4, cty := a1, txt := a2, day := a3 }) (.slice none 0 0)) rfl
 have hs6 := hs5.set HOKR.out HGL.out 6 (.int .i64 a4) (cs' := Cm.vs ({ Cm.zero with kind := 4, cty := a1, txt := a2, day := a3, til := a4 }) (.slice none 0 0)) rfl
 have HR2 := Lib.hid hs6
 clear hs5 hs6 y5 k5 y6 k6 HR1 HC3 HC4
 generalize World.setCell _ _ _ = wz2 at HR2 ⊢
 have HZ := HR2
 clear HR2
 generalize hV6 : Cm.vs ({ Cm.zero with kind := 4, cty := a1, txt := a2, day := a3, til := a4 }) (.slice none 0 0) = V6 at *
 obtain ⟨H2, H3, H4⟩ := vfs hV6
 have H1 := Lib.hid HZ.out.br.bk.hp
 have H0 := Lib.hid HZ.out.zb.hp
 have HV6 := Lib.hid hV6
 clear hV6
 go_wp2_with (first
  | (with_reducible refine wpList_load_row rfl 53 (.tmp 5) rfl b3 rfl 53 V6 (0, 0) _ H1.out Try.underlying53 rfl H4.out ?_)
  | ((with_reducible show wpList _ _ _ (⟨none, .store _ _ _, _, _, _, _⟩ :: _) _ _); go_must (refine wpList_store_row rfl 53 (.tmp 4) (.tmp 112) rfl bl V6 rfl rfl 53 _ H0.out H4.out (by rw [H3.out]; rfl) H2.out ?_)))
 have HE := HZ.out.fin HOKR.out (by have h1 := HBL.out; have h2 := HGL.out; have h3 := HBG.out; omega) V6
 refine bodyPost_ret (results_cell_row rfl _ _ bl 53 _ (0, 0) _ rfl (setRow_heap _ _ _ _ _ _ H0.out) Try.underlying53 rfl H4.out) rfl ⟨.slice none 0 0, ?_⟩
 rw [HG.out]
 exact ⟨by rw [← HV6.out], HE.1, HE.2.1, HZ.out.br.on.trans' HE.2.2 (by have := HBL.out; omega)⟩
set_option maxRecDepth 100000 in
set_option maxHeartbeats 16000000 in
theorem get_k5 {w : World} {g B : Nat} {s : RS} (h : RdS w g B s) : Calls Try.prog 72 #[.pointer (some ⟨g, 0, none⟩), .int .i64 5] w (GetCPost (fun s w => RdS w g B s) g w (get5 s)) := by
 obtain ⟨a1, s1, h1⟩ : ∃ a t, textS s = (a, t) := ⟨_, _, rfl⟩
 obtain ⟨a2, s2, h2⟩ : ∃ a t, numS s1 = (a, t) := ⟨_, _, rfl⟩
 obtain ⟨a3, s3, h3⟩ : ∃ a t, numS s2 = (a, t) := ⟨_, _, rfl⟩
 obtain ⟨a4, s4, h4⟩ : ∃ a t, numS s3 = (a, t) := ⟨_, _, rfl⟩
 obtain ⟨a5, s5, h5⟩ : ∃ a t, numS s4 = (a, t) := ⟨_, _, rfl⟩
 have HG := Lib.hid (show get5 s = ({ Cm.zero with kind := 5, txt := a1, pk := 2, py := a2, px := a3, nm := a4, dn := a5 }, s5) by simp only [get5, h1, h2, h3, h4, h5])
 have H1 := Lib.hid h1
 have H2 := Lib.hid h2
 have H3 := Lib.hid h3
 have H4 := Lib.hid h4
 have H5 := Lib.hid h5
 clear h1 h2 h3 h4 h5
 have HL0 := Lib.hid (h.below (zal w))
 have HK0 := Lib.hid (show Only g w _ from Kept.ofBelow (zal w))
 have HB0 := Lib.hid (zbk w)
 have HOKR := Lib.hid (rdS_ok g B)
 have HGL := Lib.hid h.lt
 have HBG := Lib.hid h.le
 clear h
 generalize hV' : Cm.vs { Cm.zero with kind := 5 } (.slice none 0 0) = V' at *
 obtain ⟨HV1, HV2, HVI⟩ := vfs hV'
 have HV' := Lib.hid hV'
 clear hV'
 go_enter Try.func72, Try.ntmps72
 go_upto_region 1 with fail
 rw [zero_vs]
 generalize World.alloc w _ = w2 at *
 generalize hb : w.heap.size = bl at HB0 ⊢
 have HBL := Lib.hid hb
 clear hb
 go_upto_region 2 with ((with_reducible show wpList _ _ _ (⟨none, .store _ _ _, _, _, _, _⟩ :: _) _ _); go_must (refine wpList_store_row rfl 53 (.tmp 5) (.tmp 9) rfl w2.heap.size V' rfl (by rw [← HV'.out]; rfl) 53 _ (heap_alloc_new w2 _) HVI.out (by rw [HV2.out]; rfl) HV1.out ?_))
 rw [zero_vs]
 have HR0 := Lib.hid (bz0 HOKR.out HL0.out HK0.out HB0.out HGL.out (by have h1 := HBL.out; have h2 := HGL.out; omega) V')
 generalize w2.heap.size = b3 at *
 clear HL0 HK0 HB0
 generalize World.setRow _ _ _ = w3 at HR0 ⊢
 rw [← HV'.out] at HR0
 clear HV1 HV2 HVI
 go_upto_region 21 with fail
 have q1 := text_s HR0.out.br.rd
 rw [H1.out] at q1
 go_upto_region 22 with (first
  | (go_at_call 100; (with_reducible refine q1.mono ?_); rintro e x1 ⟨rfl, hrx, hox⟩; have HC1 := Lib.hid (HR0.out.call HGL.out hrx hox); clear q1 hrx hox; have y2 := cells_of HC1.out.br.bk 2 _ rfl; have k2 := HC1.out.br.bk.free 2))
 have hs2 := HC1.out.set HOKR.out HGL.out 2 (.string a1) (cs' := Cm.vs ({ Cm.zero with kind := 5, txt := a1 }) (.slice none 0 0)) rfl
 have HR1 := Lib.hid hs2
 clear hs2 y2 k2 HR0 HC1
 generalize World.setCell _ _ _ = wz1 at HR1 ⊢
 have q2 := num_s HR1.out.br.rd
 rw [H2.out] at q2
 go_upto_region 23 with (first
  | (go_at_call 73; (with_reducible refine q2.mono ?_); rintro e x2 ⟨rfl, hrx, hox⟩; have HC2 := Lib.hid (HR1.out.call HGL.out hrx hox); clear q2 hrx hox; have q3 := num_s HC2.out.br.rd; rw [H3.out] at q3)
  | (go_at_call 73; (with_reducible refine q3.mono ?_); rintro e x3 ⟨rfl, hrx, hox⟩; have HC3 := Lib.hid (HC2.out.call HGL.out hrx hox); clear q3 hrx hox; have y10 := cells_of HC3.out.br.bk 10 _ rfl; have k10 := HC3.out.br.bk.free 10; have y11 := cells_of HC3.out.br.bk 11 _ rfl; have k11 := HC3.out.br.bk.free 11; have y12 := cells_of HC3.out.br.bk 12 _ rfl; have k12 := HC3.out.br.bk.free 12))
 have hs10 := HC3.out.set HOKR.out HGL.out 10 (.int .i64 2) (cs' := Cm.vs ({ Cm.zero with kind := 5, txt := a1, pk := 2 }) (.slice none 0 0)) rfl
 have hs11 := hs10.set HOKR.out HGL.out 11 (.int .i64 a2) (cs' := Cm.vs ({ Cm.zero with kind := 5, txt := a1, pk := 2, py := a2 }) (.slice none 0 0)) rfl
 have hs12 := hs11.set HOKR.out HGL.out 12 (.int .i64 a3) (cs' := Cm.vs ({ Cm.zero with kind := 5, txt := a1, pk := 2, py := a2, px := a3 }) (.slice none 0 0)) rfl
 have HR2 := Lib.hid hs12
 clear hs10 hs11 hs12 y10 k10 y11 k11 y12 k12 HR1 HC2 HC3
 generalize World.setCell _ _ _ = wz2 at HR2 ⊢
 have q4 := num_s HR2.out.br.rd
 rw [H4.out] at q4
 go_upto_region 30 with (first
  | (go_at_call 73; (with_reducible refine q4.mono ?_); rintro e x4 ⟨rfl, hrx, hox⟩; have HC4 := Lib.hid (HR2.out.call HGL.out hrx hox); clear q4 hrx hox; have q5 := num_s HC4.out.br.rd; rw [H5.out] at q5)
  | (go_at_call 73; (with_reducible refine q5.mono ?_); rintro e x5 ⟨rfl, hrx, hox⟩; have HC5 := Lib.hid (HC4.out.call HGL.out hrx hox); clear q5 hrx hox; have y7 := cells_of HC5.out.br.bk 7 _ rfl; have k7 := HC5.out.br.bk.free 7; have y8 := cells_of HC5.out.br.bk 8 _ rfl; have k8 := HC5.out.br.bk.free 8))
 have hs7 := HC5.out.set HOKR.out HGL.out 7 (.int .i64 a4) (cs' := Cm.vs ({ Cm.zero with kind := 5, txt := a1, pk := 2, py := a2, px := a3, nm := a4 }) (.slice none 0 0)) rfl
 have hs8 := hs7.set HOKR.out HGL.out 8 (.int .i64 a5) (cs' := Cm.vs ({ Cm.zero with kind := 5, txt := a1, pk := 2, py := a2, px := a3, nm := a4, dn := a5 }) (.slice none 0 0)) rfl
 have HR3 := Lib.hid hs8
 clear hs7 hs8 y7 k7 y8 k8 HR2 HC4 HC5
 generalize World.setCell _ _ _ = wz3 at HR3 ⊢
 have HZ := HR3
 clear HR3
 generalize hV6 : Cm.vs ({ Cm.zero with kind := 5, txt := a1, pk := 2, py := a2, px := a3, nm := a4, dn := a5 }) (.slice none 0 0) = V6 at *
 obtain ⟨H2, H3, H4⟩ := vfs hV6
 have H1 := Lib.hid HZ.out.br.bk.hp
 have H0 := Lib.hid HZ.out.zb.hp
 have HV6 := Lib.hid hV6
 clear hV6
 go_wp2_with (first
  | (with_reducible refine wpList_load_row rfl 53 (.tmp 5) rfl b3 rfl 53 V6 (0, 0) _ H1.out Try.underlying53 rfl H4.out ?_)
  | ((with_reducible show wpList _ _ _ (⟨none, .store _ _ _, _, _, _, _⟩ :: _) _ _); go_must (refine wpList_store_row rfl 53 (.tmp 4) (.tmp 112) rfl bl V6 rfl rfl 53 _ H0.out H4.out (by rw [H3.out]; rfl) H2.out ?_)))
 have HE := HZ.out.fin HOKR.out (by have h1 := HBL.out; have h2 := HGL.out; have h3 := HBG.out; omega) V6
 refine bodyPost_ret (results_cell_row rfl _ _ bl 53 _ (0, 0) _ rfl (setRow_heap _ _ _ _ _ _ H0.out) Try.underlying53 rfl H4.out) rfl ⟨.slice none 0 0, ?_⟩
 rw [HG.out]
 exact ⟨by rw [← HV6.out], HE.1, HE.2.1, HZ.out.br.on.trans' HE.2.2 (by have := HBL.out; omega)⟩
set_option maxRecDepth 100000 in
set_option maxHeartbeats 16000000 in
theorem get_k6 {w : World} {g B : Nat} {s : RS} (h : RdS w g B s) : Calls Try.prog 72 #[.pointer (some ⟨g, 0, none⟩), .int .i64 6] w (GetCPost (fun s w => RdS w g B s) g w (get6 s)) := by
 obtain ⟨a1, s1, h1⟩ : ∃ a t, textS s = (a, t) := ⟨_, _, rfl⟩
 have HG := Lib.hid (show get6 s = ({ Cm.zero with kind := 6, txt := a1 }, s1) by simp only [get6, h1])
 have H1 := Lib.hid h1
 clear h1
 have HL0 := Lib.hid (h.below (zal w))
 have HK0 := Lib.hid (show Only g w _ from Kept.ofBelow (zal w))
 have HB0 := Lib.hid (zbk w)
 have HOKR := Lib.hid (rdS_ok g B)
 have HGL := Lib.hid h.lt
 have HBG := Lib.hid h.le
 clear h
 generalize hV' : Cm.vs { Cm.zero with kind := 6 } (.slice none 0 0) = V' at *
 obtain ⟨HV1, HV2, HVI⟩ := vfs hV'
 have HV' := Lib.hid hV'
 clear hV'
 go_enter Try.func72, Try.ntmps72
 go_upto_region 1 with fail
 rw [zero_vs]
 generalize World.alloc w _ = w2 at *
 generalize hb : w.heap.size = bl at HB0 ⊢
 have HBL := Lib.hid hb
 clear hb
 go_upto_region 2 with ((with_reducible show wpList _ _ _ (⟨none, .store _ _ _, _, _, _, _⟩ :: _) _ _); go_must (refine wpList_store_row rfl 53 (.tmp 5) (.tmp 9) rfl w2.heap.size V' rfl (by rw [← HV'.out]; rfl) 53 _ (heap_alloc_new w2 _) HVI.out (by rw [HV2.out]; rfl) HV1.out ?_))
 rw [zero_vs]
 have HR0 := Lib.hid (bz0 HOKR.out HL0.out HK0.out HB0.out HGL.out (by have h1 := HBL.out; have h2 := HGL.out; omega) V')
 generalize w2.heap.size = b3 at *
 clear HL0 HK0 HB0
 generalize World.setRow _ _ _ = w3 at HR0 ⊢
 rw [← HV'.out] at HR0
 clear HV1 HV2 HVI
 go_upto_region 24 with fail
 have q1 := text_s HR0.out.br.rd
 rw [H1.out] at q1
 go_upto_region 30 with (first
  | (go_at_call 100; (with_reducible refine q1.mono ?_); rintro e x1 ⟨rfl, hrx, hox⟩; have HC1 := Lib.hid (HR0.out.call HGL.out hrx hox); clear q1 hrx hox; have y2 := cells_of HC1.out.br.bk 2 _ rfl; have k2 := HC1.out.br.bk.free 2))
 have hs2 := HC1.out.set HOKR.out HGL.out 2 (.string a1) (cs' := Cm.vs ({ Cm.zero with kind := 6, txt := a1 }) (.slice none 0 0)) rfl
 have HR1 := Lib.hid hs2
 clear hs2 y2 k2 HR0 HC1
 generalize World.setCell _ _ _ = wz1 at HR1 ⊢
 have HZ := HR1
 clear HR1
 generalize hV6 : Cm.vs ({ Cm.zero with kind := 6, txt := a1 }) (.slice none 0 0) = V6 at *
 obtain ⟨H2, H3, H4⟩ := vfs hV6
 have H1 := Lib.hid HZ.out.br.bk.hp
 have H0 := Lib.hid HZ.out.zb.hp
 have HV6 := Lib.hid hV6
 clear hV6
 go_wp2_with (first
  | (with_reducible refine wpList_load_row rfl 53 (.tmp 5) rfl b3 rfl 53 V6 (0, 0) _ H1.out Try.underlying53 rfl H4.out ?_)
  | ((with_reducible show wpList _ _ _ (⟨none, .store _ _ _, _, _, _, _⟩ :: _) _ _); go_must (refine wpList_store_row rfl 53 (.tmp 4) (.tmp 112) rfl bl V6 rfl rfl 53 _ H0.out H4.out (by rw [H3.out]; rfl) H2.out ?_)))
 have HE := HZ.out.fin HOKR.out (by have h1 := HBL.out; have h2 := HGL.out; have h3 := HBG.out; omega) V6
 refine bodyPost_ret (results_cell_row rfl _ _ bl 53 _ (0, 0) _ rfl (setRow_heap _ _ _ _ _ _ H0.out) Try.underlying53 rfl H4.out) rfl ⟨.slice none 0 0, ?_⟩
 rw [HG.out]
 exact ⟨by rw [← HV6.out], HE.1, HE.2.1, HZ.out.br.on.trans' HE.2.2 (by have := HBL.out; omega)⟩
set_option maxRecDepth 100000 in
set_option maxHeartbeats 16000000 in
theorem get_k7 {w : World} {g B : Nat} {s : RS} (h : RdS w g B s) : Calls Try.prog 72 #[.pointer (some ⟨g, 0, none⟩), .int .i64 7] w (GetCPost (fun s w => RdS w g B s) g w (get7 s)) := by
 obtain ⟨a1, s1, h1⟩ : ∃ a t, numS s = (a, t) := ⟨_, _, rfl⟩
 obtain ⟨a2, s2, h2⟩ : ∃ a t, numS s1 = (a, t) := ⟨_, _, rfl⟩
 have HG := Lib.hid (show get7 s = ({ Cm.zero with kind := 7, pk := 3, py := a1, px := 1, nm := a2 }, s2) by simp only [get7, h1, h2])
 have H1 := Lib.hid h1
 have H2 := Lib.hid h2
 clear h1 h2
 have HL0 := Lib.hid (h.below (zal w))
 have HK0 := Lib.hid (show Only g w _ from Kept.ofBelow (zal w))
 have HB0 := Lib.hid (zbk w)
 have HOKR := Lib.hid (rdS_ok g B)
 have HGL := Lib.hid h.lt
 have HBG := Lib.hid h.le
 clear h
 generalize hV' : Cm.vs { Cm.zero with kind := 7 } (.slice none 0 0) = V' at *
 obtain ⟨HV1, HV2, HVI⟩ := vfs hV'
 have HV' := Lib.hid hV'
 clear hV'
 go_enter Try.func72, Try.ntmps72
 go_upto_region 1 with fail
 rw [zero_vs]
 generalize World.alloc w _ = w2 at *
 generalize hb : w.heap.size = bl at HB0 ⊢
 have HBL := Lib.hid hb
 clear hb
 go_upto_region 2 with ((with_reducible show wpList _ _ _ (⟨none, .store _ _ _, _, _, _, _⟩ :: _) _ _); go_must (refine wpList_store_row rfl 53 (.tmp 5) (.tmp 9) rfl w2.heap.size V' rfl (by rw [← HV'.out]; rfl) 53 _ (heap_alloc_new w2 _) HVI.out (by rw [HV2.out]; rfl) HV1.out ?_))
 rw [zero_vs]
 have HR0 := Lib.hid (bz0 HOKR.out HL0.out HK0.out HB0.out HGL.out (by have h1 := HBL.out; have h2 := HGL.out; omega) V')
 generalize w2.heap.size = b3 at *
 clear HL0 HK0 HB0
 generalize World.setRow _ _ _ = w3 at HR0 ⊢
 rw [← HV'.out] at HR0
 clear HV1 HV2 HVI
 go_upto_region 25 with fail
 have q1 := num_s HR0.out.br.rd
 rw [H1.out] at q1
 go_upto_region 26 with (first
  | (go_at_call 73; (with_reducible refine q1.mono ?_); rintro e x1 ⟨rfl, hrx, hox⟩; have HC1 := Lib.hid (HR0.out.call HGL.out hrx hox); clear q1 hrx hox; have y10 := cells_of HC1.out.br.bk 10 _ rfl; have k10 := HC1.out.br.bk.free 10; have y11 := cells_of HC1.out.br.bk 11 _ rfl; have k11 := HC1.out.br.bk.free 11; have y12 := cells_of HC1.out.br.bk 12 _ rfl; have k12 := HC1.out.br.bk.free 12))
 have hs10 := HC1.out.set HOKR.out HGL.out 10 (.int .i64 3) (cs' := Cm.vs ({ Cm.zero with kind := 7, pk := 3 }) (.slice none 0 0)) rfl
 have hs11 := hs10.set HOKR.out HGL.out 11 (.int .i64 a1) (cs' := Cm.vs ({ Cm.zero with kind := 7, pk := 3, py := a1 }) (.slice none 0 0)) rfl
 have hs12 := hs11.set HOKR.out HGL.out 12 (.int .i64 1) (cs' := Cm.vs ({ Cm.zero with kind := 7, pk := 3, py := a1, px := 1 }) (.slice none 0 0)) rfl
 have HR1 := Lib.hid hs12
 clear hs10 hs11 hs12 y10 k10 y11 k11 y12 k12 HR0 HC1
 generalize World.setCell _ _ _ = wz1 at HR1 ⊢
 have q2 := num_s HR1.out.br.rd
 rw [H2.out] at q2
 go_upto_region 30 with (first
  | (go_at_call 73; (with_reducible refine q2.mono ?_); rintro e x2 ⟨rfl, hrx, hox⟩; have HC2 := Lib.hid (HR1.out.call HGL.out hrx hox); clear q2 hrx hox; have y7 := cells_of HC2.out.br.bk 7 _ rfl; have k7 := HC2.out.br.bk.free 7))
 have hs7 := HC2.out.set HOKR.out HGL.out 7 (.int .i64 a2) (cs' := Cm.vs ({ Cm.zero with kind := 7, pk := 3, py := a1, px := 1, nm := a2 }) (.slice none 0 0)) rfl
 have HR2 := Lib.hid hs7
 clear hs7 y7 k7 HR1 HC2
 generalize World.setCell _ _ _ = wz2 at HR2 ⊢
 have HZ := HR2
 clear HR2
 generalize hV6 : Cm.vs ({ Cm.zero with kind := 7, pk := 3, py := a1, px := 1, nm := a2 }) (.slice none 0 0) = V6 at *
 obtain ⟨H2, H3, H4⟩ := vfs hV6
 have H1 := Lib.hid HZ.out.br.bk.hp
 have H0 := Lib.hid HZ.out.zb.hp
 have HV6 := Lib.hid hV6
 clear hV6
 go_wp2_with (first
  | (with_reducible refine wpList_load_row rfl 53 (.tmp 5) rfl b3 rfl 53 V6 (0, 0) _ H1.out Try.underlying53 rfl H4.out ?_)
  | ((with_reducible show wpList _ _ _ (⟨none, .store _ _ _, _, _, _, _⟩ :: _) _ _); go_must (refine wpList_store_row rfl 53 (.tmp 4) (.tmp 112) rfl bl V6 rfl rfl 53 _ H0.out H4.out (by rw [H3.out]; rfl) H2.out ?_)))
 have HE := HZ.out.fin HOKR.out (by have h1 := HBL.out; have h2 := HGL.out; have h3 := HBG.out; omega) V6
 refine bodyPost_ret (results_cell_row rfl _ _ bl 53 _ (0, 0) _ rfl (setRow_heap _ _ _ _ _ _ H0.out) Try.underlying53 rfl H4.out) rfl ⟨.slice none 0 0, ?_⟩
 rw [HG.out]
 exact ⟨by rw [← HV6.out], HE.1, HE.2.1, HZ.out.br.on.trans' HE.2.2 (by have := HBL.out; omega)⟩
set_option maxRecDepth 100000 in
set_option maxHeartbeats 16000000 in
theorem get_k8 {w : World} {g B : Nat} {s : RS} (h : RdS w g B s) : Calls Try.prog 72 #[.pointer (some ⟨g, 0, none⟩), .int .i64 8] w (GetCPost (fun s w => RdS w g B s) g w (get8 getDocS s)) := by
 obtain ⟨⟨d1, d2, d3, d4, d5, d6, d7, d8, d9⟩, s1, h1⟩ : ∃ a t, getDocS s = (a, t) := ⟨_, _, rfl⟩
 have HG := Lib.hid (show get8 getDocS s = ({ Cm.zero with kind := 8, doc := ⟨d1, d2, d3, d4, d5, d6, d7, d8, d9⟩ }, s1) by simp only [get8, h1])
 have H1 := Lib.hid h1
 clear h1
 have HL0 := Lib.hid (h.below (zal w))
 have HK0 := Lib.hid (show Only g w _ from Kept.ofBelow (zal w))
 have HB0 := Lib.hid (zbk w)
 have HOKR := Lib.hid (rdS_ok g B)
 have HGL := Lib.hid h.lt
 have HBG := Lib.hid h.le
 clear h
 generalize hV' : Cm.vs { Cm.zero with kind := 8 } (.slice none 0 0) = V' at *
 obtain ⟨HV1, HV2, HVI⟩ := vfs hV'
 have HV' := Lib.hid hV'
 clear hV'
 go_enter Try.func72, Try.ntmps72
 go_upto_region 1 with fail
 rw [zero_vs]
 generalize World.alloc w _ = w2 at *
 generalize hb : w.heap.size = bl at HB0 ⊢
 have HBL := Lib.hid hb
 clear hb
 go_upto_region 2 with ((with_reducible show wpList _ _ _ (⟨none, .store _ _ _, _, _, _, _⟩ :: _) _ _); go_must (refine wpList_store_row rfl 53 (.tmp 5) (.tmp 9) rfl w2.heap.size V' rfl (by rw [← HV'.out]; rfl) 53 _ (heap_alloc_new w2 _) HVI.out (by rw [HV2.out]; rfl) HV1.out ?_))
 rw [zero_vs]
 have HR0 := Lib.hid (bz0 HOKR.out HL0.out HK0.out HB0.out HGL.out (by have h1 := HBL.out; have h2 := HGL.out; omega) V')
 generalize w2.heap.size = b3 at *
 clear HL0 HK0 HB0
 generalize World.setRow _ _ _ = w3 at HR0 ⊢
 rw [← HV'.out] at HR0
 clear HV1 HV2 HVI
 go_upto_region 27 with fail
 have q1 := getdoc_any HR0.out.br.rd
 rw [H1.out] at q1
 simp only [Dm.vs] at q1
 go_upto_region 30 with (go_at_call 101; (with_reducible refine q1.mono ?_); rintro e x1 ⟨lv1, rfl, how, hrx, hox⟩; obtain ⟨A1, c1, rfl, _, _⟩ := how.sl.form; have HC1 := Lib.hid (HR0.out.calld HGL.out hrx hox how); clear q1 hrx hox how; have y13 := cells_of HC1.out.br.bk 13 _ rfl; have k13 := HC1.out.br.bk.free 13; have y14 := cells_of HC1.out.br.bk 14 _ rfl; have k14 := HC1.out.br.bk.free 14; have y15 := cells_of HC1.out.br.bk 15 _ rfl; have k15 := HC1.out.br.bk.free 15; have y16 := cells_of HC1.out.br.bk 16 _ rfl; have k16 := HC1.out.br.bk.free 16; have y17 := cells_of HC1.out.br.bk 17 _ rfl; have k17 := HC1.out.br.bk.free 17; have y18 := cells_of HC1.out.br.bk 18 _ rfl; have k18 := HC1.out.br.bk.free 18; have y19 := cells_of HC1.out.br.bk 19 _ rfl; have k19 := HC1.out.br.bk.free 19; have y20 := cells_of HC1.out.br.bk 20 _ rfl; have k20 := HC1.out.br.bk.free 20; have y21 := cells_of HC1.out.br.bk 21 _ rfl; have k21 := HC1.out.br.bk.free 21)
 have hs0 := HC1.out.set HOKR.out HGL.out 13 (.string d1) (cs' := Cm.vs ({ Cm.zero with kind := 8, doc := { Dm.zero with id := d1 } }) (.slice none 0 0)) rfl
 have hs1 := hs0.set HOKR.out HGL.out 14 (.bool d2) (cs' := Cm.vs ({ Cm.zero with kind := 8, doc := { Dm.zero with id := d1, sale := d2 } }) (.slice none 0 0)) rfl
 have hs2 := hs1.set HOKR.out HGL.out 15 (.bool d3) (cs' := Cm.vs ({ Cm.zero with kind := 8, doc := { Dm.zero with id := d1, sale := d2, cred := d3 } }) (.slice none 0 0)) rfl
 have hs3 := hs2.set HOKR.out HGL.out 16 (.string d4) (cs' := Cm.vs ({ Cm.zero with kind := 8, doc := { Dm.zero with id := d1, sale := d2, cred := d3, ref := d4 } }) (.slice none 0 0)) rfl
 have hs4 := hs3.set HOKR.out HGL.out 17 (.int .i64 d5) (cs' := Cm.vs ({ Cm.zero with kind := 8, doc := { Dm.zero with id := d1, sale := d2, cred := d3, ref := d4, day := d5 } }) (.slice none 0 0)) rfl
 have hs5 := hs4.set HOKR.out HGL.out 18 (.string d6) (cs' := Cm.vs ({ Cm.zero with kind := 8, doc := { Dm.zero with id := d1, sale := d2, cred := d3, ref := d4, day := d5, cty := d6 } }) (.slice none 0 0)) rfl
 have hs6 := hs5.set HOKR.out HGL.out 19 (.string d7) (cs' := Cm.vs ({ Cm.zero with kind := 8, doc := { Dm.zero with id := d1, sale := d2, cred := d3, ref := d4, day := d5, cty := d6, num := d7 } }) (.slice none 0 0)) rfl
 have hs7 := hs6.set HOKR.out HGL.out 20 (.string d8) (cs' := Cm.vs ({ Cm.zero with kind := 8, doc := { Dm.zero with id := d1, sale := d2, cred := d3, ref := d4, day := d5, cty := d6, num := d7, cur := d8 } }) (.slice none 0 0)) rfl
 have hs8 := hs7.set HOKR.out HGL.out 21 (.slice A1 d9.length c1) (cs' := Cm.vs ({ Cm.zero with kind := 8, doc := { Dm.zero with id := d1, sale := d2, cred := d3, ref := d4, day := d5, cty := d6, num := d7, cur := d8, ls := d9 } }) (.slice A1 d9.length c1)) rfl
 have HR1 := Lib.hid hs8
 clear hs0 hs1 hs2 hs3 hs4 hs5 hs6 hs7 hs8 HC1 HR0
 clear y13 k13 y14 k14 y15 k15 y16 k16 y17 k17 y18 k18 y19 k19 y20 k20 y21 k21
 generalize World.setCell _ _ _ = wz at HR1 ⊢
 have HZ := HR1
 clear HR1
 generalize hV6 : Cm.vs ({ Cm.zero with kind := 8, doc := { Dm.zero with id := d1, sale := d2, cred := d3, ref := d4, day := d5, cty := d6, num := d7, cur := d8, ls := d9 } }) (.slice A1 d9.length c1) = V6 at *
 obtain ⟨H2, H3, H4⟩ := vfs hV6
 have H1 := Lib.hid HZ.out.br.bk.hp
 have H0 := Lib.hid HZ.out.zb.hp
 have HV6 := Lib.hid hV6
 clear hV6
 go_wp2_with (first
  | (with_reducible refine wpList_load_row rfl 53 (.tmp 5) rfl b3 rfl 53 V6 (0, 0) _ H1.out Try.underlying53 rfl H4.out ?_)
  | ((with_reducible show wpList _ _ _ (⟨none, .store _ _ _, _, _, _, _⟩ :: _) _ _); go_must (refine wpList_store_row rfl 53 (.tmp 4) (.tmp 112) rfl bl V6 rfl rfl 53 _ H0.out H4.out (by rw [H3.out]; rfl) H2.out ?_)))
 have HE := HZ.out.fin HOKR.out (by have h1 := HBL.out; have h2 := HGL.out; have h3 := HBG.out; omega) V6
 refine bodyPost_ret (results_cell_row rfl _ _ bl 53 _ (0, 0) _ rfl (setRow_heap _ _ _ _ _ _ H0.out) Try.underlying53 rfl H4.out) rfl ⟨.slice A1 d9.length c1, ?_⟩
 rw [HG.out]
 exact ⟨by rw [← HV6.out], HE.1, HE.2.1, HZ.out.br.on.trans' HE.2.2 (by have := HBL.out; omega)⟩
set_option maxRecDepth 100000 in
set_option maxHeartbeats 16000000 in
theorem get_k9 {w : World} {g B : Nat} {s : RS} (h : RdS w g B s) : Calls Try.prog 72 #[.pointer (some ⟨g, 0, none⟩), .int .i64 9] w (GetCPost (fun s w => RdS w g B s) g w (get9 9 s)) := by
 obtain ⟨a1, s1, h1⟩ : ∃ a t, numS s = (a, t) := ⟨_, _, rfl⟩
 obtain ⟨a2, s2, h2⟩ : ∃ a t, numS s1 = (a, t) := ⟨_, _, rfl⟩
 obtain ⟨a3, s3, h3⟩ : ∃ a t, numS s2 = (a, t) := ⟨_, _, rfl⟩
 have HG := Lib.hid (show get9 9 s = ({ Cm.zero with kind := 9, pk := a1, py := a2, px := a3 }, s3) by simp only [get9, h1, h2, h3])
 have H1 := Lib.hid h1
 have H2 := Lib.hid h2
 have H3 := Lib.hid h3
 clear h1 h2 h3
 have HL0 := Lib.hid (h.below (zal w))
 have HK0 := Lib.hid (show Only g w _ from Kept.ofBelow (zal w))
 have HB0 := Lib.hid (zbk w)
 have HOKR := Lib.hid (rdS_ok g B)
 have HGL := Lib.hid h.lt
 have HBG := Lib.hid h.le
 clear h
 generalize hV' : Cm.vs { Cm.zero with kind := 9 } (.slice none 0 0) = V' at *
 obtain ⟨HV1, HV2, HVI⟩ := vfs hV'
 have HV' := Lib.hid hV'
 clear hV'
 go_enter Try.func72, Try.ntmps72
 go_upto_region 1 with fail
 rw [zero_vs]
 generalize World.alloc w _ = w2 at *
 generalize hb : w.heap.size = bl at HB0 ⊢
 have HBL := Lib.hid hb
 clear hb
 go_upto_region 2 with ((with_reducible show wpList _ _ _ (⟨none, .store _ _ _, _, _, _, _⟩ :: _) _ _); go_must (refine wpList_store_row rfl 53 (.tmp 5) (.tmp 9) rfl w2.heap.size V' rfl (by rw [← HV'.out]; rfl) 53 _ (heap_alloc_new w2 _) HVI.out (by rw [HV2.out]; rfl) HV1.out ?_))
 rw [zero_vs]
 have HR0 := Lib.hid (bz0 HOKR.out HL0.out HK0.out HB0.out HGL.out (by have h1 := HBL.out; have h2 := HGL.out; omega) V')
 generalize w2.heap.size = b3 at *
 clear HL0 HK0 HB0
 generalize World.setRow _ _ _ = w3 at HR0 ⊢
 rw [← HV'.out] at HR0
 clear HV1 HV2 HVI
 go_upto_region 28 with fail
 have q1 := num_s HR0.out.br.rd
 rw [H1.out] at q1
 go_upto_region 30 with (first
  | (go_at_call 73; (with_reducible refine q1.mono ?_); rintro e x1 ⟨rfl, hrx, hox⟩; have HC1 := Lib.hid (HR0.out.call HGL.out hrx hox); clear q1 hrx hox; have q2 := num_s HC1.out.br.rd; rw [H2.out] at q2)
  | (go_at_call 73; (with_reducible refine q2.mono ?_); rintro e x2 ⟨rfl, hrx, hox⟩; have HC2 := Lib.hid (HC1.out.call HGL.out hrx hox); clear q2 hrx hox; have q3 := num_s HC2.out.br.rd; rw [H3.out] at q3)
  | (go_at_call 73; (with_reducible refine q3.mono ?_); rintro e x3 ⟨rfl, hrx, hox⟩; have HC3 := Lib.hid (HC2.out.call HGL.out hrx hox); clear q3 hrx hox; have y10 := cells_of HC3.out.br.bk 10 _ rfl; have k10 := HC3.out.br.bk.free 10; have y11 := cells_of HC3.out.br.bk 11 _ rfl; have k11 := HC3.out.br.bk.free 11; have y12 := cells_of HC3.out.br.bk 12 _ rfl; have k12 := HC3.out.br.bk.free 12))
 have hs10 := HC3.out.set HOKR.out HGL.out 10 (.int .i64 a1) (cs' := Cm.vs ({ Cm.zero with kind := 9, pk := a1 }) (.slice none 0 0)) rfl
 have hs11 := hs10.set HOKR.out HGL.out 11 (.int .i64 a2) (cs' := Cm.vs ({ Cm.zero with kind := 9, pk := a1, py := a2 }) (.slice none 0 0)) rfl
 have hs12 := hs11.set HOKR.out HGL.out 12 (.int .i64 a3) (cs' := Cm.vs ({ Cm.zero with kind := 9, pk := a1, py := a2, px := a3 }) (.slice none 0 0)) rfl
 have HR1 := Lib.hid hs12
 clear hs10 hs11 hs12 y10 k10 y11 k11 y12 k12 HR0 HC1 HC2 HC3
 generalize World.setCell _ _ _ = wz1 at HR1 ⊢
 have HZ := HR1
 clear HR1
 generalize hV6 : Cm.vs ({ Cm.zero with kind := 9, pk := a1, py := a2, px := a3 }) (.slice none 0 0) = V6 at *
 obtain ⟨H2, H3, H4⟩ := vfs hV6
 have H1 := Lib.hid HZ.out.br.bk.hp
 have H0 := Lib.hid HZ.out.zb.hp
 have HV6 := Lib.hid hV6
 clear hV6
 go_wp2_with (first
  | (with_reducible refine wpList_load_row rfl 53 (.tmp 5) rfl b3 rfl 53 V6 (0, 0) _ H1.out Try.underlying53 rfl H4.out ?_)
  | ((with_reducible show wpList _ _ _ (⟨none, .store _ _ _, _, _, _, _⟩ :: _) _ _); go_must (refine wpList_store_row rfl 53 (.tmp 4) (.tmp 112) rfl bl V6 rfl rfl 53 _ H0.out H4.out (by rw [H3.out]; rfl) H2.out ?_)))
 have HE := HZ.out.fin HOKR.out (by have h1 := HBL.out; have h2 := HGL.out; have h3 := HBG.out; omega) V6
 refine bodyPost_ret (results_cell_row rfl _ _ bl 53 _ (0, 0) _ rfl (setRow_heap _ _ _ _ _ _ H0.out) Try.underlying53 rfl H4.out) rfl ⟨.slice none 0 0, ?_⟩
 rw [HG.out]
 exact ⟨by rw [← HV6.out], HE.1, HE.2.1, HZ.out.br.on.trans' HE.2.2 (by have := HBL.out; omega)⟩
set_option maxRecDepth 100000 in
set_option maxHeartbeats 16000000 in
theorem get_k10 {w : World} {g B : Nat} {s : RS} (h : RdS w g B s) : Calls Try.prog 72 #[.pointer (some ⟨g, 0, none⟩), .int .i64 10] w (GetCPost (fun s w => RdS w g B s) g w (get9 10 s)) := by
 obtain ⟨a1, s1, h1⟩ : ∃ a t, numS s = (a, t) := ⟨_, _, rfl⟩
 obtain ⟨a2, s2, h2⟩ : ∃ a t, numS s1 = (a, t) := ⟨_, _, rfl⟩
 obtain ⟨a3, s3, h3⟩ : ∃ a t, numS s2 = (a, t) := ⟨_, _, rfl⟩
 have HG := Lib.hid (show get9 10 s = ({ Cm.zero with kind := 10, pk := a1, py := a2, px := a3 }, s3) by simp only [get9, h1, h2, h3])
 have H1 := Lib.hid h1
 have H2 := Lib.hid h2
 have H3 := Lib.hid h3
 clear h1 h2 h3
 have HL0 := Lib.hid (h.below (zal w))
 have HK0 := Lib.hid (show Only g w _ from Kept.ofBelow (zal w))
 have HB0 := Lib.hid (zbk w)
 have HOKR := Lib.hid (rdS_ok g B)
 have HGL := Lib.hid h.lt
 have HBG := Lib.hid h.le
 clear h
 generalize hV' : Cm.vs { Cm.zero with kind := 10 } (.slice none 0 0) = V' at *
 obtain ⟨HV1, HV2, HVI⟩ := vfs hV'
 have HV' := Lib.hid hV'
 clear hV'
 go_enter Try.func72, Try.ntmps72
 go_upto_region 1 with fail
 rw [zero_vs]
 generalize World.alloc w _ = w2 at *
 generalize hb : w.heap.size = bl at HB0 ⊢
 have HBL := Lib.hid hb
 clear hb
 go_upto_region 2 with ((with_reducible show wpList _ _ _ (⟨none, .store _ _ _, _, _, _, _⟩ :: _) _ _); go_must (refine wpList_store_row rfl 53 (.tmp 5) (.tmp 9) rfl w2.heap.size V' rfl (by rw [← HV'.out]; rfl) 53 _ (heap_alloc_new w2 _) HVI.out (by rw [HV2.out]; rfl) HV1.out ?_))
 rw [zero_vs]
 have HR0 := Lib.hid (bz0 HOKR.out HL0.out HK0.out HB0.out HGL.out (by have h1 := HBL.out; have h2 := HGL.out; omega) V')
 generalize w2.heap.size = b3 at *
 clear HL0 HK0 HB0
 generalize World.setRow _ _ _ = w3 at HR0 ⊢
 rw [← HV'.out] at HR0
 clear HV1 HV2 HVI
 go_upto_region 28 with fail
 have q1 := num_s HR0.out.br.rd
 rw [H1.out] at q1
 go_upto_region 30 with (first
  | (go_at_call 73; (with_reducible refine q1.mono ?_); rintro e x1 ⟨rfl, hrx, hox⟩; have HC1 := Lib.hid (HR0.out.call HGL.out hrx hox); clear q1 hrx hox; have q2 := num_s HC1.out.br.rd; rw [H2.out] at q2)
  | (go_at_call 73; (with_reducible refine q2.mono ?_); rintro e x2 ⟨rfl, hrx, hox⟩; have HC2 := Lib.hid (HC1.out.call HGL.out hrx hox); clear q2 hrx hox; have q3 := num_s HC2.out.br.rd; rw [H3.out] at q3)
  | (go_at_call 73; (with_reducible refine q3.mono ?_); rintro e x3 ⟨rfl, hrx, hox⟩; have HC3 := Lib.hid (HC2.out.call HGL.out hrx hox); clear q3 hrx hox; have y10 := cells_of HC3.out.br.bk 10 _ rfl; have k10 := HC3.out.br.bk.free 10; have y11 := cells_of HC3.out.br.bk 11 _ rfl; have k11 := HC3.out.br.bk.free 11; have y12 := cells_of HC3.out.br.bk 12 _ rfl; have k12 := HC3.out.br.bk.free 12))
 have hs10 := HC3.out.set HOKR.out HGL.out 10 (.int .i64 a1) (cs' := Cm.vs ({ Cm.zero with kind := 10, pk := a1 }) (.slice none 0 0)) rfl
 have hs11 := hs10.set HOKR.out HGL.out 11 (.int .i64 a2) (cs' := Cm.vs ({ Cm.zero with kind := 10, pk := a1, py := a2 }) (.slice none 0 0)) rfl
 have hs12 := hs11.set HOKR.out HGL.out 12 (.int .i64 a3) (cs' := Cm.vs ({ Cm.zero with kind := 10, pk := a1, py := a2, px := a3 }) (.slice none 0 0)) rfl
 have HR1 := Lib.hid hs12
 clear hs10 hs11 hs12 y10 k10 y11 k11 y12 k12 HR0 HC1 HC2 HC3
 generalize World.setCell _ _ _ = wz1 at HR1 ⊢
 have HZ := HR1
 clear HR1
 generalize hV6 : Cm.vs ({ Cm.zero with kind := 10, pk := a1, py := a2, px := a3 }) (.slice none 0 0) = V6 at *
 obtain ⟨H2, H3, H4⟩ := vfs hV6
 have H1 := Lib.hid HZ.out.br.bk.hp
 have H0 := Lib.hid HZ.out.zb.hp
 have HV6 := Lib.hid hV6
 clear hV6
 go_wp2_with (first
  | (with_reducible refine wpList_load_row rfl 53 (.tmp 5) rfl b3 rfl 53 V6 (0, 0) _ H1.out Try.underlying53 rfl H4.out ?_)
  | ((with_reducible show wpList _ _ _ (⟨none, .store _ _ _, _, _, _, _⟩ :: _) _ _); go_must (refine wpList_store_row rfl 53 (.tmp 4) (.tmp 112) rfl bl V6 rfl rfl 53 _ H0.out H4.out (by rw [H3.out]; rfl) H2.out ?_)))
 have HE := HZ.out.fin HOKR.out (by have h1 := HBL.out; have h2 := HGL.out; have h3 := HBG.out; omega) V6
 refine bodyPost_ret (results_cell_row rfl _ _ bl 53 _ (0, 0) _ rfl (setRow_heap _ _ _ _ _ _ H0.out) Try.underlying53 rfl H4.out) rfl ⟨.slice none 0 0, ?_⟩
 rw [HG.out]
 exact ⟨by rw [← HV6.out], HE.1, HE.2.1, HZ.out.br.on.trans' HE.2.2 (by have := HBL.out; omega)⟩
set_option maxRecDepth 100000 in
set_option maxHeartbeats 16000000 in
theorem get_k11 {w : World} {g B : Nat} {s : RS} (h : RdS w g B s) : Calls Try.prog 72 #[.pointer (some ⟨g, 0, none⟩), .int .i64 11] w (GetCPost (fun s w => RdS w g B s) g w (get11 s)) := by
 obtain ⟨a1, s1, h1⟩ : ∃ a t, numS s = (a, t) := ⟨_, _, rfl⟩
 have HG := Lib.hid (show get11 s = ({ Cm.zero with kind := 11, pk := 3, py := a1, px := 1 }, s1) by simp only [get11, h1])
 have H1 := Lib.hid h1
 clear h1
 have HL0 := Lib.hid (h.below (zal w))
 have HK0 := Lib.hid (show Only g w _ from Kept.ofBelow (zal w))
 have HB0 := Lib.hid (zbk w)
 have HOKR := Lib.hid (rdS_ok g B)
 have HGL := Lib.hid h.lt
 have HBG := Lib.hid h.le
 clear h
 generalize hV' : Cm.vs { Cm.zero with kind := 11 } (.slice none 0 0) = V' at *
 obtain ⟨HV1, HV2, HVI⟩ := vfs hV'
 have HV' := Lib.hid hV'
 clear hV'
 go_enter Try.func72, Try.ntmps72
 go_upto_region 1 with fail
 rw [zero_vs]
 generalize World.alloc w _ = w2 at *
 generalize hb : w.heap.size = bl at HB0 ⊢
 have HBL := Lib.hid hb
 clear hb
 go_upto_region 2 with ((with_reducible show wpList _ _ _ (⟨none, .store _ _ _, _, _, _, _⟩ :: _) _ _); go_must (refine wpList_store_row rfl 53 (.tmp 5) (.tmp 9) rfl w2.heap.size V' rfl (by rw [← HV'.out]; rfl) 53 _ (heap_alloc_new w2 _) HVI.out (by rw [HV2.out]; rfl) HV1.out ?_))
 rw [zero_vs]
 have HR0 := Lib.hid (bz0 HOKR.out HL0.out HK0.out HB0.out HGL.out (by have h1 := HBL.out; have h2 := HGL.out; omega) V')
 generalize w2.heap.size = b3 at *
 clear HL0 HK0 HB0
 generalize World.setRow _ _ _ = w3 at HR0 ⊢
 rw [← HV'.out] at HR0
 clear HV1 HV2 HVI
 go_upto_region 29 with fail
 have q1 := num_s HR0.out.br.rd
 rw [H1.out] at q1
 go_upto_region 30 with (first
  | (go_at_call 73; (with_reducible refine q1.mono ?_); rintro e x1 ⟨rfl, hrx, hox⟩; have HC1 := Lib.hid (HR0.out.call HGL.out hrx hox); clear q1 hrx hox; have y10 := cells_of HC1.out.br.bk 10 _ rfl; have k10 := HC1.out.br.bk.free 10; have y11 := cells_of HC1.out.br.bk 11 _ rfl; have k11 := HC1.out.br.bk.free 11; have y12 := cells_of HC1.out.br.bk 12 _ rfl; have k12 := HC1.out.br.bk.free 12))
 have hs10 := HC1.out.set HOKR.out HGL.out 10 (.int .i64 3) (cs' := Cm.vs ({ Cm.zero with kind := 11, pk := 3 }) (.slice none 0 0)) rfl
 have hs11 := hs10.set HOKR.out HGL.out 11 (.int .i64 a1) (cs' := Cm.vs ({ Cm.zero with kind := 11, pk := 3, py := a1 }) (.slice none 0 0)) rfl
 have hs12 := hs11.set HOKR.out HGL.out 12 (.int .i64 1) (cs' := Cm.vs ({ Cm.zero with kind := 11, pk := 3, py := a1, px := 1 }) (.slice none 0 0)) rfl
 have HR1 := Lib.hid hs12
 clear hs10 hs11 hs12 y10 k10 y11 k11 y12 k12 HR0 HC1
 generalize World.setCell _ _ _ = wz1 at HR1 ⊢
 have HZ := HR1
 clear HR1
 generalize hV6 : Cm.vs ({ Cm.zero with kind := 11, pk := 3, py := a1, px := 1 }) (.slice none 0 0) = V6 at *
 obtain ⟨H2, H3, H4⟩ := vfs hV6
 have H1 := Lib.hid HZ.out.br.bk.hp
 have H0 := Lib.hid HZ.out.zb.hp
 have HV6 := Lib.hid hV6
 clear hV6
 go_wp2_with (first
  | (with_reducible refine wpList_load_row rfl 53 (.tmp 5) rfl b3 rfl 53 V6 (0, 0) _ H1.out Try.underlying53 rfl H4.out ?_)
  | ((with_reducible show wpList _ _ _ (⟨none, .store _ _ _, _, _, _, _⟩ :: _) _ _); go_must (refine wpList_store_row rfl 53 (.tmp 4) (.tmp 112) rfl bl V6 rfl rfl 53 _ H0.out H4.out (by rw [H3.out]; rfl) H2.out ?_)))
 have HE := HZ.out.fin HOKR.out (by have h1 := HBL.out; have h2 := HGL.out; have h3 := HBG.out; omega) V6
 refine bodyPost_ret (results_cell_row rfl _ _ bl 53 _ (0, 0) _ rfl (setRow_heap _ _ _ _ _ _ H0.out) Try.underlying53 rfl H4.out) rfl ⟨.slice none 0 0, ?_⟩
 rw [HG.out]
 exact ⟨by rw [← HV6.out], HE.1, HE.2.1, HZ.out.br.on.trans' HE.2.2 (by have := HBL.out; omega)⟩
set_option maxRecDepth 100000 in
set_option maxHeartbeats 16000000 in
theorem get_k0 {w : World} {g B : Nat} {s : RS} {k : Int} (hk : NoKind k) (h : RdS w g B s) : Calls Try.prog 72 #[.pointer (some ⟨g, 0, none⟩), .int .i64 k] w (GetCPost (fun s w => RdS w g B s) g w ((({ Cm.zero with kind := k }, s) : Cm × RS))) := by
 have HL0 := Lib.hid (h.below (zal w))
 have HK0 := Lib.hid (show Only g w _ from Kept.ofBelow (zal w))
 have HB0 := Lib.hid (zbk w)
 have HOKR := Lib.hid (rdS_ok g B)
 have HGL := Lib.hid h.lt
 have HBG := Lib.hid h.le
 clear h
 generalize hV' : Cm.vs { Cm.zero with kind := k } (.slice none 0 0) = V' at *
 obtain ⟨HV1, HV2, HVI⟩ := vfs hV'
 have HV' := Lib.hid hV'
 clear hV'
 have e1 : (k == 1) = false := by rw [beq_eq_false_iff_ne]; exact hk.n1
 have e2 : (k == 2) = false := by rw [beq_eq_false_iff_ne]; exact hk.n2
 have e3 : (k == 3) = false := by rw [beq_eq_false_iff_ne]; exact hk.n3
 have e4 : (k == 4) = false := by rw [beq_eq_false_iff_ne]; exact hk.n4
 have e5 : (k == 5) = false := by rw [beq_eq_false_iff_ne]; exact hk.n5
 have e6 : (k == 6) = false := by rw [beq_eq_false_iff_ne]; exact hk.n6
 have e7 : (k == 7) = false := by rw [beq_eq_false_iff_ne]; exact hk.n7
 have e8 : (k == 8) = false := by rw [beq_eq_false_iff_ne]; exact hk.n8
 have e9 : (k == 9) = false := by rw [beq_eq_false_iff_ne]; exact hk.n9
 have e10 : (k == 10) = false := by rw [beq_eq_false_iff_ne]; exact hk.n10
 have e11 : (k == 11) = false := by rw [beq_eq_false_iff_ne]; exact hk.n11
 go_enter Try.func72, Try.ntmps72
 go_upto_region 1 with fail
 rw [zero_vs]
 generalize World.alloc w _ = w2 at *
 generalize hb : w.heap.size = bl at HB0 ⊢
 have HBL := Lib.hid hb
 clear hb
 go_upto_region 2 with ((with_reducible show wpList _ _ _ (⟨none, .store _ _ _, _, _, _, _⟩ :: _) _ _); go_must (refine wpList_store_row rfl 53 (.tmp 5) (.tmp 9) rfl w2.heap.size V' rfl (by rw [← HV'.out]; rfl) 53 _ (heap_alloc_new w2 _) HVI.out (by rw [HV2.out]; rfl) HV1.out ?_))
 rw [zero_vs]
 have HR0 := Lib.hid (bz0 HOKR.out HL0.out HK0.out HB0.out HGL.out (by have h1 := HBL.out; have h2 := HGL.out; omega) V')
 generalize w2.heap.size = b3 at *
 clear HL0 HK0 HB0
 generalize World.setRow _ _ _ = w3 at HR0 ⊢
 rw [← HV'.out] at HR0
 clear HV1 HV2 HVI
 go_upto_region 30 with fail
 have HZ := HR0
 clear HR0
 generalize hV6 : Cm.vs ({ Cm.zero with kind := k }) (.slice none 0 0) = V6 at *
 obtain ⟨H2, H3, H4⟩ := vfs hV6
 have H1 := Lib.hid HZ.out.br.bk.hp
 have H0 := Lib.hid HZ.out.zb.hp
 have HV6 := Lib.hid hV6
 clear hV6
 go_wp2_with (first
  | (with_reducible refine wpList_load_row rfl 53 (.tmp 5) rfl b3 rfl 53 V6 (0, 0) _ H1.out Try.underlying53 rfl H4.out ?_)
  | ((with_reducible show wpList _ _ _ (⟨none, .store _ _ _, _, _, _, _⟩ :: _) _ _); go_must (refine wpList_store_row rfl 53 (.tmp 4) (.tmp 112) rfl bl V6 rfl rfl 53 _ H0.out H4.out (by rw [H3.out]; rfl) H2.out ?_)))
 have HE := HZ.out.fin HOKR.out (by have h1 := HBL.out; have h2 := HGL.out; have h3 := HBG.out; omega) V6
 refine bodyPost_ret (results_cell_row rfl _ _ bl 53 _ (0, 0) _ rfl (setRow_heap _ _ _ _ _ _ H0.out) Try.underlying53 rfl H4.out) rfl ⟨.slice none 0 0, ?_⟩
 exact ⟨by rw [← HV6.out], HE.1, HE.2.1, HZ.out.br.on.trans' HE.2.2 (by have := HBL.out; omega)⟩
theorem get_any {w : World} {g B : Nat} {s : RS} (k : Int) (h : RdS w g B s) : Calls Try.prog 72 #[.pointer (some ⟨g, 0, none⟩), .int .i64 k] w (GetCPost (fun s w => RdS w g B s) g w (getK getDocS k s)) := by
 by_cases e1 : k = 1
 ·subst e1; exact get_k1 h
 by_cases e2 : k = 2
 ·subst e2; exact get_k2 h
 by_cases e3 : k = 3
 ·subst e3; exact get_k3 h
 by_cases e4 : k = 4
 ·subst e4; exact get_k4 h
 by_cases e5 : k = 5
 ·subst e5; exact get_k5 h
 by_cases e6 : k = 6
 ·subst e6; exact get_k6 h
 by_cases e7 : k = 7
 ·subst e7; exact get_k7 h
 by_cases e8 : k = 8
 ·subst e8; exact get_k8 h
 by_cases e9 : k = 9
 ·subst e9; exact get_k9 h
 by_cases e10 : k = 10
 ·subst e10; exact get_k10 h
 by_cases e11 : k = 11
 ·subst e11; exact get_k11 h
 have hk : NoKind k := ⟨e1, e2, e3, e4, e5, e6, e7, e8, e9, e10, e11⟩
 rw [getK_no hk]
 exact get_k0 hk h
end Go.Proofs.Ytnfpmobmfcgfnaa

