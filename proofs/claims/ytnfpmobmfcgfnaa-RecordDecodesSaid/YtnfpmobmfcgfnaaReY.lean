/- THE WALK OF octroiref08.read (printed by gen/gengtc.py). -/
import Derived.Test.YtnfpmobmfcgfnaaReU
namespace Go.Proofs.Ytnfpmobmfcgfnaa
open Go.RowKit
theorem qdS_new {w : World} {B : Nat} {A : Option Addr} {c : Nat} {L : List UInt8} (h : Byt w B (.slice A L.length c) L) (hB : B ≤ w.heap.size) : QdS (w.alloc (.cells #[.slice A L.length c, .int .i64 0, .bool false] 125)) w.heap.size B A c L (some L) :=
 ⟨0, rfl, heap_alloc_new w _, h.alloc hB _, hB, Nat.zero_le _⟩
theorem rd0 {w w1 : World} {B bl : Nat} {A : Option Addr} {c : Nat} {L : List UInt8} (hy : Byt w1 B (.slice A L.length c) L) (hz : Blk w1 bl (Cm.zero.vs (.slice none 0 0)) 53) (hl : Below w.heap.size w w1) (hB : B ≤ bl) :
  Hid (QdS (w1.alloc (.cells #[.slice A L.length c, .int .i64 0, .bool false] 125)) w1.heap.size B A c L (some L)) ∧ Hid (Below w.heap.size w (w1.alloc (.cells #[.slice A L.length c, .int .i64 0, .bool false] 125))) ∧ Hid (bl < w1.heap.size) ∧
  Hid (Blk (w1.alloc (.cells #[.slice A L.length c, .int .i64 0, .bool false] 125)) bl (Cm.zero.vs (.slice none 0 0)) 53) ∧ Hid (w1.heap.size < (w1.alloc (.cells #[.slice A L.length c, .int .i64 0, .bool false] 125)).heap.size) ∧
  Hid (Rok (fun s w => QdS w w1.heap.size B A c L s) w1.heap.size B) := by
 have hq := qdS_new hy (Nat.le_trans hB (Nat.le_of_lt hz.lt))
 have hb2 := (Below.refl w1.heap.size w1).alloc (Nat.le_refl _) (.cells #[.slice A L.length c, .int .i64 0, .bool false] 125)
 exact ⟨Lib.hid hq, Lib.hid (hl.trans (hb2.mono hl.size)), Lib.hid hz.lt, Lib.hid ((hb2.block bl hz.lt).trans hz), Lib.hid hq.lt, Lib.hid (qdS_ok _ _ _ _ _)⟩
theorem Only.belowOf {B0 g : Nat} {w w' : World} (k : Only g w w') (hg : B0 ≤ g) (hw : B0 ≤ w.heap.size) : Below B0 w w' := k.toBelow hw fun b hb => by omega
set_option maxRecDepth 100000 in
set_option maxHeartbeats 16000000 in
theorem read_k1 {w : World} {B : Nat} {A : Option Addr} {c : Nat} {L : List UInt8} {s : RS} (h : Byt w B (.slice A L.length c) L) (hB : B ≤ w.heap.size) (hn : numS (some L) = (1, s)) : Calls Try.prog 75 #[.slice A L.length c] w (ReadCPost w (get1 s)) := by
 obtain ⟨a1, s1, h1⟩ : ∃ a t, textS s = (a, t) := ⟨_, _, rfl⟩
 obtain ⟨a2, s2, h2⟩ : ∃ a t, numS s1 = (a, t) := ⟨_, _, rfl⟩
 obtain ⟨a3, s3, h3⟩ : ∃ a t, numS s2 = (a, t) := ⟨_, _, rfl⟩
 have HG := Lib.hid (show get1 s = ({ Cm.zero with kind := 1, cty := a1, ix := a2, day := a3 }, s3) by simp only [get1, h1, h2, h3])
 have H1 := Lib.hid h1
 have H2 := Lib.hid h2
 have H3 := Lib.hid h3
 clear h1 h2 h3
 have HY1 := Lib.hid (h.alloc hB (.cells (Cm.zero.vs (.slice none 0 0)) 53))
 have HB0 := Lib.hid (zbk w)
 have HL0 := Lib.hid (zal w)
 have HN := Lib.hid hn
 have HBW := Lib.hid hB
 clear h hn hB
 generalize hV' : Cm.vs { Cm.zero with kind := 1 } (.slice none 0 0) = V' at *
 obtain ⟨HV1, HV2, HVI⟩ := vfs hV'
 have HV' := Lib.hid hV'
 clear hV'
 go_enter Try.func75, Try.ntmps75
 go_upto_region 1 with fail
 rw [zero_vs]
 generalize World.alloc w _ = w1 at *
 generalize hb : w.heap.size = bl at HB0 HBW ⊢
 have HBL := Lib.hid hb
 clear hb
 go_upto_region 2 with fail
 obtain ⟨HQ, HL2, HNG, HZ2, HGL, HOKR⟩ := rd0 HY1.out HB0.out HL0.out HBW.out
 generalize World.alloc w1 _ = w2 at *
 generalize w1.heap.size = g at *
 clear HL0 HB0 HY1
 have q0 := qnum_s HQ.out
 rw [HN.out] at q0
 go_upto_region 3 with (first
  | (go_at_call 105; (with_reducible refine q0.mono ?_); rintro e w3 ⟨rfl, hr3, ho3⟩; have HR3 := Lib.hid hr3; have HO3 := Lib.hid ho3; clear q0 hr3 ho3)
  | ((with_reducible show wpList _ _ _ (⟨none, .store _ _ _, _, _, _, _⟩ :: _) _ _); go_must (refine wpList_store_row rfl 53 (.tmp 4) (.tmp 10) rfl w3.heap.size V' rfl (by rw [← HV'.out]; rfl) 53 _ (heap_alloc_new w3 _) HVI.out (by rw [HV2.out]; rfl) HV1.out ?_)))
 rw [zero_vs]
 have HR0 := Lib.hid (bz0 HOKR.out HR3.out HO3.out (HO3.out.heap HZ2.out (Nat.ne_of_lt HNG.out)) HGL.out (Nat.ne_of_lt HNG.out) V')
 generalize w3.heap.size = b3 at *
 clear HR3 HO3 HZ2 HQ
 generalize World.setRow _ _ _ = w4 at HR0 ⊢
 rw [← HV'.out] at HR0
 clear HV1 HV2 HVI
 have y0 : w4.cell? ⟨b3, 0, none⟩ = some (.int .i64 1) := cells_of HR0.out.br.bk 0 _ rfl
 go_upto_region 5 with fail
 clear y0
 have q1 := qtext_s HR0.out.br.rd
 rw [H1.out] at q1
 go_upto_region 6 with (first
  | (go_at_call 106; (with_reducible refine q1.mono ?_); rintro e x1 ⟨rfl, hrx, hox⟩; have HC1 := Lib.hid (HR0.out.call HGL.out hrx hox); clear q1 hrx hox; have y1 := cells_of HC1.out.br.bk 1 _ rfl; have k1 := HC1.out.br.bk.free 1))
 have hs1 := HC1.out.set HOKR.out HGL.out 1 (.string a1) (cs' := Cm.vs ({ Cm.zero with kind := 1, cty := a1 }) (.slice none 0 0)) rfl
 have HR1 := Lib.hid hs1
 clear hs1 y1 k1 HR0 HC1
 generalize World.setCell _ _ _ = wz1 at HR1 ⊢
 have q2 := qnum_s HR1.out.br.rd
 rw [H2.out] at q2
 go_upto_region 7 with (first
  | (go_at_call 105; (with_reducible refine q2.mono ?_); rintro e x2 ⟨rfl, hrx, hox⟩; have HC2 := Lib.hid (HR1.out.call HGL.out hrx hox); clear q2 hrx hox; have y9 := cells_of HC2.out.br.bk 9 _ rfl; have k9 := HC2.out.br.bk.free 9))
 have hs9 := HC2.out.set HOKR.out HGL.out 9 (.int .i64 a2) (cs' := Cm.vs ({ Cm.zero with kind := 1, cty := a1, ix := a2 }) (.slice none 0 0)) rfl
 have HR2 := Lib.hid hs9
 clear hs9 y9 k9 HR1 HC2
 generalize World.setCell _ _ _ = wz2 at HR2 ⊢
 have q3 := qnum_s HR2.out.br.rd
 rw [H3.out] at q3
 go_upto_region 43 with (first
  | (go_at_call 105; (with_reducible refine q3.mono ?_); rintro e x3 ⟨rfl, hrx, hox⟩; have HC3 := Lib.hid (HR2.out.call HGL.out hrx hox); clear q3 hrx hox; have y5 := cells_of HC3.out.br.bk 5 _ rfl; have k5 := HC3.out.br.bk.free 5))
 have hs5 := HC3.out.set HOKR.out HGL.out 5 (.int .i64 a3) (cs' := Cm.vs ({ Cm.zero with kind := 1, cty := a1, ix := a2, day := a3 }) (.slice none 0 0)) rfl
 have HR3 := Lib.hid hs5
 clear hs5 y5 k5 HR2 HC3
 generalize World.setCell _ _ _ = wz3 at HR3 ⊢
 have HZ := HR3
 clear HR3
 generalize hV6 : Cm.vs ({ Cm.zero with kind := 1, cty := a1, ix := a2, day := a3 }) (.slice none 0 0) = V6 at *
 obtain ⟨H2, H3, H4⟩ := vfs hV6
 have H1 := Lib.hid HZ.out.br.bk.hp
 have H0 := Lib.hid HZ.out.zb.hp
 have HV6 := Lib.hid hV6
 clear hV6
 go_wp2_with (first
  | (with_reducible refine wpList_load_row rfl 53 (.tmp 4) rfl b3 rfl 53 V6 (0, 0) _ H1.out Try.underlying53 rfl H4.out ?_)
  | ((with_reducible show wpList _ _ _ (⟨none, .store _ _ _, _, _, _, _⟩ :: _) _ _); go_must (refine wpList_store_row rfl 53 (.tmp 2) (.tmp 124) rfl bl V6 rfl rfl 53 _ H0.out H4.out (by rw [H3.out]; rfl) H2.out ?_)))
 have HE := HZ.out.fin HOKR.out (by have h1 := HBW.out; omega) V6
 refine bodyPost_ret (results_cell_row rfl _ _ bl 53 _ (0, 0) _ rfl (setRow_heap _ _ _ _ _ _ H0.out) Try.underlying53 rfl H4.out) rfl ⟨.slice none 0 0, ?_⟩
 rw [HG.out]
 have hs := HL2.out.size
 have hbw := HBL.out
 exact ⟨by rw [← HV6.out], HE.1.more hs, (HL2.out.trans (HZ.out.br.on.belowOf (by have := HNG.out; omega) hs)).trans (HE.2.2.toBelow (by have h2 := HZ.out.br.on.size; omega) fun b hb => by omega)⟩
set_option maxRecDepth 100000 in
set_option maxHeartbeats 16000000 in
theorem read_k2 {w : World} {B : Nat} {A : Option Addr} {c : Nat} {L : List UInt8} {s : RS} (h : Byt w B (.slice A L.length c) L) (hB : B ≤ w.heap.size) (hn : numS (some L) = (2, s)) : Calls Try.prog 75 #[.slice A L.length c] w (ReadCPost w (get2 s)) := by
 obtain ⟨a1, s1, h1⟩ : ∃ a t, textS s = (a, t) := ⟨_, _, rfl⟩
 obtain ⟨a2, s2, h2⟩ : ∃ a t, numS s1 = (a, t) := ⟨_, _, rfl⟩
 obtain ⟨a3, s3, h3⟩ : ∃ a t, numS s2 = (a, t) := ⟨_, _, rfl⟩
 obtain ⟨a4, s4, h4⟩ : ∃ a t, numS s3 = (a, t) := ⟨_, _, rfl⟩
 obtain ⟨a5, s5, h5⟩ : ∃ a t, numS s4 = (a, t) := ⟨_, _, rfl⟩
 have HG := Lib.hid (show get2 s = ({ Cm.zero with kind := 2, cty := a1, cat := a2, day := a3, til := a4, bp := a5 }, s5) by simp only [get2, h1, h2, h3, h4, h5])
 have H1 := Lib.hid h1
 have H2 := Lib.hid h2
 have H3 := Lib.hid h3
 have H4 := Lib.hid h4
 have H5 := Lib.hid h5
 clear h1 h2 h3 h4 h5
 have HY1 := Lib.hid (h.alloc hB (.cells (Cm.zero.vs (.slice none 0 0)) 53))
 have HB0 := Lib.hid (zbk w)
 have HL0 := Lib.hid (zal w)
 have HN := Lib.hid hn
 have HBW := Lib.hid hB
 clear h hn hB
 generalize hV' : Cm.vs { Cm.zero with kind := 2 } (.slice none 0 0) = V' at *
 obtain ⟨HV1, HV2, HVI⟩ := vfs hV'
 have HV' := Lib.hid hV'
 clear hV'
 go_enter Try.func75, Try.ntmps75
 go_upto_region 1 with fail
 rw [zero_vs]
 generalize World.alloc w _ = w1 at *
 generalize hb : w.heap.size = bl at HB0 HBW ⊢
 have HBL := Lib.hid hb
 clear hb
 go_upto_region 2 with fail
 obtain ⟨HQ, HL2, HNG, HZ2, HGL, HOKR⟩ := rd0 HY1.out HB0.out HL0.out HBW.out
 generalize World.alloc w1 _ = w2 at *
 generalize w1.heap.size = g at *
 clear HL0 HB0 HY1
 have q0 := qnum_s HQ.out
 rw [HN.out] at q0
 go_upto_region 3 with (first
  | (go_at_call 105; (with_reducible refine q0.mono ?_); rintro e w3 ⟨rfl, hr3, ho3⟩; have HR3 := Lib.hid hr3; have HO3 := Lib.hid ho3; clear q0 hr3 ho3)
  | ((with_reducible show wpList _ _ _ (⟨none, .store _ _ _, _, _, _, _⟩ :: _) _ _); go_must (refine wpList_store_row rfl 53 (.tmp 4) (.tmp 10) rfl w3.heap.size V' rfl (by rw [← HV'.out]; rfl) 53 _ (heap_alloc_new w3 _) HVI.out (by rw [HV2.out]; rfl) HV1.out ?_)))
 rw [zero_vs]
 have HR0 := Lib.hid (bz0 HOKR.out HR3.out HO3.out (HO3.out.heap HZ2.out (Nat.ne_of_lt HNG.out)) HGL.out (Nat.ne_of_lt HNG.out) V')
 generalize w3.heap.size = b3 at *
 clear HR3 HO3 HZ2 HQ
 generalize World.setRow _ _ _ = w4 at HR0 ⊢
 rw [← HV'.out] at HR0
 clear HV1 HV2 HVI
 have y0 : w4.cell? ⟨b3, 0, none⟩ = some (.int .i64 2) := cells_of HR0.out.br.bk 0 _ rfl
 go_upto_region 9 with fail
 clear y0
 have q1 := qtext_s HR0.out.br.rd
 rw [H1.out] at q1
 go_upto_region 10 with (first
  | (go_at_call 106; (with_reducible refine q1.mono ?_); rintro e x1 ⟨rfl, hrx, hox⟩; have HC1 := Lib.hid (HR0.out.call HGL.out hrx hox); clear q1 hrx hox; have y1 := cells_of HC1.out.br.bk 1 _ rfl; have k1 := HC1.out.br.bk.free 1))
 have hs1 := HC1.out.set HOKR.out HGL.out 1 (.string a1) (cs' := Cm.vs ({ Cm.zero with kind := 2, cty := a1 }) (.slice none 0 0)) rfl
 have HR1 := Lib.hid hs1
 clear hs1 y1 k1 HR0 HC1
 generalize World.setCell _ _ _ = wz1 at HR1 ⊢
 have q2 := qnum_s HR1.out.br.rd
 rw [H2.out] at q2
 go_upto_region 11 with (first
  | (go_at_call 105; (with_reducible refine q2.mono ?_); rintro e x2 ⟨rfl, hrx, hox⟩; have HC2 := Lib.hid (HR1.out.call HGL.out hrx hox); clear q2 hrx hox; have y3 := cells_of HC2.out.br.bk 3 _ rfl; have k3 := HC2.out.br.bk.free 3))
 have hs3 := HC2.out.set HOKR.out HGL.out 3 (.int .i64 a2) (cs' := Cm.vs ({ Cm.zero with kind := 2, cty := a1, cat := a2 }) (.slice none 0 0)) rfl
 have HR2 := Lib.hid hs3
 clear hs3 y3 k3 HR1 HC2
 generalize World.setCell _ _ _ = wz2 at HR2 ⊢
 have q3 := qnum_s HR2.out.br.rd
 rw [H3.out] at q3
 go_upto_region 12 with (first
  | (go_at_call 105; (with_reducible refine q3.mono ?_); rintro e x3 ⟨rfl, hrx, hox⟩; have HC3 := Lib.hid (HR2.out.call HGL.out hrx hox); clear q3 hrx hox; have y5 := cells_of HC3.out.br.bk 5 _ rfl; have k5 := HC3.out.br.bk.free 5))
 have hs5 := HC3.out.set HOKR.out HGL.out 5 (.int .i64 a3) (cs' := Cm.vs ({ Cm.zero with kind := 2, cty := a1, cat := a2, day := a3 }) (.slice none 0 0)) rfl
 have HR3 := Lib.hid hs5
 clear hs5 y5 k5 HR2 HC3
 generalize World.setCell _ _ _ = wz3 at HR3 ⊢
 have q4 := qnum_s HR3.out.br.rd
 rw [H4.out] at q4
 go_upto_region 13 with (first
  | (go_at_call 105; (with_reducible refine q4.mono ?_); rintro e x4 ⟨rfl, hrx, hox⟩; have HC4 := Lib.hid (HR3.out.call HGL.out hrx hox); clear q4 hrx hox; have y6 := cells_of HC4.out.br.bk 6 _ rfl; have k6 := HC4.out.br.bk.free 6))
 have hs6 := HC4.out.set HOKR.out HGL.out 6 (.int .i64 a4) (cs' := Cm.vs ({ Cm.zero with kind := 2, cty := a1, cat := a2, day := a3, til := a4 }) (.slice none 0 0)) rfl
 have HR4 := Lib.hid hs6
 clear hs6 y6 k6 HR3 HC4
 generalize World.setCell _ _ _ = wz4 at HR4 ⊢
 have q5 := qnum_s HR4.out.br.rd
 rw [H5.out] at q5
 go_upto_region 43 with (first
  | (go_at_call 105; (with_reducible refine q5.mono ?_); rintro e x5 ⟨rfl, hrx, hox⟩; have HC5 := Lib.hid (HR4.out.call HGL.out hrx hox); clear q5 hrx hox; have y4 := cells_of HC5.out.br.bk 4 _ rfl; have k4 := HC5.out.br.bk.free 4))
 have hs4 := HC5.out.set HOKR.out HGL.out 4 (.int .i64 a5) (cs' := Cm.vs ({ Cm.zero with kind := 2, cty := a1, cat := a2, day := a3, til := a4, bp := a5 }) (.slice none 0 0)) rfl
 have HR5 := Lib.hid hs4
 clear hs4 y4 k4 HR4 HC5
 generalize World.setCell _ _ _ = wz5 at HR5 ⊢
 have HZ := HR5
 clear HR5
 generalize hV6 : Cm.vs ({ Cm.zero with kind := 2, cty := a1, cat := a2, day := a3, til := a4, bp := a5 }) (.slice none 0 0) = V6 at *
 obtain ⟨H2, H3, H4⟩ := vfs hV6
 have H1 := Lib.hid HZ.out.br.bk.hp
 have H0 := Lib.hid HZ.out.zb.hp
 have HV6 := Lib.hid hV6
 clear hV6
 go_wp2_with (first
  | (with_reducible refine wpList_load_row rfl 53 (.tmp 4) rfl b3 rfl 53 V6 (0, 0) _ H1.out Try.underlying53 rfl H4.out ?_)
  | ((with_reducible show wpList _ _ _ (⟨none, .store _ _ _, _, _, _, _⟩ :: _) _ _); go_must (refine wpList_store_row rfl 53 (.tmp 2) (.tmp 124) rfl bl V6 rfl rfl 53 _ H0.out H4.out (by rw [H3.out]; rfl) H2.out ?_)))
 have HE := HZ.out.fin HOKR.out (by have h1 := HBW.out; omega) V6
 refine bodyPost_ret (results_cell_row rfl _ _ bl 53 _ (0, 0) _ rfl (setRow_heap _ _ _ _ _ _ H0.out) Try.underlying53 rfl H4.out) rfl ⟨.slice none 0 0, ?_⟩
 rw [HG.out]
 have hs := HL2.out.size
 have hbw := HBL.out
 exact ⟨by rw [← HV6.out], HE.1.more hs, (HL2.out.trans (HZ.out.br.on.belowOf (by have := HNG.out; omega) hs)).trans (HE.2.2.toBelow (by have h2 := HZ.out.br.on.size; omega) fun b hb => by omega)⟩
set_option maxRecDepth 100000 in
set_option maxHeartbeats 16000000 in
theorem read_k3 {w : World} {B : Nat} {A : Option Addr} {c : Nat} {L : List UInt8} {s : RS} (h : Byt w B (.slice A L.length c) L) (hB : B ≤ w.heap.size) (hn : numS (some L) = (3, s)) : Calls Try.prog 75 #[.slice A L.length c] w (ReadCPost w (get3 s)) := by
 obtain ⟨a1, s1, h1⟩ : ∃ a t, numS s = (a, t) := ⟨_, _, rfl⟩
 obtain ⟨a2, s2, h2⟩ : ∃ a t, numS s1 = (a, t) := ⟨_, _, rfl⟩
 have HG := Lib.hid (show get3 s = ({ Cm.zero with kind := 3, day := a1, til := a2 }, s2) by simp only [get3, h1, h2])
 have H1 := Lib.hid h1
 have H2 := Lib.hid h2
 clear h1 h2
 have HY1 := Lib.hid (h.alloc hB (.cells (Cm.zero.vs (.slice none 0 0)) 53))
 have HB0 := Lib.hid (zbk w)
 have HL0 := Lib.hid (zal w)
 have HN := Lib.hid hn
 have HBW := Lib.hid hB
 clear h hn hB
 generalize hV' : Cm.vs { Cm.zero with kind := 3 } (.slice none 0 0) = V' at *
 obtain ⟨HV1, HV2, HVI⟩ := vfs hV'
 have HV' := Lib.hid hV'
 clear hV'
 go_enter Try.func75, Try.ntmps75
 go_upto_region 1 with fail
 rw [zero_vs]
 generalize World.alloc w _ = w1 at *
 generalize hb : w.heap.size = bl at HB0 HBW ⊢
 have HBL := Lib.hid hb
 clear hb
 go_upto_region 2 with fail
 obtain ⟨HQ, HL2, HNG, HZ2, HGL, HOKR⟩ := rd0 HY1.out HB0.out HL0.out HBW.out
 generalize World.alloc w1 _ = w2 at *
 generalize w1.heap.size = g at *
 clear HL0 HB0 HY1
 have q0 := qnum_s HQ.out
 rw [HN.out] at q0
 go_upto_region 3 with (first
  | (go_at_call 105; (with_reducible refine q0.mono ?_); rintro e w3 ⟨rfl, hr3, ho3⟩; have HR3 := Lib.hid hr3; have HO3 := Lib.hid ho3; clear q0 hr3 ho3)
  | ((with_reducible show wpList _ _ _ (⟨none, .store _ _ _, _, _, _, _⟩ :: _) _ _); go_must (refine wpList_store_row rfl 53 (.tmp 4) (.tmp 10) rfl w3.heap.size V' rfl (by rw [← HV'.out]; rfl) 53 _ (heap_alloc_new w3 _) HVI.out (by rw [HV2.out]; rfl) HV1.out ?_)))
 rw [zero_vs]
 have HR0 := Lib.hid (bz0 HOKR.out HR3.out HO3.out (HO3.out.heap HZ2.out (Nat.ne_of_lt HNG.out)) HGL.out (Nat.ne_of_lt HNG.out) V')
 generalize w3.heap.size = b3 at *
 clear HR3 HO3 HZ2 HQ
 generalize World.setRow _ _ _ = w4 at HR0 ⊢
 rw [← HV'.out] at HR0
 clear HV1 HV2 HVI
 have y0 : w4.cell? ⟨b3, 0, none⟩ = some (.int .i64 3) := cells_of HR0.out.br.bk 0 _ rfl
 go_upto_region 15 with fail
 clear y0
 have q1 := qnum_s HR0.out.br.rd
 rw [H1.out] at q1
 go_upto_region 16 with (first
  | (go_at_call 105; (with_reducible refine q1.mono ?_); rintro e x1 ⟨rfl, hrx, hox⟩; have HC1 := Lib.hid (HR0.out.call HGL.out hrx hox); clear q1 hrx hox; have y5 := cells_of HC1.out.br.bk 5 _ rfl; have k5 := HC1.out.br.bk.free 5))
 have hs5 := HC1.out.set HOKR.out HGL.out 5 (.int .i64 a1) (cs' := Cm.vs ({ Cm.zero with kind := 3, day := a1 }) (.slice none 0 0)) rfl
 have HR1 := Lib.hid hs5
 clear hs5 y5 k5 HR0 HC1
 generalize World.setCell _ _ _ = wz1 at HR1 ⊢
 have q2 := qnum_s HR1.out.br.rd
 rw [H2.out] at q2
 go_upto_region 43 with (first
  | (go_at_call 105; (with_reducible refine q2.mono ?_); rintro e x2 ⟨rfl, hrx, hox⟩; have HC2 := Lib.hid (HR1.out.call HGL.out hrx hox); clear q2 hrx hox; have y6 := cells_of HC2.out.br.bk 6 _ rfl; have k6 := HC2.out.br.bk.free 6))
 have hs6 := HC2.out.set HOKR.out HGL.out 6 (.int .i64 a2) (cs' := Cm.vs ({ Cm.zero with kind := 3, day := a1, til := a2 }) (.slice none 0 0)) rfl
 have HR2 := Lib.hid hs6
 clear hs6 y6 k6 HR1 HC2
 generalize World.setCell _ _ _ = wz2 at HR2 ⊢
 have HZ := HR2
 clear HR2
 generalize hV6 : Cm.vs ({ Cm.zero with kind := 3, day := a1, til := a2 }) (.slice none 0 0) = V6 at *
 obtain ⟨H2, H3, H4⟩ := vfs hV6
 have H1 := Lib.hid HZ.out.br.bk.hp
 have H0 := Lib.hid HZ.out.zb.hp
 have HV6 := Lib.hid hV6
 clear hV6
 go_wp2_with (first
  | (with_reducible refine wpList_load_row rfl 53 (.tmp 4) rfl b3 rfl 53 V6 (0, 0) _ H1.out Try.underlying53 rfl H4.out ?_)
  | ((with_reducible show wpList _ _ _ (⟨none, .store _ _ _, _, _, _, _⟩ :: _) _ _); go_must (refine wpList_store_row rfl 53 (.tmp 2) (.tmp 124) rfl bl V6 rfl rfl 53 _ H0.out H4.out (by rw [H3.out]; rfl) H2.out ?_)))
 have HE := HZ.out.fin HOKR.out (by have h1 := HBW.out; omega) V6
 refine bodyPost_ret (results_cell_row rfl _ _ bl 53 _ (0, 0) _ rfl (setRow_heap _ _ _ _ _ _ H0.out) Try.underlying53 rfl H4.out) rfl ⟨.slice none 0 0, ?_⟩
 rw [HG.out]
 have hs := HL2.out.size
 have hbw := HBL.out
 exact ⟨by rw [← HV6.out], HE.1.more hs, (HL2.out.trans (HZ.out.br.on.belowOf (by have := HNG.out; omega) hs)).trans (HE.2.2.toBelow (by have h2 := HZ.out.br.on.size; omega) fun b hb => by omega)⟩
set_option maxRecDepth 100000 in
set_option maxHeartbeats 16000000 in
theorem read_k4 {w : World} {B : Nat} {A : Option Addr} {c : Nat} {L : List UInt8} {s : RS} (h : Byt w B (.slice A L.length c) L) (hB : B ≤ w.heap.size) (hn : numS (some L) = (4, s)) : Calls Try.prog 75 #[.slice A L.length c] w (ReadCPost w (get4 s)) := by
 obtain ⟨a1, s1, h1⟩ : ∃ a t, textS s = (a, t) := ⟨_, _, rfl⟩
 obtain ⟨a2, s2, h2⟩ : ∃ a t, textS s1 = (a, t) := ⟨_, _, rfl⟩
 obtain ⟨a3, s3, h3⟩ : ∃ a t, numS s2 = (a, t) := ⟨_, _, rfl⟩
 obtain ⟨a4, s4, h4⟩ : ∃ a t, numS s3 = (a, t) := ⟨_, _, rfl⟩
 have HG := Lib.hid (show get4 s = ({ Cm.zero with kind := 4, cty := a1, txt := a2, day := a3, til := a4 }, s4) by simp only [get4, h1, h2, h3, h4])
 have H1 := Lib.hid h1
 have H2 := Lib.hid h2
 have H3 := Lib.hid h3
 have H4 := Lib.hid h4
 clear h1 h2 h3 h4
 have HY1 := Lib.hid (h.alloc hB (.cells (Cm.zero.vs (.slice none 0 0)) 53))
 have HB0 := Lib.hid (zbk w)
 have HL0 := Lib.hid (zal w)
 have HN := Lib.hid hn
 have HBW := Lib.hid hB
 clear h hn hB
 generalize hV' : Cm.vs { Cm.zero with kind := 4 } (.slice none 0 0) = V' at *
 obtain ⟨HV1, HV2, HVI⟩ := vfs hV'
 have HV' := Lib.hid hV'
 clear hV'
 go_enter Try.func75, Try.ntmps75
 go_upto_region 1 with fail
 rw [zero_vs]
 generalize World.alloc w _ = w1 at *
 generalize hb : w.heap.size = bl at HB0 HBW ⊢
 have HBL := Lib.hid hb
 clear hb
 go_upto_region 2 with fail
 obtain ⟨HQ, HL2, HNG, HZ2, HGL, HOKR⟩ := rd0 HY1.out HB0.out HL0.out HBW.out
 generalize World.alloc w1 _ = w2 at *
 generalize w1.heap.size = g at *
 clear HL0 HB0 HY1
 have q0 := qnum_s HQ.out
 rw [HN.out] at q0
 go_upto_region 3 with (first
  | (go_at_call 105; (with_reducible refine q0.mono ?_); rintro e w3 ⟨rfl, hr3, ho3⟩; have HR3 := Lib.hid hr3; have HO3 := Lib.hid ho3; clear q0 hr3 ho3)
  | ((with_reducible show wpList _ _ _ (⟨none, .store _ _ _, _, _, _, _⟩ :: _) _ _); go_must (refine wpList_store_row rfl 53 (.tmp 4) (.tmp 10) rfl w3.heap.size V' rfl (by rw [← HV'.out]; rfl) 53 _ (heap_alloc_new w3 _) HVI.out (by rw [HV2.out]; rfl) HV1.out ?_)))
 rw [zero_vs]
 have HR0 := Lib.hid (bz0 HOKR.out HR3.out HO3.out (HO3.out.heap HZ2.out (Nat.ne_of_lt HNG.out)) HGL.out (Nat.ne_of_lt HNG.out) V')
 generalize w3.heap.size = b3 at *
 clear HR3 HO3 HZ2 HQ
 generalize World.setRow _ _ _ = w4 at HR0 ⊢
 rw [← HV'.out] at HR0
 clear HV1 HV2 HVI
 have y0 : w4.cell? ⟨b3, 0, none⟩ = some (.int .i64 4) := cells_of HR0.out.br.bk 0 _ rfl
 go_upto_region 18 with fail
 clear y0
 have q1 := qtext_s HR0.out.br.rd
 rw [H1.out] at q1
 go_upto_region 19 with (first
  | (go_at_call 106; (with_reducible refine q1.mono ?_); rintro e x1 ⟨rfl, hrx, hox⟩; have HC1 := Lib.hid (HR0.out.call HGL.out hrx hox); clear q1 hrx hox; have y1 := cells_of HC1.out.br.bk 1 _ rfl; have k1 := HC1.out.br.bk.free 1))
 have hs1 := HC1.out.set HOKR.out HGL.out 1 (.string a1) (cs' := Cm.vs ({ Cm.zero with kind := 4, cty := a1 }) (.slice none 0 0)) rfl
 have HR1 := Lib.hid hs1
 clear hs1 y1 k1 HR0 HC1
 generalize World.setCell _ _ _ = wz1 at HR1 ⊢
 have q2 := qtext_s HR1.out.br.rd
 rw [H2.out] at q2
 go_upto_region 20 with (first
  | (go_at_call 106; (with_reducible refine q2.mono ?_); rintro e x2 ⟨rfl, hrx, hox⟩; have HC2 := Lib.hid (HR1.out.call HGL.out hrx hox); clear q2 hrx hox; have y2 := cells_of HC2.out.br.bk 2 _ rfl; have k2 := HC2.out.br.bk.free 2))
 have hs2 := HC2.out.set HOKR.out HGL.out 2 (.string a2) (cs' := Cm.vs ({ Cm.zero with kind := 4, cty := a1, txt := a2 }) (.slice none 0 0)) rfl
 have HR2 := Lib.hid hs2
 clear hs2 y2 k2 HR1 HC2
 generalize World.setCell _ _ _ = wz2 at HR2 ⊢
 have q3 := qnum_s HR2.out.br.rd
 rw [H3.out] at q3
 go_upto_region 21 with (first
  | (go_at_call 105; (with_reducible refine q3.mono ?_); rintro e x3 ⟨rfl, hrx, hox⟩; have HC3 := Lib.hid (HR2.out.call HGL.out hrx hox); clear q3 hrx hox; have y5 := cells_of HC3.out.br.bk 5 _ rfl; have k5 := HC3.out.br.bk.free 5))
 have hs5 := HC3.out.set HOKR.out HGL.out 5 (.int .i64 a3) (cs' := Cm.vs ({ Cm.zero with kind := 4, cty := a1, txt := a2, day := a3 }) (.slice none 0 0)) rfl
 have HR3 := Lib.hid hs5
 clear hs5 y5 k5 HR2 HC3
 generalize World.setCell _ _ _ = wz3 at HR3 ⊢
 have q4 := qnum_s HR3.out.br.rd
 rw [H4.out] at q4
 go_upto_region 43 with (first
  | (go_at_call 105; (with_reducible refine q4.mono ?_); rintro e x4 ⟨rfl, hrx, hox⟩; have HC4 := Lib.hid (HR3.out.call HGL.out hrx hox); clear q4 hrx hox; have y6 := cells_of HC4.out.br.bk 6 _ rfl; have k6 := HC4.out.br.bk.free 6))
 have hs6 := HC4.out.set HOKR.out HGL.out 6 (.int .i64 a4) (cs' := Cm.vs ({ Cm.zero with kind := 4, cty := a1, txt := a2, day := a3, til := a4 }) (.slice none 0 0)) rfl
 have HR4 := Lib.hid hs6
 clear hs6 y6 k6 HR3 HC4
 generalize World.setCell _ _ _ = wz4 at HR4 ⊢
 have HZ := HR4
 clear HR4
 generalize hV6 : Cm.vs ({ Cm.zero with kind := 4, cty := a1, txt := a2, day := a3, til := a4 }) (.slice none 0 0) = V6 at *
 obtain ⟨H2, H3, H4⟩ := vfs hV6
 have H1 := Lib.hid HZ.out.br.bk.hp
 have H0 := Lib.hid HZ.out.zb.hp
 have HV6 := Lib.hid hV6
 clear hV6
 go_wp2_with (first
  | (with_reducible refine wpList_load_row rfl 53 (.tmp 4) rfl b3 rfl 53 V6 (0, 0) _ H1.out Try.underlying53 rfl H4.out ?_)
  | ((with_reducible show wpList _ _ _ (⟨none, .store _ _ _, _, _, _, _⟩ :: _) _ _); go_must (refine wpList_store_row rfl 53 (.tmp 2) (.tmp 124) rfl bl V6 rfl rfl 53 _ H0.out H4.out (by rw [H3.out]; rfl) H2.out ?_)))
 have HE := HZ.out.fin HOKR.out (by have h1 := HBW.out; omega) V6
 refine bodyPost_ret (results_cell_row rfl _ _ bl 53 _ (0, 0) _ rfl (setRow_heap _ _ _ _ _ _ H0.out) Try.underlying53 rfl H4.out) rfl ⟨.slice none 0 0, ?_⟩
 rw [HG.out]
 have hs := HL2.out.size
 have hbw := HBL.out
 exact ⟨by rw [← HV6.out], HE.1.more hs, (HL2.out.trans (HZ.out.br.on.belowOf (by have := HNG.out; omega) hs)).trans (HE.2.2.toBelow (by have h2 := HZ.out.br.on.size; omega) fun b hb => by omega)⟩
set_option maxRecDepth 100000 in
set_option maxHeartbeats 16000000 in
theorem read_k5 {w : World} {B : Nat} {A : Option Addr} {c : Nat} {L : List UInt8} {s : RS} (h : Byt w B (.slice A L.length c) L) (hB : B ≤ w.heap.size) (hn : numS (some L) = (5, s)) : Calls Try.prog 75 #[.slice A L.length c] w (ReadCPost w (get5 s)) := by
 obtain ⟨a1, s1, h1⟩ : ∃ a t, textS s = (a, t) := ⟨_, _, rfl⟩
 obtain ⟨a2, s2, h2⟩ : ∃ a t, numS s1 = (a, t) := ⟨_, _, rfl⟩
 obtain ⟨a3, s3, h3⟩ : ∃ a t, numS s2 = (a, t) := ⟨_, _, rfl⟩
 obtain ⟨a4, s4, h4⟩ : ∃ a t, numS s3 = (a, t) := ⟨_, _, rfl⟩
 obtain ⟨a5, s5, h5⟩ : ∃ a t, numS s4 = (a, t) := ⟨_, _, rfl⟩
 have HG := Lib.hid (show get5 s = ({ Cm.zero with kind := 5, txt := a1, pk := 2, py := a2, px := a3, nm := a4, dn := a5 }, s5) by simp only [get5, h1, h2, h3, h4, h5])
 have H1 := Lib.hid h1
 have H2 := Lib.hid h2
 have H3 := Lib.hid h3
 have H4 := Lib.hid h4
 have H5 := Lib.hid h5
 clear h1 h2 h3 h4 h5
 have HY1 := Lib.hid (h.alloc hB (.cells (Cm.zero.vs (.slice none 0 0)) 53))
 have HB0 := Lib.hid (zbk w)
 have HL0 := Lib.hid (zal w)
 have HN := Lib.hid hn
 have HBW := Lib.hid hB
 clear h hn hB
 generalize hV' : Cm.vs { Cm.zero with kind := 5 } (.slice none 0 0) = V' at *
 obtain ⟨HV1, HV2, HVI⟩ := vfs hV'
 have HV' := Lib.hid hV'
 clear hV'
 go_enter Try.func75, Try.ntmps75
 go_upto_region 1 with fail
 rw [zero_vs]
 generalize World.alloc w _ = w1 at *
 generalize hb : w.heap.size = bl at HB0 HBW ⊢
 have HBL := Lib.hid hb
 clear hb
 go_upto_region 2 with fail
 obtain ⟨HQ, HL2, HNG, HZ2, HGL, HOKR⟩ := rd0 HY1.out HB0.out HL0.out HBW.out
 generalize World.alloc w1 _ = w2 at *
 generalize w1.heap.size = g at *
 clear HL0 HB0 HY1
 have q0 := qnum_s HQ.out
 rw [HN.out] at q0
 go_upto_region 3 with (first
  | (go_at_call 105; (with_reducible refine q0.mono ?_); rintro e w3 ⟨rfl, hr3, ho3⟩; have HR3 := Lib.hid hr3; have HO3 := Lib.hid ho3; clear q0 hr3 ho3)
  | ((with_reducible show wpList _ _ _ (⟨none, .store _ _ _, _, _, _, _⟩ :: _) _ _); go_must (refine wpList_store_row rfl 53 (.tmp 4) (.tmp 10) rfl w3.heap.size V' rfl (by rw [← HV'.out]; rfl) 53 _ (heap_alloc_new w3 _) HVI.out (by rw [HV2.out]; rfl) HV1.out ?_)))
 rw [zero_vs]
 have HR0 := Lib.hid (bz0 HOKR.out HR3.out HO3.out (HO3.out.heap HZ2.out (Nat.ne_of_lt HNG.out)) HGL.out (Nat.ne_of_lt HNG.out) V')
 generalize w3.heap.size = b3 at *
 clear HR3 HO3 HZ2 HQ
 generalize World.setRow _ _ _ = w4 at HR0 ⊢
 rw [← HV'.out] at HR0
 clear HV1 HV2 HVI
 have y0 : w4.cell? ⟨b3, 0, none⟩ = some (.int .i64 5) := cells_of HR0.out.br.bk 0 _ rfl
 go_upto_region 23 with fail
 clear y0
 have q1 := qtext_s HR0.out.br.rd
 rw [H1.out] at q1
 go_upto_region 24 with (first
  | (go_at_call 106; (with_reducible refine q1.mono ?_); rintro e x1 ⟨rfl, hrx, hox⟩; have HC1 := Lib.hid (HR0.out.call HGL.out hrx hox); clear q1 hrx hox; have y2 := cells_of HC1.out.br.bk 2 _ rfl; have k2 := HC1.out.br.bk.free 2))
 have hs2 := HC1.out.set HOKR.out HGL.out 2 (.string a1) (cs' := Cm.vs ({ Cm.zero with kind := 5, txt := a1 }) (.slice none 0 0)) rfl
 have HR1 := Lib.hid hs2
 clear hs2 y2 k2 HR0 HC1
 generalize World.setCell _ _ _ = wz1 at HR1 ⊢
 have y10 := cells_of HR1.out.br.bk 10 _ rfl
 have k10 := HR1.out.br.bk.free 10
 go_upto_region 25 with fail
 have hs10 := HR1.out.set HOKR.out HGL.out 10 (.int .i64 2) (cs' := Cm.vs ({ Cm.zero with kind := 5, txt := a1, pk := 2 }) (.slice none 0 0)) rfl
 have HR2 := Lib.hid hs10
 clear hs10 y10 k10 HR1 
 generalize World.setCell _ _ _ = wz2 at HR2 ⊢
 have q2 := qnum_s HR2.out.br.rd
 rw [H2.out] at q2
 go_upto_region 26 with (first
  | (go_at_call 105; (with_reducible refine q2.mono ?_); rintro e x2 ⟨rfl, hrx, hox⟩; have HC2 := Lib.hid (HR2.out.call HGL.out hrx hox); clear q2 hrx hox; have y11 := cells_of HC2.out.br.bk 11 _ rfl; have k11 := HC2.out.br.bk.free 11))
 have hs11 := HC2.out.set HOKR.out HGL.out 11 (.int .i64 a2) (cs' := Cm.vs ({ Cm.zero with kind := 5, txt := a1, pk := 2, py := a2 }) (.slice none 0 0)) rfl
 have HR3 := Lib.hid hs11
 clear hs11 y11 k11 HR2 HC2
 generalize World.setCell _ _ _ = wz3 at HR3 ⊢
 have q3 := qnum_s HR3.out.br.rd
 rw [H3.out] at q3
 go_upto_region 27 with (first
  | (go_at_call 105; (with_reducible refine q3.mono ?_); rintro e x3 ⟨rfl, hrx, hox⟩; have HC3 := Lib.hid (HR3.out.call HGL.out hrx hox); clear q3 hrx hox; have y12 := cells_of HC3.out.br.bk 12 _ rfl; have k12 := HC3.out.br.bk.free 12))
 have hs12 := HC3.out.set HOKR.out HGL.out 12 (.int .i64 a3) (cs' := Cm.vs ({ Cm.zero with kind := 5, txt := a1, pk := 2, py := a2, px := a3 }) (.slice none 0 0)) rfl
 have HR4 := Lib.hid hs12
 clear hs12 y12 k12 HR3 HC3
 generalize World.setCell _ _ _ = wz4 at HR4 ⊢
 have q4 := qnum_s HR4.out.br.rd
 rw [H4.out] at q4
 go_upto_region 28 with (first
  | (go_at_call 105; (with_reducible refine q4.mono ?_); rintro e x4 ⟨rfl, hrx, hox⟩; have HC4 := Lib.hid (HR4.out.call HGL.out hrx hox); clear q4 hrx hox; have y7 := cells_of HC4.out.br.bk 7 _ rfl; have k7 := HC4.out.br.bk.free 7))
 have hs7 := HC4.out.set HOKR.out HGL.out 7 (.int .i64 a4) (cs' := Cm.vs ({ Cm.zero with kind := 5, txt := a1, pk := 2, py := a2, px := a3, nm := a4 }) (.slice none 0 0)) rfl
 have HR5 := Lib.hid hs7
 clear hs7 y7 k7 HR4 HC4
 generalize World.setCell _ _ _ = wz5 at HR5 ⊢
 have q5 := qnum_s HR5.out.br.rd
 rw [H5.out] at q5
 go_upto_region 43 with (first
  | (go_at_call 105; (with_reducible refine q5.mono ?_); rintro e x5 ⟨rfl, hrx, hox⟩; have HC5 := Lib.hid (HR5.out.call HGL.out hrx hox); clear q5 hrx hox; have y8 := cells_of HC5.out.br.bk 8 _ rfl; have k8 := HC5.out.br.bk.free 8))
 have hs8 := HC5.out.set HOKR.out HGL.out 8 (.int .i64 a5) (cs' := Cm.vs ({ Cm.zero with kind := 5, txt := a1, pk := 2, py := a2, px := a3, nm := a4, dn := a5 }) (.slice none 0 0)) rfl
 have HR6 := Lib.hid hs8
 clear hs8 y8 k8 HR5 HC5
 generalize World.setCell _ _ _ = wz6 at HR6 ⊢
 have HZ := HR6
 clear HR6
 generalize hV6 : Cm.vs ({ Cm.zero with kind := 5, txt := a1, pk := 2, py := a2, px := a3, nm := a4, dn := a5 }) (.slice none 0 0) = V6 at *
 obtain ⟨H2, H3, H4⟩ := vfs hV6
 have H1 := Lib.hid HZ.out.br.bk.hp
 have H0 := Lib.hid HZ.out.zb.hp
 have HV6 := Lib.hid hV6
 clear hV6
 go_wp2_with (first
  | (with_reducible refine wpList_load_row rfl 53 (.tmp 4) rfl b3 rfl 53 V6 (0, 0) _ H1.out Try.underlying53 rfl H4.out ?_)
  | ((with_reducible show wpList _ _ _ (⟨none, .store _ _ _, _, _, _, _⟩ :: _) _ _); go_must (refine wpList_store_row rfl 53 (.tmp 2) (.tmp 124) rfl bl V6 rfl rfl 53 _ H0.out H4.out (by rw [H3.out]; rfl) H2.out ?_)))
 have HE := HZ.out.fin HOKR.out (by have h1 := HBW.out; omega) V6
 refine bodyPost_ret (results_cell_row rfl _ _ bl 53 _ (0, 0) _ rfl (setRow_heap _ _ _ _ _ _ H0.out) Try.underlying53 rfl H4.out) rfl ⟨.slice none 0 0, ?_⟩
 rw [HG.out]
 have hs := HL2.out.size
 have hbw := HBL.out
 exact ⟨by rw [← HV6.out], HE.1.more hs, (HL2.out.trans (HZ.out.br.on.belowOf (by have := HNG.out; omega) hs)).trans (HE.2.2.toBelow (by have h2 := HZ.out.br.on.size; omega) fun b hb => by omega)⟩
set_option maxRecDepth 100000 in
set_option maxHeartbeats 16000000 in
theorem read_k6 {w : World} {B : Nat} {A : Option Addr} {c : Nat} {L : List UInt8} {s : RS} (h : Byt w B (.slice A L.length c) L) (hB : B ≤ w.heap.size) (hn : numS (some L) = (6, s)) : Calls Try.prog 75 #[.slice A L.length c] w (ReadCPost w (get6 s)) := by
 obtain ⟨a1, s1, h1⟩ : ∃ a t, textS s = (a, t) := ⟨_, _, rfl⟩
 have HG := Lib.hid (show get6 s = ({ Cm.zero with kind := 6, txt := a1 }, s1) by simp only [get6, h1])
 have H1 := Lib.hid h1
 clear h1
 have HY1 := Lib.hid (h.alloc hB (.cells (Cm.zero.vs (.slice none 0 0)) 53))
 have HB0 := Lib.hid (zbk w)
 have HL0 := Lib.hid (zal w)
 have HN := Lib.hid hn
 have HBW := Lib.hid hB
 clear h hn hB
 generalize hV' : Cm.vs { Cm.zero with kind := 6 } (.slice none 0 0) = V' at *
 obtain ⟨HV1, HV2, HVI⟩ := vfs hV'
 have HV' := Lib.hid hV'
 clear hV'
 go_enter Try.func75, Try.ntmps75
 go_upto_region 1 with fail
 rw [zero_vs]
 generalize World.alloc w _ = w1 at *
 generalize hb : w.heap.size = bl at HB0 HBW ⊢
 have HBL := Lib.hid hb
 clear hb
 go_upto_region 2 with fail
 obtain ⟨HQ, HL2, HNG, HZ2, HGL, HOKR⟩ := rd0 HY1.out HB0.out HL0.out HBW.out
 generalize World.alloc w1 _ = w2 at *
 generalize w1.heap.size = g at *
 clear HL0 HB0 HY1
 have q0 := qnum_s HQ.out
 rw [HN.out] at q0
 go_upto_region 3 with (first
  | (go_at_call 105; (with_reducible refine q0.mono ?_); rintro e w3 ⟨rfl, hr3, ho3⟩; have HR3 := Lib.hid hr3; have HO3 := Lib.hid ho3; clear q0 hr3 ho3)
  | ((with_reducible show wpList _ _ _ (⟨none, .store _ _ _, _, _, _, _⟩ :: _) _ _); go_must (refine wpList_store_row rfl 53 (.tmp 4) (.tmp 10) rfl w3.heap.size V' rfl (by rw [← HV'.out]; rfl) 53 _ (heap_alloc_new w3 _) HVI.out (by rw [HV2.out]; rfl) HV1.out ?_)))
 rw [zero_vs]
 have HR0 := Lib.hid (bz0 HOKR.out HR3.out HO3.out (HO3.out.heap HZ2.out (Nat.ne_of_lt HNG.out)) HGL.out (Nat.ne_of_lt HNG.out) V')
 generalize w3.heap.size = b3 at *
 clear HR3 HO3 HZ2 HQ
 generalize World.setRow _ _ _ = w4 at HR0 ⊢
 rw [← HV'.out] at HR0
 clear HV1 HV2 HVI
 have y0 : w4.cell? ⟨b3, 0, none⟩ = some (.int .i64 6) := cells_of HR0.out.br.bk 0 _ rfl
 go_upto_region 30 with fail
 clear y0
 have q1 := qtext_s HR0.out.br.rd
 rw [H1.out] at q1
 go_upto_region 43 with (first
  | (go_at_call 106; (with_reducible refine q1.mono ?_); rintro e x1 ⟨rfl, hrx, hox⟩; have HC1 := Lib.hid (HR0.out.call HGL.out hrx hox); clear q1 hrx hox; have y2 := cells_of HC1.out.br.bk 2 _ rfl; have k2 := HC1.out.br.bk.free 2))
 have hs2 := HC1.out.set HOKR.out HGL.out 2 (.string a1) (cs' := Cm.vs ({ Cm.zero with kind := 6, txt := a1 }) (.slice none 0 0)) rfl
 have HR1 := Lib.hid hs2
 clear hs2 y2 k2 HR0 HC1
 generalize World.setCell _ _ _ = wz1 at HR1 ⊢
 have HZ := HR1
 clear HR1
 generalize hV6 : Cm.vs ({ Cm.zero with kind := 6, txt := a1 }) (.slice none 0 0) = V6 at *
 obtain ⟨H2, H3, H4⟩ := vfs hV6
 have H1 := Lib.hid HZ.out.br.bk.hp
 have H0 := Lib.hid HZ.out.zb.hp
 have HV6 := Lib.hid hV6
 clear hV6
 go_wp2_with (first
  | (with_reducible refine wpList_load_row rfl 53 (.tmp 4) rfl b3 rfl 53 V6 (0, 0) _ H1.out Try.underlying53 rfl H4.out ?_)
  | ((with_reducible show wpList _ _ _ (⟨none, .store _ _ _, _, _, _, _⟩ :: _) _ _); go_must (refine wpList_store_row rfl 53 (.tmp 2) (.tmp 124) rfl bl V6 rfl rfl 53 _ H0.out H4.out (by rw [H3.out]; rfl) H2.out ?_)))
 have HE := HZ.out.fin HOKR.out (by have h1 := HBW.out; omega) V6
 refine bodyPost_ret (results_cell_row rfl _ _ bl 53 _ (0, 0) _ rfl (setRow_heap _ _ _ _ _ _ H0.out) Try.underlying53 rfl H4.out) rfl ⟨.slice none 0 0, ?_⟩
 rw [HG.out]
 have hs := HL2.out.size
 have hbw := HBL.out
 exact ⟨by rw [← HV6.out], HE.1.more hs, (HL2.out.trans (HZ.out.br.on.belowOf (by have := HNG.out; omega) hs)).trans (HE.2.2.toBelow (by have h2 := HZ.out.br.on.size; omega) fun b hb => by omega)⟩
set_option maxRecDepth 100000 in
set_option maxHeartbeats 16000000 in
theorem read_k7 {w : World} {B : Nat} {A : Option Addr} {c : Nat} {L : List UInt8} {s : RS} (h : Byt w B (.slice A L.length c) L) (hB : B ≤ w.heap.size) (hn : numS (some L) = (7, s)) : Calls Try.prog 75 #[.slice A L.length c] w (ReadCPost w (get7 s)) := by
 obtain ⟨a1, s1, h1⟩ : ∃ a t, numS s = (a, t) := ⟨_, _, rfl⟩
 obtain ⟨a2, s2, h2⟩ : ∃ a t, numS s1 = (a, t) := ⟨_, _, rfl⟩
 have HG := Lib.hid (show get7 s = ({ Cm.zero with kind := 7, pk := 3, py := a1, px := 1, nm := a2 }, s2) by simp only [get7, h1, h2])
 have H1 := Lib.hid h1
 have H2 := Lib.hid h2
 clear h1 h2
 have HY1 := Lib.hid (h.alloc hB (.cells (Cm.zero.vs (.slice none 0 0)) 53))
 have HB0 := Lib.hid (zbk w)
 have HL0 := Lib.hid (zal w)
 have HN := Lib.hid hn
 have HBW := Lib.hid hB
 clear h hn hB
 generalize hV' : Cm.vs { Cm.zero with kind := 7 } (.slice none 0 0) = V' at *
 obtain ⟨HV1, HV2, HVI⟩ := vfs hV'
 have HV' := Lib.hid hV'
 clear hV'
 go_enter Try.func75, Try.ntmps75
 go_upto_region 1 with fail
 rw [zero_vs]
 generalize World.alloc w _ = w1 at *
 generalize hb : w.heap.size = bl at HB0 HBW ⊢
 have HBL := Lib.hid hb
 clear hb
 go_upto_region 2 with fail
 obtain ⟨HQ, HL2, HNG, HZ2, HGL, HOKR⟩ := rd0 HY1.out HB0.out HL0.out HBW.out
 generalize World.alloc w1 _ = w2 at *
 generalize w1.heap.size = g at *
 clear HL0 HB0 HY1
 have q0 := qnum_s HQ.out
 rw [HN.out] at q0
 go_upto_region 3 with (first
  | (go_at_call 105; (with_reducible refine q0.mono ?_); rintro e w3 ⟨rfl, hr3, ho3⟩; have HR3 := Lib.hid hr3; have HO3 := Lib.hid ho3; clear q0 hr3 ho3)
  | ((with_reducible show wpList _ _ _ (⟨none, .store _ _ _, _, _, _, _⟩ :: _) _ _); go_must (refine wpList_store_row rfl 53 (.tmp 4) (.tmp 10) rfl w3.heap.size V' rfl (by rw [← HV'.out]; rfl) 53 _ (heap_alloc_new w3 _) HVI.out (by rw [HV2.out]; rfl) HV1.out ?_)))
 rw [zero_vs]
 have HR0 := Lib.hid (bz0 HOKR.out HR3.out HO3.out (HO3.out.heap HZ2.out (Nat.ne_of_lt HNG.out)) HGL.out (Nat.ne_of_lt HNG.out) V')
 generalize w3.heap.size = b3 at *
 clear HR3 HO3 HZ2 HQ
 generalize World.setRow _ _ _ = w4 at HR0 ⊢
 rw [← HV'.out] at HR0
 clear HV1 HV2 HVI
 have y0 : w4.cell? ⟨b3, 0, none⟩ = some (.int .i64 7) := cells_of HR0.out.br.bk 0 _ rfl
 go_upto_region 32 with fail
 clear y0
 have q1 := qnum_s HR0.out.br.rd
 rw [H1.out] at q1
 go_upto_region 33 with (first
  | (go_at_call 105; (with_reducible refine q1.mono ?_); rintro e x1 ⟨rfl, hrx, hox⟩; have HC1 := Lib.hid (HR0.out.call HGL.out hrx hox); clear q1 hrx hox; have y10 := cells_of HC1.out.br.bk 10 _ rfl; have k10 := HC1.out.br.bk.free 10; have y11 := cells_of HC1.out.br.bk 11 _ rfl; have k11 := HC1.out.br.bk.free 11; have y12 := cells_of HC1.out.br.bk 12 _ rfl; have k12 := HC1.out.br.bk.free 12))
 have hs10 := HC1.out.set HOKR.out HGL.out 10 (.int .i64 3) (cs' := Cm.vs ({ Cm.zero with kind := 7, pk := 3 }) (.slice none 0 0)) rfl
 have hs11 := hs10.set HOKR.out HGL.out 11 (.int .i64 a1) (cs' := Cm.vs ({ Cm.zero with kind := 7, pk := 3, py := a1 }) (.slice none 0 0)) rfl
 have hs12 := hs11.set HOKR.out HGL.out 12 (.int .i64 1) (cs' := Cm.vs ({ Cm.zero with kind := 7, pk := 3, py := a1, px := 1 }) (.slice none 0 0)) rfl
 have HR1 := Lib.hid hs12
 clear hs10 hs11 hs12 y10 k10 y11 k11 y12 k12 HR0 HC1
 generalize World.setCell _ _ _ = wz1 at HR1 ⊢
 have q2 := qnum_s HR1.out.br.rd
 rw [H2.out] at q2
 go_upto_region 43 with (first
  | (go_at_call 105; (with_reducible refine q2.mono ?_); rintro e x2 ⟨rfl, hrx, hox⟩; have HC2 := Lib.hid (HR1.out.call HGL.out hrx hox); clear q2 hrx hox; have y7 := cells_of HC2.out.br.bk 7 _ rfl; have k7 := HC2.out.br.bk.free 7))
 have hs7 := HC2.out.set HOKR.out HGL.out 7 (.int .i64 a2) (cs' := Cm.vs ({ Cm.zero with kind := 7, pk := 3, py := a1, px := 1, nm := a2 }) (.slice none 0 0)) rfl
 have HR2 := Lib.hid hs7
 clear hs7 y7 k7 HR1 HC2
 generalize World.setCell _ _ _ = wz2 at HR2 ⊢
 have HZ := HR2
 clear HR2
 generalize hV6 : Cm.vs ({ Cm.zero with kind := 7, pk := 3, py := a1, px := 1, nm := a2 }) (.slice none 0 0) = V6 at *
 obtain ⟨H2, H3, H4⟩ := vfs hV6
 have H1 := Lib.hid HZ.out.br.bk.hp
 have H0 := Lib.hid HZ.out.zb.hp
 have HV6 := Lib.hid hV6
 clear hV6
 go_wp2_with (first
  | (with_reducible refine wpList_load_row rfl 53 (.tmp 4) rfl b3 rfl 53 V6 (0, 0) _ H1.out Try.underlying53 rfl H4.out ?_)
  | ((with_reducible show wpList _ _ _ (⟨none, .store _ _ _, _, _, _, _⟩ :: _) _ _); go_must (refine wpList_store_row rfl 53 (.tmp 2) (.tmp 124) rfl bl V6 rfl rfl 53 _ H0.out H4.out (by rw [H3.out]; rfl) H2.out ?_)))
 have HE := HZ.out.fin HOKR.out (by have h1 := HBW.out; omega) V6
 refine bodyPost_ret (results_cell_row rfl _ _ bl 53 _ (0, 0) _ rfl (setRow_heap _ _ _ _ _ _ H0.out) Try.underlying53 rfl H4.out) rfl ⟨.slice none 0 0, ?_⟩
 rw [HG.out]
 have hs := HL2.out.size
 have hbw := HBL.out
 exact ⟨by rw [← HV6.out], HE.1.more hs, (HL2.out.trans (HZ.out.br.on.belowOf (by have := HNG.out; omega) hs)).trans (HE.2.2.toBelow (by have h2 := HZ.out.br.on.size; omega) fun b hb => by omega)⟩
set_option maxRecDepth 100000 in
set_option maxHeartbeats 16000000 in
theorem read_k8 {w : World} {B : Nat} {A : Option Addr} {c : Nat} {L : List UInt8} {s : RS} (h : Byt w B (.slice A L.length c) L) (hB : B ≤ w.heap.size) (hn : numS (some L) = (8, s)) : Calls Try.prog 75 #[.slice A L.length c] w (ReadCPost w (get8 readDocS s)) := by
 obtain ⟨⟨d1, d2, d3, d4, d5, d6, d7, d8, d9⟩, s1, h1⟩ : ∃ a t, readDocS s = (a, t) := ⟨_, _, rfl⟩
 have HG := Lib.hid (show get8 readDocS s = ({ Cm.zero with kind := 8, doc := ⟨d1, d2, d3, d4, d5, d6, d7, d8, d9⟩ }, s1) by simp only [get8, h1])
 have H1 := Lib.hid h1
 clear h1
 have HY1 := Lib.hid (h.alloc hB (.cells (Cm.zero.vs (.slice none 0 0)) 53))
 have HB0 := Lib.hid (zbk w)
 have HL0 := Lib.hid (zal w)
 have HN := Lib.hid hn
 have HBW := Lib.hid hB
 clear h hn hB
 generalize hV' : Cm.vs { Cm.zero with kind := 8 } (.slice none 0 0) = V' at *
 obtain ⟨HV1, HV2, HVI⟩ := vfs hV'
 have HV' := Lib.hid hV'
 clear hV'
 go_enter Try.func75, Try.ntmps75
 go_upto_region 1 with fail
 rw [zero_vs]
 generalize World.alloc w _ = w1 at *
 generalize hb : w.heap.size = bl at HB0 HBW ⊢
 have HBL := Lib.hid hb
 clear hb
 go_upto_region 2 with fail
 obtain ⟨HQ, HL2, HNG, HZ2, HGL, HOKR⟩ := rd0 HY1.out HB0.out HL0.out HBW.out
 generalize World.alloc w1 _ = w2 at *
 generalize w1.heap.size = g at *
 clear HL0 HB0 HY1
 have q0 := qnum_s HQ.out
 rw [HN.out] at q0
 go_upto_region 3 with (first
  | (go_at_call 105; (with_reducible refine q0.mono ?_); rintro e w3 ⟨rfl, hr3, ho3⟩; have HR3 := Lib.hid hr3; have HO3 := Lib.hid ho3; clear q0 hr3 ho3)
  | ((with_reducible show wpList _ _ _ (⟨none, .store _ _ _, _, _, _, _⟩ :: _) _ _); go_must (refine wpList_store_row rfl 53 (.tmp 4) (.tmp 10) rfl w3.heap.size V' rfl (by rw [← HV'.out]; rfl) 53 _ (heap_alloc_new w3 _) HVI.out (by rw [HV2.out]; rfl) HV1.out ?_)))
 rw [zero_vs]
 have HR0 := Lib.hid (bz0 HOKR.out HR3.out HO3.out (HO3.out.heap HZ2.out (Nat.ne_of_lt HNG.out)) HGL.out (Nat.ne_of_lt HNG.out) V')
 generalize w3.heap.size = b3 at *
 clear HR3 HO3 HZ2 HQ
 generalize World.setRow _ _ _ = w4 at HR0 ⊢
 rw [← HV'.out] at HR0
 clear HV1 HV2 HVI
 have y0 : w4.cell? ⟨b3, 0, none⟩ = some (.int .i64 8) := cells_of HR0.out.br.bk 0 _ rfl
 go_upto_region 35 with fail
 clear y0
 have q1 := readdoc_any HR0.out.br.rd
 rw [H1.out] at q1
 simp only [Dm.vs] at q1
 go_upto_region 43 with (go_at_call 107; (with_reducible refine q1.mono ?_); rintro e x1 ⟨lv1, rfl, how, hrx, hox⟩; obtain ⟨A1, c1, rfl, _, _⟩ := how.sl.form; have HC1 := Lib.hid (HR0.out.calld HGL.out hrx hox how); clear q1 hrx hox how; have y13 := cells_of HC1.out.br.bk 13 _ rfl; have k13 := HC1.out.br.bk.free 13; have y14 := cells_of HC1.out.br.bk 14 _ rfl; have k14 := HC1.out.br.bk.free 14; have y15 := cells_of HC1.out.br.bk 15 _ rfl; have k15 := HC1.out.br.bk.free 15; have y16 := cells_of HC1.out.br.bk 16 _ rfl; have k16 := HC1.out.br.bk.free 16; have y17 := cells_of HC1.out.br.bk 17 _ rfl; have k17 := HC1.out.br.bk.free 17; have y18 := cells_of HC1.out.br.bk 18 _ rfl; have k18 := HC1.out.br.bk.free 18; have y19 := cells_of HC1.out.br.bk 19 _ rfl; have k19 := HC1.out.br.bk.free 19; have y20 := cells_of HC1.out.br.bk 20 _ rfl; have k20 := HC1.out.br.bk.free 20; have y21 := cells_of HC1.out.br.bk 21 _ rfl; have k21 := HC1.out.br.bk.free 21)
 have hs0 := HC1.out.set HOKR.out HGL.out 13 (.string d1) (cs' := Cm.vs ({ Cm.zero with kind := 8, doc := { Dm.zero with id := d1 } }) (.slice none 0 0)) rfl
 have hs1 := hs0.set HOKR.out HGL.out 14 (.bool d2) (cs' := Cm.vs ({ Cm.zero with kind := 8, doc := { Dm.zero with id := d1, sale := d2 } }) (.slice none 0 0)) rfl
 have hs2 := hs1.set HOKR.out HGL.out 15 (.bool d3) (cs' := Cm.vs ({ Cm.zero with kind := 8, doc := { Dm.zero with id := d1, sale := d2, cred := d3 } }) (.slice none 0 0)) rfl
 have hs3 := hs2.set HOKR.out HGL.out 16 (.string d4) (cs' := Cm.vs ({ Cm.zero with kind := 8, doc := { Dm.zero with id := d1, sale := d2, cred := d3, ref := d4 } }) (.slice none 0 0)) rfl
 have hs4 := hs3.set HOKR.out HGL.out 17 (.int .i64 d5) (cs' := Cm.vs ({ Cm.zero with kind := 8, doc := { Dm.zero with id := d1, sale := d2, cred := d3, ref := d4, day := d5 } }) (.slice none 0 0)) rfl
 have hs5 := hs4.set HOKR.out HGL.out 18 (.string d6) (cs' := Cm.vs ({ Cm.zero with kind := 8, doc := { Dm.zero with id := d1, sale := d2, cred := d3, ref := d4, day := d5, cty := d6 } }) (.slice none 0 0)) rfl
 have hs6 := hs5.set HOKR.out HGL.out 19 (.string d7) (cs' := Cm.vs ({ Cm.zero with kind := 8, doc := { Dm.zero with id := d1, sale := d2, cred := d3, ref := d4, day := d5, cty := d6, num := d7 } }) (.slice none 0 0)) rfl
 have hs7 := hs6.set HOKR.out HGL.out 20 (.string d8) (cs' := Cm.vs ({ Cm.zero with kind := 8, doc := { Dm.zero with id := d1, sale := d2, cred := d3, ref := d4, day := d5, cty := d6, num := d7, cur := d8 } }) (.slice none 0 0)) rfl
 have hs8 := hs7.set HOKR.out HGL.out 21 (.slice A1 d9.length c1) (cs' := Cm.vs ({ Cm.zero with kind := 8, doc := { Dm.zero with id := d1, sale := d2, cred := d3, ref := d4, day := d5, cty := d6, num := d7, cur := d8, ls := d9 } }) (.slice A1 d9.length c1)) rfl
 have HR1 := Lib.hid hs8
 clear hs0 hs1 hs2 hs3 hs4 hs5 hs6 hs7 hs8 HC1 HR0
 clear y13 k13 y14 k14 y15 k15 y16 k16 y17 k17 y18 k18 y19 k19 y20 k20 y21 k21
 generalize World.setCell _ _ _ = wz at HR1 ⊢
 have HZ := HR1
 clear HR1
 generalize hV6 : Cm.vs ({ Cm.zero with kind := 8, doc := { Dm.zero with id := d1, sale := d2, cred := d3, ref := d4, day := d5, cty := d6, num := d7, cur := d8, ls := d9 } }) (.slice A1 d9.length c1) = V6 at *
 obtain ⟨H2, H3, H4⟩ := vfs hV6
 have H1 := Lib.hid HZ.out.br.bk.hp
 have H0 := Lib.hid HZ.out.zb.hp
 have HV6 := Lib.hid hV6
 clear hV6
 go_wp2_with (first
  | (with_reducible refine wpList_load_row rfl 53 (.tmp 4) rfl b3 rfl 53 V6 (0, 0) _ H1.out Try.underlying53 rfl H4.out ?_)
  | ((with_reducible show wpList _ _ _ (⟨none, .store _ _ _, _, _, _, _⟩ :: _) _ _); go_must (refine wpList_store_row rfl 53 (.tmp 2) (.tmp 124) rfl bl V6 rfl rfl 53 _ H0.out H4.out (by rw [H3.out]; rfl) H2.out ?_)))
 have HE := HZ.out.fin HOKR.out (by have h1 := HBW.out; omega) V6
 refine bodyPost_ret (results_cell_row rfl _ _ bl 53 _ (0, 0) _ rfl (setRow_heap _ _ _ _ _ _ H0.out) Try.underlying53 rfl H4.out) rfl ⟨.slice A1 d9.length c1, ?_⟩
 rw [HG.out]
 have hs := HL2.out.size
 have hbw := HBL.out
 exact ⟨by rw [← HV6.out], HE.1.more hs, (HL2.out.trans (HZ.out.br.on.belowOf (by have := HNG.out; omega) hs)).trans (HE.2.2.toBelow (by have h2 := HZ.out.br.on.size; omega) fun b hb => by omega)⟩
set_option maxRecDepth 100000 in
set_option maxHeartbeats 16000000 in
theorem read_k9 {w : World} {B : Nat} {A : Option Addr} {c : Nat} {L : List UInt8} {s : RS} (h : Byt w B (.slice A L.length c) L) (hB : B ≤ w.heap.size) (hn : numS (some L) = (9, s)) : Calls Try.prog 75 #[.slice A L.length c] w (ReadCPost w (get9 9 s)) := by
 obtain ⟨a1, s1, h1⟩ : ∃ a t, numS s = (a, t) := ⟨_, _, rfl⟩
 obtain ⟨a2, s2, h2⟩ : ∃ a t, numS s1 = (a, t) := ⟨_, _, rfl⟩
 obtain ⟨a3, s3, h3⟩ : ∃ a t, numS s2 = (a, t) := ⟨_, _, rfl⟩
 have HG := Lib.hid (show get9 9 s = ({ Cm.zero with kind := 9, pk := a1, py := a2, px := a3 }, s3) by simp only [get9, h1, h2, h3])
 have H1 := Lib.hid h1
 have H2 := Lib.hid h2
 have H3 := Lib.hid h3
 clear h1 h2 h3
 have HY1 := Lib.hid (h.alloc hB (.cells (Cm.zero.vs (.slice none 0 0)) 53))
 have HB0 := Lib.hid (zbk w)
 have HL0 := Lib.hid (zal w)
 have HN := Lib.hid hn
 have HBW := Lib.hid hB
 clear h hn hB
 generalize hV' : Cm.vs { Cm.zero with kind := 9 } (.slice none 0 0) = V' at *
 obtain ⟨HV1, HV2, HVI⟩ := vfs hV'
 have HV' := Lib.hid hV'
 clear hV'
 go_enter Try.func75, Try.ntmps75
 go_upto_region 1 with fail
 rw [zero_vs]
 generalize World.alloc w _ = w1 at *
 generalize hb : w.heap.size = bl at HB0 HBW ⊢
 have HBL := Lib.hid hb
 clear hb
 go_upto_region 2 with fail
 obtain ⟨HQ, HL2, HNG, HZ2, HGL, HOKR⟩ := rd0 HY1.out HB0.out HL0.out HBW.out
 generalize World.alloc w1 _ = w2 at *
 generalize w1.heap.size = g at *
 clear HL0 HB0 HY1
 have q0 := qnum_s HQ.out
 rw [HN.out] at q0
 go_upto_region 3 with (first
  | (go_at_call 105; (with_reducible refine q0.mono ?_); rintro e w3 ⟨rfl, hr3, ho3⟩; have HR3 := Lib.hid hr3; have HO3 := Lib.hid ho3; clear q0 hr3 ho3)
  | ((with_reducible show wpList _ _ _ (⟨none, .store _ _ _, _, _, _, _⟩ :: _) _ _); go_must (refine wpList_store_row rfl 53 (.tmp 4) (.tmp 10) rfl w3.heap.size V' rfl (by rw [← HV'.out]; rfl) 53 _ (heap_alloc_new w3 _) HVI.out (by rw [HV2.out]; rfl) HV1.out ?_)))
 rw [zero_vs]
 have HR0 := Lib.hid (bz0 HOKR.out HR3.out HO3.out (HO3.out.heap HZ2.out (Nat.ne_of_lt HNG.out)) HGL.out (Nat.ne_of_lt HNG.out) V')
 generalize w3.heap.size = b3 at *
 clear HR3 HO3 HZ2 HQ
 generalize World.setRow _ _ _ = w4 at HR0 ⊢
 rw [← HV'.out] at HR0
 clear HV1 HV2 HVI
 have y0 : w4.cell? ⟨b3, 0, none⟩ = some (.int .i64 9) := cells_of HR0.out.br.bk 0 _ rfl
 go_upto_region 38 with fail
 clear y0
 have q1 := qnum_s HR0.out.br.rd
 rw [H1.out] at q1
 go_upto_region 39 with (first
  | (go_at_call 105; (with_reducible refine q1.mono ?_); rintro e x1 ⟨rfl, hrx, hox⟩; have HC1 := Lib.hid (HR0.out.call HGL.out hrx hox); clear q1 hrx hox; have y10 := cells_of HC1.out.br.bk 10 _ rfl; have k10 := HC1.out.br.bk.free 10))
 have hs10 := HC1.out.set HOKR.out HGL.out 10 (.int .i64 a1) (cs' := Cm.vs ({ Cm.zero with kind := 9, pk := a1 }) (.slice none 0 0)) rfl
 have HR1 := Lib.hid hs10
 clear hs10 y10 k10 HR0 HC1
 generalize World.setCell _ _ _ = wz1 at HR1 ⊢
 have q2 := qnum_s HR1.out.br.rd
 rw [H2.out] at q2
 go_upto_region 40 with (first
  | (go_at_call 105; (with_reducible refine q2.mono ?_); rintro e x2 ⟨rfl, hrx, hox⟩; have HC2 := Lib.hid (HR1.out.call HGL.out hrx hox); clear q2 hrx hox; have y11 := cells_of HC2.out.br.bk 11 _ rfl; have k11 := HC2.out.br.bk.free 11))
 have hs11 := HC2.out.set HOKR.out HGL.out 11 (.int .i64 a2) (cs' := Cm.vs ({ Cm.zero with kind := 9, pk := a1, py := a2 }) (.slice none 0 0)) rfl
 have HR2 := Lib.hid hs11
 clear hs11 y11 k11 HR1 HC2
 generalize World.setCell _ _ _ = wz2 at HR2 ⊢
 have q3 := qnum_s HR2.out.br.rd
 rw [H3.out] at q3
 go_upto_region 43 with (first
  | (go_at_call 105; (with_reducible refine q3.mono ?_); rintro e x3 ⟨rfl, hrx, hox⟩; have HC3 := Lib.hid (HR2.out.call HGL.out hrx hox); clear q3 hrx hox; have y12 := cells_of HC3.out.br.bk 12 _ rfl; have k12 := HC3.out.br.bk.free 12))
 have hs12 := HC3.out.set HOKR.out HGL.out 12 (.int .i64 a3) (cs' := Cm.vs ({ Cm.zero with kind := 9, pk := a1, py := a2, px := a3 }) (.slice none 0 0)) rfl
 have HR3 := Lib.hid hs12
 clear hs12 y12 k12 HR2 HC3
 generalize World.setCell _ _ _ = wz3 at HR3 ⊢
 have HZ := HR3
 clear HR3
 generalize hV6 : Cm.vs ({ Cm.zero with kind := 9, pk := a1, py := a2, px := a3 }) (.slice none 0 0) = V6 at *
 obtain ⟨H2, H3, H4⟩ := vfs hV6
 have H1 := Lib.hid HZ.out.br.bk.hp
 have H0 := Lib.hid HZ.out.zb.hp
 have HV6 := Lib.hid hV6
 clear hV6
 go_wp2_with (first
  | (with_reducible refine wpList_load_row rfl 53 (.tmp 4) rfl b3 rfl 53 V6 (0, 0) _ H1.out Try.underlying53 rfl H4.out ?_)
  | ((with_reducible show wpList _ _ _ (⟨none, .store _ _ _, _, _, _, _⟩ :: _) _ _); go_must (refine wpList_store_row rfl 53 (.tmp 2) (.tmp 124) rfl bl V6 rfl rfl 53 _ H0.out H4.out (by rw [H3.out]; rfl) H2.out ?_)))
 have HE := HZ.out.fin HOKR.out (by have h1 := HBW.out; omega) V6
 refine bodyPost_ret (results_cell_row rfl _ _ bl 53 _ (0, 0) _ rfl (setRow_heap _ _ _ _ _ _ H0.out) Try.underlying53 rfl H4.out) rfl ⟨.slice none 0 0, ?_⟩
 rw [HG.out]
 have hs := HL2.out.size
 have hbw := HBL.out
 exact ⟨by rw [← HV6.out], HE.1.more hs, (HL2.out.trans (HZ.out.br.on.belowOf (by have := HNG.out; omega) hs)).trans (HE.2.2.toBelow (by have h2 := HZ.out.br.on.size; omega) fun b hb => by omega)⟩
set_option maxRecDepth 100000 in
set_option maxHeartbeats 16000000 in
theorem read_k10 {w : World} {B : Nat} {A : Option Addr} {c : Nat} {L : List UInt8} {s : RS} (h : Byt w B (.slice A L.length c) L) (hB : B ≤ w.heap.size) (hn : numS (some L) = (10, s)) : Calls Try.prog 75 #[.slice A L.length c] w (ReadCPost w (get9 10 s)) := by
 obtain ⟨a1, s1, h1⟩ : ∃ a t, numS s = (a, t) := ⟨_, _, rfl⟩
 obtain ⟨a2, s2, h2⟩ : ∃ a t, numS s1 = (a, t) := ⟨_, _, rfl⟩
 obtain ⟨a3, s3, h3⟩ : ∃ a t, numS s2 = (a, t) := ⟨_, _, rfl⟩
 have HG := Lib.hid (show get9 10 s = ({ Cm.zero with kind := 10, pk := a1, py := a2, px := a3 }, s3) by simp only [get9, h1, h2, h3])
 have H1 := Lib.hid h1
 have H2 := Lib.hid h2
 have H3 := Lib.hid h3
 clear h1 h2 h3
 have HY1 := Lib.hid (h.alloc hB (.cells (Cm.zero.vs (.slice none 0 0)) 53))
 have HB0 := Lib.hid (zbk w)
 have HL0 := Lib.hid (zal w)
 have HN := Lib.hid hn
 have HBW := Lib.hid hB
 clear h hn hB
 generalize hV' : Cm.vs { Cm.zero with kind := 10 } (.slice none 0 0) = V' at *
 obtain ⟨HV1, HV2, HVI⟩ := vfs hV'
 have HV' := Lib.hid hV'
 clear hV'
 go_enter Try.func75, Try.ntmps75
 go_upto_region 1 with fail
 rw [zero_vs]
 generalize World.alloc w _ = w1 at *
 generalize hb : w.heap.size = bl at HB0 HBW ⊢
 have HBL := Lib.hid hb
 clear hb
 go_upto_region 2 with fail
 obtain ⟨HQ, HL2, HNG, HZ2, HGL, HOKR⟩ := rd0 HY1.out HB0.out HL0.out HBW.out
 generalize World.alloc w1 _ = w2 at *
 generalize w1.heap.size = g at *
 clear HL0 HB0 HY1
 have q0 := qnum_s HQ.out
 rw [HN.out] at q0
 go_upto_region 3 with (first
  | (go_at_call 105; (with_reducible refine q0.mono ?_); rintro e w3 ⟨rfl, hr3, ho3⟩; have HR3 := Lib.hid hr3; have HO3 := Lib.hid ho3; clear q0 hr3 ho3)
  | ((with_reducible show wpList _ _ _ (⟨none, .store _ _ _, _, _, _, _⟩ :: _) _ _); go_must (refine wpList_store_row rfl 53 (.tmp 4) (.tmp 10) rfl w3.heap.size V' rfl (by rw [← HV'.out]; rfl) 53 _ (heap_alloc_new w3 _) HVI.out (by rw [HV2.out]; rfl) HV1.out ?_)))
 rw [zero_vs]
 have HR0 := Lib.hid (bz0 HOKR.out HR3.out HO3.out (HO3.out.heap HZ2.out (Nat.ne_of_lt HNG.out)) HGL.out (Nat.ne_of_lt HNG.out) V')
 generalize w3.heap.size = b3 at *
 clear HR3 HO3 HZ2 HQ
 generalize World.setRow _ _ _ = w4 at HR0 ⊢
 rw [← HV'.out] at HR0
 clear HV1 HV2 HVI
 have y0 : w4.cell? ⟨b3, 0, none⟩ = some (.int .i64 10) := cells_of HR0.out.br.bk 0 _ rfl
 go_upto_region 38 with fail
 clear y0
 have q1 := qnum_s HR0.out.br.rd
 rw [H1.out] at q1
 go_upto_region 39 with (first
  | (go_at_call 105; (with_reducible refine q1.mono ?_); rintro e x1 ⟨rfl, hrx, hox⟩; have HC1 := Lib.hid (HR0.out.call HGL.out hrx hox); clear q1 hrx hox; have y10 := cells_of HC1.out.br.bk 10 _ rfl; have k10 := HC1.out.br.bk.free 10))
 have hs10 := HC1.out.set HOKR.out HGL.out 10 (.int .i64 a1) (cs' := Cm.vs ({ Cm.zero with kind := 10, pk := a1 }) (.slice none 0 0)) rfl
 have HR1 := Lib.hid hs10
 clear hs10 y10 k10 HR0 HC1
 generalize World.setCell _ _ _ = wz1 at HR1 ⊢
 have q2 := qnum_s HR1.out.br.rd
 rw [H2.out] at q2
 go_upto_region 40 with (first
  | (go_at_call 105; (with_reducible refine q2.mono ?_); rintro e x2 ⟨rfl, hrx, hox⟩; have HC2 := Lib.hid (HR1.out.call HGL.out hrx hox); clear q2 hrx hox; have y11 := cells_of HC2.out.br.bk 11 _ rfl; have k11 := HC2.out.br.bk.free 11))
 have hs11 := HC2.out.set HOKR.out HGL.out 11 (.int .i64 a2) (cs' := Cm.vs ({ Cm.zero with kind := 10, pk := a1, py := a2 }) (.slice none 0 0)) rfl
 have HR2 := Lib.hid hs11
 clear hs11 y11 k11 HR1 HC2
 generalize World.setCell _ _ _ = wz2 at HR2 ⊢
 have q3 := qnum_s HR2.out.br.rd
 rw [H3.out] at q3
 go_upto_region 43 with (first
  | (go_at_call 105; (with_reducible refine q3.mono ?_); rintro e x3 ⟨rfl, hrx, hox⟩; have HC3 := Lib.hid (HR2.out.call HGL.out hrx hox); clear q3 hrx hox; have y12 := cells_of HC3.out.br.bk 12 _ rfl; have k12 := HC3.out.br.bk.free 12))
 have hs12 := HC3.out.set HOKR.out HGL.out 12 (.int .i64 a3) (cs' := Cm.vs ({ Cm.zero with kind := 10, pk := a1, py := a2, px := a3 }) (.slice none 0 0)) rfl
 have HR3 := Lib.hid hs12
 clear hs12 y12 k12 HR2 HC3
 generalize World.setCell _ _ _ = wz3 at HR3 ⊢
 have HZ := HR3
 clear HR3
 generalize hV6 : Cm.vs ({ Cm.zero with kind := 10, pk := a1, py := a2, px := a3 }) (.slice none 0 0) = V6 at *
 obtain ⟨H2, H3, H4⟩ := vfs hV6
 have H1 := Lib.hid HZ.out.br.bk.hp
 have H0 := Lib.hid HZ.out.zb.hp
 have HV6 := Lib.hid hV6
 clear hV6
 go_wp2_with (first
  | (with_reducible refine wpList_load_row rfl 53 (.tmp 4) rfl b3 rfl 53 V6 (0, 0) _ H1.out Try.underlying53 rfl H4.out ?_)
  | ((with_reducible show wpList _ _ _ (⟨none, .store _ _ _, _, _, _, _⟩ :: _) _ _); go_must (refine wpList_store_row rfl 53 (.tmp 2) (.tmp 124) rfl bl V6 rfl rfl 53 _ H0.out H4.out (by rw [H3.out]; rfl) H2.out ?_)))
 have HE := HZ.out.fin HOKR.out (by have h1 := HBW.out; omega) V6
 refine bodyPost_ret (results_cell_row rfl _ _ bl 53 _ (0, 0) _ rfl (setRow_heap _ _ _ _ _ _ H0.out) Try.underlying53 rfl H4.out) rfl ⟨.slice none 0 0, ?_⟩
 rw [HG.out]
 have hs := HL2.out.size
 have hbw := HBL.out
 exact ⟨by rw [← HV6.out], HE.1.more hs, (HL2.out.trans (HZ.out.br.on.belowOf (by have := HNG.out; omega) hs)).trans (HE.2.2.toBelow (by have h2 := HZ.out.br.on.size; omega) fun b hb => by omega)⟩
set_option maxRecDepth 100000 in
set_option maxHeartbeats 16000000 in
theorem read_k11 {w : World} {B : Nat} {A : Option Addr} {c : Nat} {L : List UInt8} {s : RS} (h : Byt w B (.slice A L.length c) L) (hB : B ≤ w.heap.size) (hn : numS (some L) = (11, s)) : Calls Try.prog 75 #[.slice A L.length c] w (ReadCPost w (get11 s)) := by
 obtain ⟨a1, s1, h1⟩ : ∃ a t, numS s = (a, t) := ⟨_, _, rfl⟩
 have HG := Lib.hid (show get11 s = ({ Cm.zero with kind := 11, pk := 3, py := a1, px := 1 }, s1) by simp only [get11, h1])
 have H1 := Lib.hid h1
 clear h1
 have HY1 := Lib.hid (h.alloc hB (.cells (Cm.zero.vs (.slice none 0 0)) 53))
 have HB0 := Lib.hid (zbk w)
 have HL0 := Lib.hid (zal w)
 have HN := Lib.hid hn
 have HBW := Lib.hid hB
 clear h hn hB
 generalize hV' : Cm.vs { Cm.zero with kind := 11 } (.slice none 0 0) = V' at *
 obtain ⟨HV1, HV2, HVI⟩ := vfs hV'
 have HV' := Lib.hid hV'
 clear hV'
 go_enter Try.func75, Try.ntmps75
 go_upto_region 1 with fail
 rw [zero_vs]
 generalize World.alloc w _ = w1 at *
 generalize hb : w.heap.size = bl at HB0 HBW ⊢
 have HBL := Lib.hid hb
 clear hb
 go_upto_region 2 with fail
 obtain ⟨HQ, HL2, HNG, HZ2, HGL, HOKR⟩ := rd0 HY1.out HB0.out HL0.out HBW.out
 generalize World.alloc w1 _ = w2 at *
 generalize w1.heap.size = g at *
 clear HL0 HB0 HY1
 have q0 := qnum_s HQ.out
 rw [HN.out] at q0
 go_upto_region 3 with (first
  | (go_at_call 105; (with_reducible refine q0.mono ?_); rintro e w3 ⟨rfl, hr3, ho3⟩; have HR3 := Lib.hid hr3; have HO3 := Lib.hid ho3; clear q0 hr3 ho3)
  | ((with_reducible show wpList _ _ _ (⟨none, .store _ _ _, _, _, _, _⟩ :: _) _ _); go_must (refine wpList_store_row rfl 53 (.tmp 4) (.tmp 10) rfl w3.heap.size V' rfl (by rw [← HV'.out]; rfl) 53 _ (heap_alloc_new w3 _) HVI.out (by rw [HV2.out]; rfl) HV1.out ?_)))
 rw [zero_vs]
 have HR0 := Lib.hid (bz0 HOKR.out HR3.out HO3.out (HO3.out.heap HZ2.out (Nat.ne_of_lt HNG.out)) HGL.out (Nat.ne_of_lt HNG.out) V')
 generalize w3.heap.size = b3 at *
 clear HR3 HO3 HZ2 HQ
 generalize World.setRow _ _ _ = w4 at HR0 ⊢
 rw [← HV'.out] at HR0
 clear HV1 HV2 HVI
 have y0 : w4.cell? ⟨b3, 0, none⟩ = some (.int .i64 11) := cells_of HR0.out.br.bk 0 _ rfl
 go_upto_region 42 with fail
 clear y0
 have q1 := qnum_s HR0.out.br.rd
 rw [H1.out] at q1
 go_upto_region 43 with (first
  | (go_at_call 105; (with_reducible refine q1.mono ?_); rintro e x1 ⟨rfl, hrx, hox⟩; have HC1 := Lib.hid (HR0.out.call HGL.out hrx hox); clear q1 hrx hox; have y10 := cells_of HC1.out.br.bk 10 _ rfl; have k10 := HC1.out.br.bk.free 10; have y11 := cells_of HC1.out.br.bk 11 _ rfl; have k11 := HC1.out.br.bk.free 11; have y12 := cells_of HC1.out.br.bk 12 _ rfl; have k12 := HC1.out.br.bk.free 12))
 have hs10 := HC1.out.set HOKR.out HGL.out 10 (.int .i64 3) (cs' := Cm.vs ({ Cm.zero with kind := 11, pk := 3 }) (.slice none 0 0)) rfl
 have hs11 := hs10.set HOKR.out HGL.out 11 (.int .i64 a1) (cs' := Cm.vs ({ Cm.zero with kind := 11, pk := 3, py := a1 }) (.slice none 0 0)) rfl
 have hs12 := hs11.set HOKR.out HGL.out 12 (.int .i64 1) (cs' := Cm.vs ({ Cm.zero with kind := 11, pk := 3, py := a1, px := 1 }) (.slice none 0 0)) rfl
 have HR1 := Lib.hid hs12
 clear hs10 hs11 hs12 y10 k10 y11 k11 y12 k12 HR0 HC1
 generalize World.setCell _ _ _ = wz1 at HR1 ⊢
 have HZ := HR1
 clear HR1
 generalize hV6 : Cm.vs ({ Cm.zero with kind := 11, pk := 3, py := a1, px := 1 }) (.slice none 0 0) = V6 at *
 obtain ⟨H2, H3, H4⟩ := vfs hV6
 have H1 := Lib.hid HZ.out.br.bk.hp
 have H0 := Lib.hid HZ.out.zb.hp
 have HV6 := Lib.hid hV6
 clear hV6
 go_wp2_with (first
  | (with_reducible refine wpList_load_row rfl 53 (.tmp 4) rfl b3 rfl 53 V6 (0, 0) _ H1.out Try.underlying53 rfl H4.out ?_)
  | ((with_reducible show wpList _ _ _ (⟨none, .store _ _ _, _, _, _, _⟩ :: _) _ _); go_must (refine wpList_store_row rfl 53 (.tmp 2) (.tmp 124) rfl bl V6 rfl rfl 53 _ H0.out H4.out (by rw [H3.out]; rfl) H2.out ?_)))
 have HE := HZ.out.fin HOKR.out (by have h1 := HBW.out; omega) V6
 refine bodyPost_ret (results_cell_row rfl _ _ bl 53 _ (0, 0) _ rfl (setRow_heap _ _ _ _ _ _ H0.out) Try.underlying53 rfl H4.out) rfl ⟨.slice none 0 0, ?_⟩
 rw [HG.out]
 have hs := HL2.out.size
 have hbw := HBL.out
 exact ⟨by rw [← HV6.out], HE.1.more hs, (HL2.out.trans (HZ.out.br.on.belowOf (by have := HNG.out; omega) hs)).trans (HE.2.2.toBelow (by have h2 := HZ.out.br.on.size; omega) fun b hb => by omega)⟩
set_option maxRecDepth 100000 in
set_option maxHeartbeats 16000000 in
theorem read_k0 {w : World} {B : Nat} {A : Option Addr} {c : Nat} {L : List UInt8} {s : RS} {k : Int} (hk : NoKind k) (h : Byt w B (.slice A L.length c) L) (hB : B ≤ w.heap.size) (hn : numS (some L) = (k, s)) : Calls Try.prog 75 #[.slice A L.length c] w (ReadCPost w ((({ Cm.zero with kind := k }, s) : Cm × RS))) := by
 have HY1 := Lib.hid (h.alloc hB (.cells (Cm.zero.vs (.slice none 0 0)) 53))
 have HB0 := Lib.hid (zbk w)
 have HL0 := Lib.hid (zal w)
 have HN := Lib.hid hn
 have HBW := Lib.hid hB
 clear h hn hB
 generalize hV' : Cm.vs { Cm.zero with kind := k } (.slice none 0 0) = V' at *
 obtain ⟨HV1, HV2, HVI⟩ := vfs hV'
 have HV' := Lib.hid hV'
 clear hV'
 have e1 : (k == 1) = false := by rw [beq_eq_false_iff_ne]; exact hk.n1
 have e2 : (k == 2) = false := by rw [beq_eq_false_iff_ne]; exact hk.n2
 have e3 : (k == 3) = false := by rw [beq_eq_false_iff_ne]; exact hk.n3
 have e4 : (k == 4) = false := by rw [beq_eq_false_iff_ne]; exact hk.n4
 have e5 : (k == 5) = false := by rw [beq_eq_false_iff_ne]; exact hk.n5
 have e6 : (k == 6) = false := by rw [beq_eq_false_iff_ne]; exact hk.n6
 have e7 : (k == 7) = false := by rw [beq_eq_false_iff_ne]; exact hk.n7
 have e8 : (k == 8) = false := by rw [beq_eq_false_iff_ne]; exact hk.n8
 have e9 : (k == 9) = false := by rw [beq_eq_false_iff_ne]; exact hk.n9
 have e10 : (k == 10) = false := by rw [beq_eq_false_iff_ne]; exact hk.n10
 have e11 : (k == 11) = false := by rw [beq_eq_false_iff_ne]; exact hk.n11
 go_enter Try.func75, Try.ntmps75
 go_upto_region 1 with fail
 rw [zero_vs]
 generalize World.alloc w _ = w1 at *
 generalize hb : w.heap.size = bl at HB0 HBW ⊢
 have HBL := Lib.hid hb
 clear hb
 go_upto_region 2 with fail
 obtain ⟨HQ, HL2, HNG, HZ2, HGL, HOKR⟩ := rd0 HY1.out HB0.out HL0.out HBW.out
 generalize World.alloc w1 _ = w2 at *
 generalize w1.heap.size = g at *
 clear HL0 HB0 HY1
 have q0 := qnum_s HQ.out
 rw [HN.out] at q0
 go_upto_region 3 with (first
  | (go_at_call 105; (with_reducible refine q0.mono ?_); rintro e w3 ⟨rfl, hr3, ho3⟩; have HR3 := Lib.hid hr3; have HO3 := Lib.hid ho3; clear q0 hr3 ho3)
  | ((with_reducible show wpList _ _ _ (⟨none, .store _ _ _, _, _, _, _⟩ :: _) _ _); go_must (refine wpList_store_row rfl 53 (.tmp 4) (.tmp 10) rfl w3.heap.size V' rfl (by rw [← HV'.out]; rfl) 53 _ (heap_alloc_new w3 _) HVI.out (by rw [HV2.out]; rfl) HV1.out ?_)))
 rw [zero_vs]
 have HR0 := Lib.hid (bz0 HOKR.out HR3.out HO3.out (HO3.out.heap HZ2.out (Nat.ne_of_lt HNG.out)) HGL.out (Nat.ne_of_lt HNG.out) V')
 generalize w3.heap.size = b3 at *
 clear HR3 HO3 HZ2 HQ
 generalize World.setRow _ _ _ = w4 at HR0 ⊢
 rw [← HV'.out] at HR0
 clear HV1 HV2 HVI
 have y0 : w4.cell? ⟨b3, 0, none⟩ = some (.int .i64 k) := cells_of HR0.out.br.bk 0 _ rfl
 go_upto_region 43 with fail
 clear y0
 have HZ := HR0
 clear HR0
 generalize hV6 : Cm.vs ({ Cm.zero with kind := k }) (.slice none 0 0) = V6 at *
 obtain ⟨H2, H3, H4⟩ := vfs hV6
 have H1 := Lib.hid HZ.out.br.bk.hp
 have H0 := Lib.hid HZ.out.zb.hp
 have HV6 := Lib.hid hV6
 clear hV6
 go_wp2_with (first
  | (with_reducible refine wpList_load_row rfl 53 (.tmp 4) rfl b3 rfl 53 V6 (0, 0) _ H1.out Try.underlying53 rfl H4.out ?_)
  | ((with_reducible show wpList _ _ _ (⟨none, .store _ _ _, _, _, _, _⟩ :: _) _ _); go_must (refine wpList_store_row rfl 53 (.tmp 2) (.tmp 124) rfl bl V6 rfl rfl 53 _ H0.out H4.out (by rw [H3.out]; rfl) H2.out ?_)))
 have HE := HZ.out.fin HOKR.out (by have h1 := HBW.out; omega) V6
 refine bodyPost_ret (results_cell_row rfl _ _ bl 53 _ (0, 0) _ rfl (setRow_heap _ _ _ _ _ _ H0.out) Try.underlying53 rfl H4.out) rfl ⟨.slice none 0 0, ?_⟩
 have hs := HL2.out.size
 have hbw := HBL.out
 exact ⟨by rw [← HV6.out], HE.1.more hs, (HL2.out.trans (HZ.out.br.on.belowOf (by have := HNG.out; omega) hs)).trans (HE.2.2.toBelow (by have h2 := HZ.out.br.on.size; omega) fun b hb => by omega)⟩
theorem read_any {w : World} {B : Nat} {v : Value} {L : List UInt8} (h : Byt w B v L) (hB : B ≤ w.heap.size) : Calls Try.prog 75 #[v] w (ReadCPost w (getK readDocS (numS (some L)).1 (numS (some L)).2)) := by
 obtain ⟨A, c, rfl, _⟩ := id h
 obtain ⟨k, s, hn⟩ : ∃ a t, numS (some L) = (a, t) := ⟨_, _, rfl⟩
 rw [hn]
 by_cases e1 : k = 1
 ·subst e1; exact read_k1 h hB hn
 by_cases e2 : k = 2
 ·subst e2; exact read_k2 h hB hn
 by_cases e3 : k = 3
 ·subst e3; exact read_k3 h hB hn
 by_cases e4 : k = 4
 ·subst e4; exact read_k4 h hB hn
 by_cases e5 : k = 5
 ·subst e5; exact read_k5 h hB hn
 by_cases e6 : k = 6
 ·subst e6; exact read_k6 h hB hn
 by_cases e7 : k = 7
 ·subst e7; exact read_k7 h hB hn
 by_cases e8 : k = 8
 ·subst e8; exact read_k8 h hB hn
 by_cases e9 : k = 9
 ·subst e9; exact read_k9 h hB hn
 by_cases e10 : k = 10
 ·subst e10; exact read_k10 h hB hn
 by_cases e11 : k = 11
 ·subst e11; exact read_k11 h hB hn
 have hk : NoKind k := ⟨e1, e2, e3, e4, e5, e6, e7, e8, e9, e10, e11⟩
 simp only
 rw [getK_no hk]
 exact read_k0 hk h hB hn
end Go.Proofs.Ytnfpmobmfcgfnaa

