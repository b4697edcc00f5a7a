/- THE WALK OF octroiref08.readDoc (printed by gen/genrdd.py). -/
import Derived.Test.YtnfpmobmfcgfnaaPs
namespace Go.Proofs.Ytnfpmobmfcgfnaa
open Go.RowKit
/-- .. beside the block of the result -/
structure BX (R : RS → World → Prop) (w0 : World) (g : Nat) (s : RS) (b : Nat) (cs : Array Value) (t : TypeId) (lv : Value) (ls : List Ln) (bl : Nat) (Z : Array Value) (T : TypeId) (w : World) : Prop where
 br : BR R w0 g s b cs t lv ls w
 zb : Blk w bl Z T
 ne : bl ≠ b
 lo : w0.heap.size ≤ bl
 nl : lv.ownBlock ≠ some bl
section
variable {R : RS → World → Prop} {w0 w w' : World} {g B b bl : Nat} {s s' : RS} {cs cs' Z : Array Value} {t T : TypeId} {lv : Value} {ls : List Ln}
theorem BX.call (h : BX R w0 g s b cs t lv ls bl Z T w) (hg : g < w0.heap.size) (hr : R s' w') (ho : Only g w w') : BX R w0 g s' b cs t lv ls bl Z T w' :=
 ⟨h.br.call hg hr ho, ho.heap h.zb (by have := h.lo; omega), h.ne, h.lo, h.nl⟩
theorem BX.set (h : BX R w0 g s b cs t lv ls bl Z T w) (hR : Rok R g B) (hg : g < w0.heap.size) (i : Nat) (v : Value) (he : cs.setIfInBounds i v = cs') : BX R w0 g s b cs' t lv ls bl Z T (w.setCell ⟨b, i, none⟩ v) :=
 ⟨h.br.set hR hg i v he, (h.br.bk.set i v he).2.heap h.zb h.ne, h.ne, h.lo, h.nl⟩
theorem BX.row (h : BX R w0 g s b cs t lv ls bl Z T w) (hR : Rok R g B) (hg : g < w0.heap.size) (V : Array Value) : BX R w0 g s b V t lv ls bl Z T (w.setRow b V) :=
 ⟨h.br.row hR hg V, (h.br.bk.row V).2.heap h.zb h.ne, h.ne, h.lo, h.nl⟩
/-- the result is stored -/
theorem BX.fin (h : BX R w0 g s b cs t lv ls bl Z T w) (hR : Rok R g B) (hg : g < w0.heap.size) (V : Array Value) : OwN lnK (w.setRow bl V) w0.heap.size lv ls ∧ R s (w.setRow bl V) ∧ Only g w0 (w.setRow bl V) := by
 have k := (h.zb.row V).2
 have hlo := h.lo
 have hle := hR.le h.br.rd
 exact ⟨h.br.ow.kept k (fun g' e hc => h.nl (by rw [e, hc])), hR.kept h.br.rd k (by omega) (fun x hx => by omega), h.br.on.trans' k hlo⟩
end
/-- the row has grown -/
theorem BX.app {R : RS → World → Prop} {w0 w w' : World} {g B b bl : Nat} {s : RS} {cs Z : Array Value} {t T : TypeId} {lv v' : Value} {ls ls' : List Ln} (h : BX R w0 g s b cs t lv ls bl Z T w) (hR : Rok R g B) (hg : g < w0.heap.size) (o : Obj) (hgr : (w.alloc o).grownBy w' lv.ownBlock) (ho : OwN lnK w' w0.heap.size v' ls') (ha : v'.ownBlock = lv.ownBlock ∨ v'.ownBlock = some (w.alloc o).heap.size) : BX R w0 g s b cs t v' ls' bl Z T w' := by
 have hal := (Below.refl w.heap.size w).alloc (Nat.le_refl _) o
 have hsz : w.heap.size ≤ (w.alloc o).heap.size := hal.size
 have hle := hR.le h.br.rd
 have hlt := h.br.bk.lt
 have hbl := h.zb.lt
 have hK : ∀ S : Nat → Prop, (∀ k, lv.ownBlock = some k → ¬ S k) → Kept S w w' := fun S hS => (Kept.ofBelow hal).grown hgr (fun k hk _ => hS k hk)
 refine ⟨⟨hR.kept h.br.rd (hK (fun x => x < w0.heap.size) (fun k hk hS => by have := (h.br.ow.lt k hk).1; omega)) hg (fun x hx => by omega), (hK (fun x => x = b) (fun k hk hS => h.br.nb (by rw [hk, hS]))).heap h.br.bk rfl, ho, ?_, ?_, h.br.bg⟩, (hK (fun x => x = bl) (fun k hk hS => h.nl (by rw [hk, hS]))).heap h.zb rfl, h.ne, h.lo, ?_⟩
 ·rcases ha with e | e
  ·rw [e]; exact h.br.nb
  ·rw [e]; intro h; injection h with h; omega
 ·exact (h.br.on.trans (Kept.ofBelow hal)).trans2 hgr (fun k hk => (h.br.ow.lt k hk).1)
 ·rcases ha with e | e
  ·rw [e]; exact h.nl
  ·rw [e]; intro h; injection h with h; omega
theorem QdS.bad {w : World} {g B : Nat} {A : Option Addr} {c : Nat} {L : List UInt8} {s : RS} (h : QdS w g B A c L s) : w.cell? ⟨g, 2, none⟩ = some (.bool s.isNone) := by
 cases s with
 | none => obtain ⟨p, h⟩ := h; exact h.c2
 | some l => obtain ⟨p, e, h⟩ := h; exact h.c2
set_option maxRecDepth 100000 in
set_option maxHeartbeats 16000000 in
theorem readdoc_any {w : World} {g B : Nat} {A : Option Addr} {c : Nat} {L : List UInt8} {s : RS} (h : QdS w g B A c L s) : Calls Try.prog 107 #[.pointer (some ⟨g, 0, none⟩)] w fun e w' => ∃ lv, e = .returned (.agg ((readDocS s).1.vs lv)) ∧ OwN lnK w' w.heap.size lv (readDocS s).1.ls ∧ QdS w' g B A c L (readDocS s).2 ∧ Only g w w' := by
 obtain ⟨a1, s1, h1⟩ : ∃ a t, textS s = (a, t) := ⟨_, _, rfl⟩
 obtain ⟨a2, s2, h2⟩ : ∃ a t, flagS s1 = (a, t) := ⟨_, _, rfl⟩
 obtain ⟨a3, s3, h3⟩ : ∃ a t, flagS s2 = (a, t) := ⟨_, _, rfl⟩
 obtain ⟨a4, s4, h4⟩ : ∃ a t, textS s3 = (a, t) := ⟨_, _, rfl⟩
 obtain ⟨a5, s5, h5⟩ : ∃ a t, numS s4 = (a, t) := ⟨_, _, rfl⟩
 obtain ⟨a6, s6, h6⟩ : ∃ a t, textS s5 = (a, t) := ⟨_, _, rfl⟩
 obtain ⟨a7, s7, h7⟩ : ∃ a t, textS s6 = (a, t) := ⟨_, _, rfl⟩
 obtain ⟨a8, s8, h8⟩ : ∃ a t, textS s7 = (a, t) := ⟨_, _, rfl⟩
 obtain ⟨a9, s9, h9⟩ : ∃ a t, numS s8 = (a, t) := ⟨_, _, rfl⟩
 have hl : headS s = (⟨a1, a2, a3, a4, a5, a6, a7, a8, []⟩, a9, s9) := by simp only [headS, h1, h2, h3, h4, h5, h6, h7, h8, h9]
 have hrd : readDocS s = (⟨a1, a2, a3, a4, a5, a6, a7, a8, (rlinesS 65 a9 0 s9).1⟩, (rlinesS 65 a9 0 s9).2) := by simp only [readDocS, hl]
 have HRD := Lib.hid hrd
 clear hl hrd
 have HOKR := Lib.hid (qdS_ok g B A c L)
 have HGL := Lib.hid h.lt
 have hal := (Below.refl w.heap.size w).alloc (Nat.le_refl _) (.cells (#[.string ⟨#[]⟩, .bool false, .bool false, .string ⟨#[]⟩, .int .i64 0, .string ⟨#[]⟩, .string ⟨#[]⟩, .string ⟨#[]⟩, .slice none 0 0]) 25)
 have HW0 := Lib.hid ((qdS_ok g B A c L).below h hal)
 have HK0 := Lib.hid (show Only g w (w.alloc (.cells (#[.string ⟨#[]⟩, .bool false, .bool false, .string ⟨#[]⟩, .int .i64 0, .string ⟨#[]⟩, .string ⟨#[]⟩, .string ⟨#[]⟩, .slice none 0 0]) 25)) from Kept.ofBelow hal)
 have HB0 := Lib.hid (show Blk (w.alloc (.cells (#[.string ⟨#[]⟩, .bool false, .bool false, .string ⟨#[]⟩, .int .i64 0, .string ⟨#[]⟩, .string ⟨#[]⟩, .string ⟨#[]⟩, .slice none 0 0]) 25)) w.heap.size (#[.string ⟨#[]⟩, .bool false, .bool false, .string ⟨#[]⟩, .int .i64 0, .string ⟨#[]⟩, .string ⟨#[]⟩, .string ⟨#[]⟩, .slice none 0 0]) 25 from heap_alloc_new w (.cells (#[.string ⟨#[]⟩, .bool false, .bool false, .string ⟨#[]⟩, .int .i64 0, .string ⟨#[]⟩, .string ⟨#[]⟩, .string ⟨#[]⟩, .slice none 0 0]) 25 (0, 0)))
 have H1 := Lib.hid h1
 have H2 := Lib.hid h2
 have H3 := Lib.hid h3
 have H4 := Lib.hid h4
 have H5 := Lib.hid h5
 have H6 := Lib.hid h6
 have H7 := Lib.hid h7
 have H8 := Lib.hid h8
 have H9 := Lib.hid h9
 clear h hal h1 h2 h3 h4 h5 h6 h7 h8 h9
 go_enter Try.func107, Try.ntmps107
 go_upto_region 1 with fail
 generalize World.alloc w _ = w1 at *
 generalize hbl : w.heap.size = bl at HB0 ⊢
 have HBL := Lib.hid hbl
 clear hbl
 have q1 := qtext_s HW0.out
 rw [H1.out] at q1
 have HSZ := Lib.hid (show (Try.prog.info? 25).map (·.size) = some (#[.string a1, .bool false, .bool false, .string ⟨#[]⟩, .int .i64 0, .string ⟨#[]⟩, .string ⟨#[]⟩, .string ⟨#[]⟩, .slice none 0 0] : Array Value).size by kernel_rfl)
 have HON := Lib.hid (show (#[.string a1, .bool false, .bool false, .string ⟨#[]⟩, .int .i64 0, .string ⟨#[]⟩, .string ⟨#[]⟩, .string ⟨#[]⟩, .slice none 0 0] : Array Value).all (·.oneCell') = true by simp [Value.oneCell'])
 go_upto_region 2 with (first
  | (go_at_call 106; (with_reducible refine q1.mono ?_); rintro e x1 ⟨rfl, hr1, ho1⟩)
  | ((with_reducible show wpList _ _ _ (⟨none, .store _ _ _, _, _, _, _⟩ :: _) _ _); go_must (refine wpList_store_row rfl 25 (.tmp 3) (.tmp 9) rfl _ (#[.string a1, .bool false, .bool false, .string ⟨#[]⟩, .int .i64 0, .string ⟨#[]⟩, .string ⟨#[]⟩, .string ⟨#[]⟩, .slice none 0 0]) rfl rfl 25 _ (heap_alloc_new _ (.cells (#[.string ⟨#[]⟩, .bool false, .bool false, .string ⟨#[]⟩, .int .i64 0, .string ⟨#[]⟩, .string ⟨#[]⟩, .string ⟨#[]⟩, .slice none 0 0]) 25 (0, 0))) HSZ.out rfl HON.out ?_)))
 have hm1 := BR.mk1 (qdS_ok g B A c L) hr1 (HK0.out.trans ho1) (#[.string ⟨#[]⟩, .bool false, .bool false, .string ⟨#[]⟩, .int .i64 0, .string ⟨#[]⟩, .string ⟨#[]⟩, .string ⟨#[]⟩, .slice none 0 0]) 25
 have hm2 := hm1.row HOKR.out HGL.out (#[.string a1, .bool false, .bool false, .string ⟨#[]⟩, .int .i64 0, .string ⟨#[]⟩, .string ⟨#[]⟩, .string ⟨#[]⟩, .slice none 0 0])
 have hz1 := ho1.heap HB0.out (by have := HGL.out; have := HBL.out; omega)
 have hz2 := ((hm1.bk.row (#[.string a1, .bool false, .bool false, .string ⟨#[]⟩, .int .i64 0, .string ⟨#[]⟩, .string ⟨#[]⟩, .string ⟨#[]⟩, .slice none 0 0])).2.heap (((Below.refl x1.heap.size x1).alloc (Nat.le_refl _) (.cells (#[.string ⟨#[]⟩, .bool false, .bool false, .string ⟨#[]⟩, .int .i64 0, .string ⟨#[]⟩, .string ⟨#[]⟩, .string ⟨#[]⟩, .slice none 0 0]) 25)).block bl (lt_of_blk hz1) |>.trans hz1) (by have := lt_of_blk hz1; omega))
 have hnb : bl ≠ x1.heap.size := by have := lt_of_blk hz1; omega
 generalize x1.heap.size = bd at *
 have HR1 := Lib.hid (show BX (fun s w => QdS w g B A c L s) w g s1 bd (#[.string a1, .bool false, .bool false, .string ⟨#[]⟩, .int .i64 0, .string ⟨#[]⟩, .string ⟨#[]⟩, .string ⟨#[]⟩, .slice none 0 0]) 25 (.slice none 0 0) [] bl (#[.string ⟨#[]⟩, .bool false, .bool false, .string ⟨#[]⟩, .int .i64 0, .string ⟨#[]⟩, .string ⟨#[]⟩, .string ⟨#[]⟩, .slice none 0 0]) 25 (World.setRow (World.alloc x1 (.cells (#[.string ⟨#[]⟩, .bool false, .bool false, .string ⟨#[]⟩, .int .i64 0, .string ⟨#[]⟩, .string ⟨#[]⟩, .string ⟨#[]⟩, .slice none 0 0]) 25)) bd (#[.string a1, .bool false, .bool false, .string ⟨#[]⟩, .int .i64 0, .string ⟨#[]⟩, .string ⟨#[]⟩, .string ⟨#[]⟩, .slice none 0 0])) from ⟨hm2, hz2, hnb, by rw [HBL.out]; exact Nat.le_refl _, by simp [Value.ownBlock]⟩)
 clear hm1 hm2 hz1 hz2 hr1 ho1 q1 HW0 HK0 HB0 HSZ HON hnb
 generalize World.setRow _ _ _ = w2 at HR1 ⊢
 have q2 := qflag_s HR1.out.br.rd
 rw [H2.out] at q2
 go_upto_region 3 with (go_at_call 121; (with_reducible refine q2.mono ?_); rintro e x2 ⟨rfl, hrx, hox⟩; have HC2 := Lib.hid (HR1.out.call HGL.out hrx hox); clear q2 hrx hox; have y1 := cells_of HC2.out.br.bk 1 _ rfl; have k1 := HC2.out.br.bk.free 1)
 have HR2 := Lib.hid (HC2.out.set HOKR.out HGL.out 1 (.bool a2) (cs' := #[.string a1, .bool a2, .bool false, .string ⟨#[]⟩, .int .i64 0, .string ⟨#[]⟩, .string ⟨#[]⟩, .string ⟨#[]⟩, .slice none 0 0]) rfl)
 clear HC2 y1 k1 HR1
 generalize World.setCell _ _ _ = w3 at HR2 ⊢
 have q3 := qflag_s HR2.out.br.rd
 rw [H3.out] at q3
 go_upto_region 4 with (go_at_call 121; (with_reducible refine q3.mono ?_); rintro e x3 ⟨rfl, hrx, hox⟩; have HC3 := Lib.hid (HR2.out.call HGL.out hrx hox); clear q3 hrx hox; have y2 := cells_of HC3.out.br.bk 2 _ rfl; have k2 := HC3.out.br.bk.free 2)
 have HR3 := Lib.hid (HC3.out.set HOKR.out HGL.out 2 (.bool a3) (cs' := #[.string a1, .bool a2, .bool a3, .string ⟨#[]⟩, .int .i64 0, .string ⟨#[]⟩, .string ⟨#[]⟩, .string ⟨#[]⟩, .slice none 0 0]) rfl)
 clear HC3 y2 k2 HR2
 generalize World.setCell _ _ _ = w4 at HR3 ⊢
 have q4 := qtext_s HR3.out.br.rd
 rw [H4.out] at q4
 go_upto_region 5 with (go_at_call 106; (with_reducible refine q4.mono ?_); rintro e x4 ⟨rfl, hrx, hox⟩; have HC4 := Lib.hid (HR3.out.call HGL.out hrx hox); clear q4 hrx hox; have y3 := cells_of HC4.out.br.bk 3 _ rfl; have k3 := HC4.out.br.bk.free 3)
 have HR4 := Lib.hid (HC4.out.set HOKR.out HGL.out 3 (.string a4) (cs' := #[.string a1, .bool a2, .bool a3, .string a4, .int .i64 0, .string ⟨#[]⟩, .string ⟨#[]⟩, .string ⟨#[]⟩, .slice none 0 0]) rfl)
 clear HC4 y3 k3 HR3
 generalize World.setCell _ _ _ = w5 at HR4 ⊢
 have q5 := qnum_s HR4.out.br.rd
 rw [H5.out] at q5
 go_upto_region 6 with (go_at_call 105; (with_reducible refine q5.mono ?_); rintro e x5 ⟨rfl, hrx, hox⟩; have HC5 := Lib.hid (HR4.out.call HGL.out hrx hox); clear q5 hrx hox; have y4 := cells_of HC5.out.br.bk 4 _ rfl; have k4 := HC5.out.br.bk.free 4)
 have HR5 := Lib.hid (HC5.out.set HOKR.out HGL.out 4 (.int .i64 a5) (cs' := #[.string a1, .bool a2, .bool a3, .string a4, .int .i64 a5, .string ⟨#[]⟩, .string ⟨#[]⟩, .string ⟨#[]⟩, .slice none 0 0]) rfl)
 clear HC5 y4 k4 HR4
 generalize World.setCell _ _ _ = w6 at HR5 ⊢
 have q6 := qtext_s HR5.out.br.rd
 rw [H6.out] at q6
 go_upto_region 7 with (go_at_call 106; (with_reducible refine q6.mono ?_); rintro e x6 ⟨rfl, hrx, hox⟩; have HC6 := Lib.hid (HR5.out.call HGL.out hrx hox); clear q6 hrx hox; have y5 := cells_of HC6.out.br.bk 5 _ rfl; have k5 := HC6.out.br.bk.free 5)
 have HR6 := Lib.hid (HC6.out.set HOKR.out HGL.out 5 (.string a6) (cs' := #[.string a1, .bool a2, .bool a3, .string a4, .int .i64 a5, .string a6, .string ⟨#[]⟩, .string ⟨#[]⟩, .slice none 0 0]) rfl)
 clear HC6 y5 k5 HR5
 generalize World.setCell _ _ _ = w7 at HR6 ⊢
 have q7 := qtext_s HR6.out.br.rd
 rw [H7.out] at q7
 go_upto_region 8 with (go_at_call 106; (with_reducible refine q7.mono ?_); rintro e x7 ⟨rfl, hrx, hox⟩; have HC7 := Lib.hid (HR6.out.call HGL.out hrx hox); clear q7 hrx hox; have y6 := cells_of HC7.out.br.bk 6 _ rfl; have k6 := HC7.out.br.bk.free 6)
 have HR7 := Lib.hid (HC7.out.set HOKR.out HGL.out 6 (.string a7) (cs' := #[.string a1, .bool a2, .bool a3, .string a4, .int .i64 a5, .string a6, .string a7, .string ⟨#[]⟩, .slice none 0 0]) rfl)
 clear HC7 y6 k6 HR6
 generalize World.setCell _ _ _ = w8 at HR7 ⊢
 have q8 := qtext_s HR7.out.br.rd
 rw [H8.out] at q8
 go_upto_region 9 with (go_at_call 106; (with_reducible refine q8.mono ?_); rintro e x8 ⟨rfl, hrx, hox⟩; have HC8 := Lib.hid (HR7.out.call HGL.out hrx hox); clear q8 hrx hox; have y7 := cells_of HC8.out.br.bk 7 _ rfl; have k7 := HC8.out.br.bk.free 7)
 have HR8 := Lib.hid (HC8.out.set HOKR.out HGL.out 7 (.string a8) (cs' := #[.string a1, .bool a2, .bool a3, .string a4, .int .i64 a5, .string a6, .string a7, .string a8, .slice none 0 0]) rfl)
 clear HC8 y7 k7 HR7
 generalize World.setCell _ _ _ = w9 at HR8 ⊢
 have q9 := qnum_s HR8.out.br.rd
 rw [H9.out] at q9
 go_upto_region 10 with (go_at_call 105; (with_reducible refine q9.mono ?_); rintro e x9 ⟨rfl, hrx, hox⟩; have HC9 := Lib.hid (HR8.out.call HGL.out hrx hox); clear q9 hrx hox)
 have HM := Lib.hid (show BX (fun s w => QdS w g B A c L s) w g s9 bd (#[.string a1, .bool a2, .bool a3, .string a4, .int .i64 a5, .string a6, .string a7, .string a8, .slice none 0 0]) 25 (.slice none 0 0) [] bl (#[.string ⟨#[]⟩, .bool false, .bool false, .string ⟨#[]⟩, .int .i64 0, .string ⟨#[]⟩, .string ⟨#[]⟩, .string ⟨#[]⟩, .slice none 0 0]) 25 x9 from HC9.out)
 clear HC9 HR8
 go_wp2
 go_loopg [5] 65 (fun gk x5 wr => ∃ k : Nat, gk = 65 - k ∧ k ≤ 65 ∧ x5 = .int .i64 (k : Int) ∧ ∃ A0 n0 c0 ls sk, rlinesS 65 a9 0 s9 = (ls ++ (rlinesS (65 - k) a9 k sk).1, (rlinesS (65 - k) a9 k sk).2) ∧ ls.length = k ∧ BX (fun s w => QdS w g B A c L s) w g sk bd (#[.string a1, .bool a2, .bool a3, .string a4, .int .i64 a5, .string a6, .string a7, .string a8, .slice A0 n0 c0]) 25 (.slice A0 n0 c0) ls bl (#[.string ⟨#[]⟩, .bool false, .bool false, .string ⟨#[]⟩, .int .i64 0, .string ⟨#[]⟩, .string ⟨#[]⟩, .string ⟨#[]⟩, .slice none 0 0]) 25 wr)
 case atStart => exact ⟨0, rfl, Nat.zero_le _, rfl, none, 0, 0, [], s9, rfl, rfl, HM.out⟩
 case round =>
  obtain ⟨k, hgk, hk, rfl, A0, n0, c0, ls, sk, hfi, hll, hbr⟩ := hrel
  have HG := Lib.hid hgk
  have HBR := Lib.hid hbr
  have HLL := Lib.hid hll
  have HFI := Lib.hid hfi
  have hbad := hbr.br.rd.bad
  have HST := Lib.hid (fun hc : (decide ((k : Int) < a9) && sk.isSome && decide (k ≤ 64)) = true => show rlinesS (65 - k) a9 k sk = ((lineS sk).1 :: (rlinesS (65 - (k + 1)) a9 (k + 1) (lineS sk).2).1, (rlinesS (65 - (k + 1)) a9 (k + 1) (lineS sk).2).2) by
   have hk64 : k ≤ 64 := by simp only [Bool.and_eq_true, decide_eq_true_eq] at hc; exact hc.2
   obtain ⟨j, hj⟩ : ∃ j, 65 - k = j + 1 := ⟨64 - k, by omega⟩
   have hj2 : 65 - (k + 1) = j := by omega
   rw [hj, hj2, rlinesS, if_pos hc])
  have HNO := Lib.hid (fun hc : ¬ (decide ((k : Int) < a9) && sk.isSome && decide (k ≤ 64)) = true => show rlinesS (65 - k) a9 k sk = ([], sk) by
   cases hj : 65 - k with
   | zero => rfl
   | succ j => rw [rlinesS, if_neg hc])
  have HEN := Lib.hid (fun hc : ¬ (decide ((k : Int) < a9) && sk.isSome && decide (k ≤ 64)) = true => show rlinesS 65 a9 0 s9 = (ls, sk) by
   rw [HFI.out, HNO.out hc]; simp)
  clear hgk hbr hll hfi
  by_cases h : (k : Int) < a9
  ·cases hsk : sk with
   | none =>
    subst hsk
    have HFI := Lib.hid (HEN.out (by simp))
    clear HEN HNO HST
    simp only [Option.isNone_none] at hbad
    generalize hV : (#[.string a1, .bool a2, .bool a3, .string a4, .int .i64 a5, .string a6, .string a7, .string a8, .slice A0 n0 c0] : Array Value) = V at *
    have HL1 := Lib.hid (show wr.heap[bd]? = some (.cells V 25 (0, 0)) from HBR.out.br.bk)
    have HL5 := Lib.hid (show wr.heap[bl]? = some (.cells (#[.string ⟨#[]⟩, .bool false, .bool false, .string ⟨#[]⟩, .int .i64 0, .string ⟨#[]⟩, .string ⟨#[]⟩, .string ⟨#[]⟩, .slice none 0 0]) 25 (0, 0)) from HBR.out.zb)
    have HL2 := Lib.hid (show V.all (·.oneCell') = true by rw [← hV]; simp [Value.oneCell'])
    have HL3 := Lib.hid (show V.size = 9 by rw [← hV]; rfl)
    have HL4 := Lib.hid (show (Try.prog.info? 25).map (·.size) = some V.size by rw [HL3.out]; kernel_rfl)
    have HL6 := Lib.hid (show (#[.string ⟨#[]⟩, .bool false, .bool false, .string ⟨#[]⟩, .int .i64 0, .string ⟨#[]⟩, .string ⟨#[]⟩, .string ⟨#[]⟩, .slice none 0 0] : Array Value).size = V.size by rw [HL3.out]; rfl)
    have HV := Lib.hid hV
    clear hV
    go_wp2_with (first
     | (with_reducible refine wpList_load_row rfl 25 (.tmp 3) rfl bd rfl 25 V (0, 0) _ HL1.out Try.underlying25 rfl HL4.out ?_)
     | ((with_reducible show wpList _ _ _ (⟨none, .store _ _ _, _, _, _, _⟩ :: _) _ _); go_must (refine wpList_store_row rfl 25 (.tmp 2) (.tmp 82) rfl bl V rfl rfl 25 (#[.string ⟨#[]⟩, .bool false, .bool false, .string ⟨#[]⟩, .int .i64 0, .string ⟨#[]⟩, .string ⟨#[]⟩, .string ⟨#[]⟩, .slice none 0 0]) HL5.out HL4.out HL6.out HL2.out ?_)))
    have HE := HBR.out.fin HOKR.out HGL.out V
    refine bodyPost_ret (results_cell_row rfl _ _ bl 25 _ (0, 0) _ rfl (setRow_heap _ _ _ _ _ _ HL5.out) Try.underlying25 rfl HL4.out) rfl ⟨.slice A0 n0 c0, ?_⟩
    rw [HRD.out, HFI.out]
    exact ⟨by rw [← HV.out]; rfl, by simpa using HE.1, HE.2.1, HE.2.2⟩
   | some l =>
    rw [hsk] at hbad
    simp only [Option.isNone_some] at hbad
    by_cases h64 : (k : Int) ≤ 64
    ·have HNX := Lib.hid (HST.out (by rw [hsk]; simp [h]; omega))
     clear HST HEN HNO hsk
     have i3 : IntKind.i64.wrap ((k : Int) + 1) = (k : Int) + 1 := by rw [IntKind.wrap_i64]; omega
     obtain ⟨m1, u1, g1⟩ : ∃ a t, numS sk = (a, t) := ⟨_, _, rfl⟩
     obtain ⟨m2, u2, g2⟩ : ∃ a t, numS u1 = (a, t) := ⟨_, _, rfl⟩
     obtain ⟨m3, u3, g3⟩ : ∃ a t, textS u2 = (a, t) := ⟨_, _, rfl⟩
     obtain ⟨m4, u4, g4⟩ : ∃ a t, textS u3 = (a, t) := ⟨_, _, rfl⟩
     obtain ⟨m5, u5, g5⟩ : ∃ a t, textS u4 = (a, t) := ⟨_, _, rfl⟩
     obtain ⟨m6, u6, g6⟩ : ∃ a t, numS u5 = (a, t) := ⟨_, _, rfl⟩
     obtain ⟨m7, u7, g7⟩ : ∃ a t, flagS u6 = (a, t) := ⟨_, _, rfl⟩
     obtain ⟨m8, u8, g8⟩ : ∃ a t, numS u7 = (a, t) := ⟨_, _, rfl⟩
     obtain ⟨m9, u9, g9⟩ : ∃ a t, flagS u8 = (a, t) := ⟨_, _, rfl⟩
     have hln : lineS sk = (⟨m1, m2, m3, m4, m5, m6, m7, m8, m9⟩, u9) := by simp only [lineS, g1, g2, g3, g4, g5, g6, g7, g8, g9]
     have HLN := Lib.hid hln
     have G1 := Lib.hid g1
     have G2 := Lib.hid g2
     have G3 := Lib.hid g3
     have G4 := Lib.hid g4
     have G5 := Lib.hid g5
     have G6 := Lib.hid g6
     have G7 := Lib.hid g7
     have G8 := Lib.hid g8
     have G9 := Lib.hid g9
     clear hln g1 g2 g3 g4 g5 g6 g7 g8 g9
     have HSZ := Lib.hid (show (Try.prog.info? 55).map (·.size) = some (#[.int .i64 m1, .int .i64 0, .string ⟨#[]⟩, .string ⟨#[]⟩, .string ⟨#[]⟩, .int .i64 0, .bool false, .int .i64 0, .bool false] : Array Value).size by kernel_rfl)
     have HON := Lib.hid (show (#[.int .i64 m1, .int .i64 0, .string ⟨#[]⟩, .string ⟨#[]⟩, .string ⟨#[]⟩, .int .i64 0, .bool false, .int .i64 0, .bool false] : Array Value).all (·.oneCell') = true by simp [Value.oneCell'])
     have HGW := Lib.hid (show g < wr.heap.size from HBR.out.br.rd.lt)
     have q1 := qnum_s HBR.out.br.rd
     rw [G1.out] at q1
     go_upto_region 14 with (first
      | (go_at_call 105; (with_reducible refine q1.mono ?_); rintro e v1 ⟨rfl, hr1, ho1⟩)
      | ((with_reducible show wpList _ _ _ (⟨none, .store _ _ _, _, _, _, _⟩ :: _) _ _); go_must (refine wpList_store_row rfl 55 (.tmp 6) (.tmp 51) rfl _ (#[.int .i64 m1, .int .i64 0, .string ⟨#[]⟩, .string ⟨#[]⟩, .string ⟨#[]⟩, .int .i64 0, .bool false, .int .i64 0, .bool false]) rfl rfl 55 _ (heap_alloc_new _ (.cells (#[.int .i64 0, .int .i64 0, .string ⟨#[]⟩, .string ⟨#[]⟩, .string ⟨#[]⟩, .int .i64 0, .bool false, .int .i64 0, .bool false]) 55 (0, 0))) HSZ.out rfl HON.out ?_)))
     have hm1 := BR.mk1 (w0 := wr) (qdS_ok g B A c L) hr1 ho1 (#[.int .i64 0, .int .i64 0, .string ⟨#[]⟩, .string ⟨#[]⟩, .string ⟨#[]⟩, .int .i64 0, .bool false, .int .i64 0, .bool false]) 55
     have hm2 := hm1.row HOKR.out HGW.out (#[.int .i64 m1, .int .i64 0, .string ⟨#[]⟩, .string ⟨#[]⟩, .string ⟨#[]⟩, .int .i64 0, .bool false, .int .i64 0, .bool false])
     generalize v1.heap.size = bn at *
     have HQ1 := Lib.hid hm2
     clear hm1 hm2 hr1 ho1 q1 HSZ HON hbad
     generalize World.setRow _ _ _ = z1 at HQ1 ⊢
     have q2 := qnum_s HQ1.out.rd
     rw [G2.out] at q2
     go_upto_region 15 with (go_at_call 105; (with_reducible refine q2.mono ?_); rintro e v2 ⟨rfl, hrx, hox⟩; have HC2 := Lib.hid (HQ1.out.call HGW.out hrx hox); clear q2 hrx hox; have y1 := cells_of HC2.out.bk 1 _ rfl; have k1 := HC2.out.bk.free 1)
     have HQ2 := Lib.hid (HC2.out.set HOKR.out HGW.out 1 (.int .i64 m2) (cs' := #[.int .i64 m1, .int .i64 m2, .string ⟨#[]⟩, .string ⟨#[]⟩, .string ⟨#[]⟩, .int .i64 0, .bool false, .int .i64 0, .bool false]) rfl)
     clear HC2 y1 k1 HQ1
     generalize World.setCell _ _ _ = z2 at HQ2 ⊢
     have q3 := qtext_s HQ2.out.rd
     rw [G3.out] at q3
     go_upto_region 16 with (go_at_call 106; (with_reducible refine q3.mono ?_); rintro e v3 ⟨rfl, hrx, hox⟩; have HC3 := Lib.hid (HQ2.out.call HGW.out hrx hox); clear q3 hrx hox; have y2 := cells_of HC3.out.bk 2 _ rfl; have k2 := HC3.out.bk.free 2)
     have HQ3 := Lib.hid (HC3.out.set HOKR.out HGW.out 2 (.string m3) (cs' := #[.int .i64 m1, .int .i64 m2, .string m3, .string ⟨#[]⟩, .string ⟨#[]⟩, .int .i64 0, .bool false, .int .i64 0, .bool false]) rfl)
     clear HC3 y2 k2 HQ2
     generalize World.setCell _ _ _ = z3 at HQ3 ⊢
     have q4 := qtext_s HQ3.out.rd
     rw [G4.out] at q4
     go_upto_region 17 with (go_at_call 106; (with_reducible refine q4.mono ?_); rintro e v4 ⟨rfl, hrx, hox⟩; have HC4 := Lib.hid (HQ3.out.call HGW.out hrx hox); clear q4 hrx hox; have y3 := cells_of HC4.out.bk 3 _ rfl; have k3 := HC4.out.bk.free 3)
     have HQ4 := Lib.hid (HC4.out.set HOKR.out HGW.out 3 (.string m4) (cs' := #[.int .i64 m1, .int .i64 m2, .string m3, .string m4, .string ⟨#[]⟩, .int .i64 0, .bool false, .int .i64 0, .bool false]) rfl)
     clear HC4 y3 k3 HQ3
     generalize World.setCell _ _ _ = z4 at HQ4 ⊢
     have q5 := qtext_s HQ4.out.rd
     rw [G5.out] at q5
     go_upto_region 18 with (go_at_call 106; (with_reducible refine q5.mono ?_); rintro e v5 ⟨rfl, hrx, hox⟩; have HC5 := Lib.hid (HQ4.out.call HGW.out hrx hox); clear q5 hrx hox; have y4 := cells_of HC5.out.bk 4 _ rfl; have k4 := HC5.out.bk.free 4)
     have HQ5 := Lib.hid (HC5.out.set HOKR.out HGW.out 4 (.string m5) (cs' := #[.int .i64 m1, .int .i64 m2, .string m3, .string m4, .string m5, .int .i64 0, .bool false, .int .i64 0, .bool false]) rfl)
     clear HC5 y4 k4 HQ4
     generalize World.setCell _ _ _ = z5 at HQ5 ⊢
     have q6 := qnum_s HQ5.out.rd
     rw [G6.out] at q6
     go_upto_region 19 with (go_at_call 105; (with_reducible refine q6.mono ?_); rintro e v6 ⟨rfl, hrx, hox⟩; have HC6 := Lib.hid (HQ5.out.call HGW.out hrx hox); clear q6 hrx hox; have y5 := cells_of HC6.out.bk 5 _ rfl; have k5 := HC6.out.bk.free 5)
     have HQ6 := Lib.hid (HC6.out.set HOKR.out HGW.out 5 (.int .i64 m6) (cs' := #[.int .i64 m1, .int .i64 m2, .string m3, .string m4, .string m5, .int .i64 m6, .bool false, .int .i64 0, .bool false]) rfl)
     clear HC6 y5 k5 HQ5
     generalize World.setCell _ _ _ = z6 at HQ6 ⊢
     have q7 := qflag_s HQ6.out.rd
     rw [G7.out] at q7
     go_upto_region 20 with (go_at_call 121; (with_reducible refine q7.mono ?_); rintro e v7 ⟨rfl, hrx, hox⟩; have HC7 := Lib.hid (HQ6.out.call HGW.out hrx hox); clear q7 hrx hox; have y6 := cells_of HC7.out.bk 6 _ rfl; have k6 := HC7.out.bk.free 6)
     have HQ7 := Lib.hid (HC7.out.set HOKR.out HGW.out 6 (.bool m7) (cs' := #[.int .i64 m1, .int .i64 m2, .string m3, .string m4, .string m5, .int .i64 m6, .bool m7, .int .i64 0, .bool false]) rfl)
     clear HC7 y6 k6 HQ6
     generalize World.setCell _ _ _ = z7 at HQ7 ⊢
     have q8 := qnum_s HQ7.out.rd
     rw [G8.out] at q8
     go_upto_region 21 with (go_at_call 105; (with_reducible refine q8.mono ?_); rintro e v8 ⟨rfl, hrx, hox⟩; have HC8 := Lib.hid (HQ7.out.call HGW.out hrx hox); clear q8 hrx hox; have y7 := cells_of HC8.out.bk 7 _ rfl; have k7 := HC8.out.bk.free 7)
     have HQ8 := Lib.hid (HC8.out.set HOKR.out HGW.out 7 (.int .i64 m8) (cs' := #[.int .i64 m1, .int .i64 m2, .string m3, .string m4, .string m5, .int .i64 m6, .bool m7, .int .i64 m8, .bool false]) rfl)
     clear HC8 y7 k7 HQ7
     generalize World.setCell _ _ _ = z8 at HQ8 ⊢
     have q9 := qflag_s HQ8.out.rd
     rw [G9.out] at q9
     go_upto_region 22 with (go_at_call 121; (with_reducible refine q9.mono ?_); rintro e v9 ⟨rfl, hrx, hox⟩; have HC9 := Lib.hid (HQ8.out.call HGW.out hrx hox); clear q9 hrx hox; have y8 := cells_of HC9.out.bk 8 _ rfl; have k8 := HC9.out.bk.free 8)
     have HQ9 := Lib.hid (HC9.out.set HOKR.out HGW.out 8 (.bool m9) (cs' := #[.int .i64 m1, .int .i64 m2, .string m3, .string m4, .string m5, .int .i64 m6, .bool m7, .int .i64 m8, .bool m9]) rfl)
     clear HC9 y8 k8 HQ8
     generalize World.setCell _ _ _ = z9 at HQ9 ⊢
     have HBY := Lib.hid (show BX (fun s w => QdS w g B A c L s) w g u9 bd (#[.string a1, .bool a2, .bool a3, .string a4, .int .i64 a5, .string a6, .string a7, .string a8, .slice A0 n0 c0]) 25 (.slice A0 n0 c0) ls bl (#[.string ⟨#[]⟩, .bool false, .bool false, .string ⟨#[]⟩, .int .i64 0, .string ⟨#[]⟩, .string ⟨#[]⟩, .string ⟨#[]⟩, .slice none 0 0]) 25 z9 from HBR.out.call HGL.out HQ9.out.rd HQ9.out.on)
     have HLI := Lib.hid (show z9.heap[bn]? = some (.cells (#[.int .i64 m1, .int .i64 m2, .string m3, .string m4, .string m5, .int .i64 m6, .bool m7, .int .i64 m8, .bool m9]) 55 (0, 0)) from HQ9.out.bk)
     have y8 := cells_of HBY.out.br.bk 8 _ rfl
     have HY8 := Lib.hid y8
     clear HBR HQ9
     have HLV := Lib.hid (show (Try.prog.info? 55).map (·.size) = some (#[.int .i64 m1, .int .i64 m2, .string m3, .string m4, .string m5, .int .i64 m6, .bool m7, .int .i64 m8, .bool m9] : Array Value).size by kernel_rfl)
     have HSL := Lib.hid (show SlN lnK (z9.alloc (.cells (#[.int .i64 m1, .int .i64 m2, .string m3, .string m4, .string m5, .int .i64 m6, .bool m7, .int .i64 m8, .bool m9]) 55)) _ (.slice (some ⟨z9.heap.size, 0, none⟩) 1 1) [(⟨m1, m2, m3, m4, m5, m6, m7, m8, m9⟩ : Ln)] from (owN_lit lnK z9 [(⟨m1, m2, m3, m4, m5, m6, m7, m8, m9⟩ : Ln)] (Nat.le_of_ble_eq_true rfl)).sl)
     have HLL2 := Lib.hid (show ls.length + 1 ≤ 1000000000 by have := HLL.out; omega)
     have HBS := Lib.hid (show ∀ o, w.heap.size ≤ (z9.alloc o).heap.size from fun o => by have h1 := HBY.out.br.bg; have h2 := HBY.out.br.bk.lt; have h3 := ((Below.refl z9.heap.size z9).alloc (Nat.le_refl _) o).size; omega)
     go_wp2_with (first
      | (with_reducible refine wpList_load_row rfl 55 (.tmp 6) rfl bn rfl 55 (#[.int .i64 m1, .int .i64 m2, .string m3, .string m4, .string m5, .int .i64 m6, .bool m7, .int .i64 m8, .bool m9]) (0, 0) _ HLI.out Try.underlying55 rfl HLV.out ?_)
      | ((with_reducible show wpList _ _ _ (⟨some 80, _, _, _, _, _⟩ :: _) _ _); go_must (refine wpList_append_slN lnK _ rfl (.tmp 77) (.tmp 79) 23 rfl Try.underlying23 w.heap.size _ ls rfl (HBY.out.br.ow.alloc _) _ _ [(⟨m1, m2, m3, m4, m5, m6, m7, m8, m9⟩ : Ln)] rfl HSL.out HLL2.out (by decide) (HBS.out _) ?_); intro v' w' ho' hg' ha'; obtain ⟨A1, c1, rfl, _, _⟩ := ho'.sl.form; have HB8 := Lib.hid (HBY.out.app HOKR.out HGL.out _ hg' ho' ha'); clear ho' hg' ha' y8; have y88 := cells_of HB8.out.br.bk 8 _ rfl; have k88 := HB8.out.br.bk.free 8))
     go_roundg (65 - (k + 1))
     case measure => have := HG.out; omega
     case rel =>
      refine ⟨k + 1, rfl, by omega, rfl, A1, _, c1, ls ++ [(⟨m1, m2, m3, m4, m5, m6, m7, m8, m9⟩ : Ln)], u9, ?_, by simp [HLL.out], HB8.out.set HOKR.out HGL.out 8 _ (by simp)⟩
      rw [HFI.out, HNX.out, HLN.out]
      simp
    ·have HFI := Lib.hid (HEN.out (by simp; intros; omega))
     clear HEN HNO HST hsk
     generalize hV : (#[.string a1, .bool a2, .bool a3, .string a4, .int .i64 a5, .string a6, .string a7, .string a8, .slice A0 n0 c0] : Array Value) = V at *
     have HL1 := Lib.hid (show wr.heap[bd]? = some (.cells V 25 (0, 0)) from HBR.out.br.bk)
     have HL5 := Lib.hid (show wr.heap[bl]? = some (.cells (#[.string ⟨#[]⟩, .bool false, .bool false, .string ⟨#[]⟩, .int .i64 0, .string ⟨#[]⟩, .string ⟨#[]⟩, .string ⟨#[]⟩, .slice none 0 0]) 25 (0, 0)) from HBR.out.zb)
     have HL2 := Lib.hid (show V.all (·.oneCell') = true by rw [← hV]; simp [Value.oneCell'])
     have HL3 := Lib.hid (show V.size = 9 by rw [← hV]; rfl)
     have HL4 := Lib.hid (show (Try.prog.info? 25).map (·.size) = some V.size by rw [HL3.out]; kernel_rfl)
     have HL6 := Lib.hid (show (#[.string ⟨#[]⟩, .bool false, .bool false, .string ⟨#[]⟩, .int .i64 0, .string ⟨#[]⟩, .string ⟨#[]⟩, .string ⟨#[]⟩, .slice none 0 0] : Array Value).size = V.size by rw [HL3.out]; rfl)
     have HV := Lib.hid hV
     clear hV
     go_wp2_with (first
      | (with_reducible refine wpList_load_row rfl 25 (.tmp 3) rfl bd rfl 25 V (0, 0) _ HL1.out Try.underlying25 rfl HL4.out ?_)
      | ((with_reducible show wpList _ _ _ (⟨none, .store _ _ _, _, _, _, _⟩ :: _) _ _); go_must (refine wpList_store_row rfl 25 (.tmp 2) (.tmp 82) rfl bl V rfl rfl 25 (#[.string ⟨#[]⟩, .bool false, .bool false, .string ⟨#[]⟩, .int .i64 0, .string ⟨#[]⟩, .string ⟨#[]⟩, .string ⟨#[]⟩, .slice none 0 0]) HL5.out HL4.out HL6.out HL2.out ?_)))
     have HE := HBR.out.fin HOKR.out HGL.out V
     refine bodyPost_ret (results_cell_row rfl _ _ bl 25 _ (0, 0) _ rfl (setRow_heap _ _ _ _ _ _ HL5.out) Try.underlying25 rfl HL4.out) rfl ⟨.slice A0 n0 c0, ?_⟩
     rw [HRD.out, HFI.out]
     exact ⟨by rw [← HV.out]; rfl, by simpa using HE.1, HE.2.1, HE.2.2⟩
  ·have HFI := Lib.hid (HEN.out (by simp [h]))
   clear HEN HNO HST hbad
   generalize hV : (#[.string a1, .bool a2, .bool a3, .string a4, .int .i64 a5, .string a6, .string a7, .string a8, .slice A0 n0 c0] : Array Value) = V at *
   have HL1 := Lib.hid (show wr.heap[bd]? = some (.cells V 25 (0, 0)) from HBR.out.br.bk)
   have HL5 := Lib.hid (show wr.heap[bl]? = some (.cells (#[.string ⟨#[]⟩, .bool false, .bool false, .string ⟨#[]⟩, .int .i64 0, .string ⟨#[]⟩, .string ⟨#[]⟩, .string ⟨#[]⟩, .slice none 0 0]) 25 (0, 0)) from HBR.out.zb)
   have HL2 := Lib.hid (show V.all (·.oneCell') = true by rw [← hV]; simp [Value.oneCell'])
   have HL3 := Lib.hid (show V.size = 9 by rw [← hV]; rfl)
   have HL4 := Lib.hid (show (Try.prog.info? 25).map (·.size) = some V.size by rw [HL3.out]; kernel_rfl)
   have HL6 := Lib.hid (show (#[.string ⟨#[]⟩, .bool false, .bool false, .string ⟨#[]⟩, .int .i64 0, .string ⟨#[]⟩, .string ⟨#[]⟩, .string ⟨#[]⟩, .slice none 0 0] : Array Value).size = V.size by rw [HL3.out]; rfl)
   have HV := Lib.hid hV
   clear hV
   go_wp2_with (first
    | (with_reducible refine wpList_load_row rfl 25 (.tmp 3) rfl bd rfl 25 V (0, 0) _ HL1.out Try.underlying25 rfl HL4.out ?_)
    | ((with_reducible show wpList _ _ _ (⟨none, .store _ _ _, _, _, _, _⟩ :: _) _ _); go_must (refine wpList_store_row rfl 25 (.tmp 2) (.tmp 82) rfl bl V rfl rfl 25 (#[.string ⟨#[]⟩, .bool false, .bool false, .string ⟨#[]⟩, .int .i64 0, .string ⟨#[]⟩, .string ⟨#[]⟩, .string ⟨#[]⟩, .slice none 0 0]) HL5.out HL4.out HL6.out HL2.out ?_)))
   have HE := HBR.out.fin HOKR.out HGL.out V
   refine bodyPost_ret (results_cell_row rfl _ _ bl 25 _ (0, 0) _ rfl (setRow_heap _ _ _ _ _ _ HL5.out) Try.underlying25 rfl HL4.out) rfl ⟨.slice A0 n0 c0, ?_⟩
   rw [HRD.out, HFI.out]
   exact ⟨by rw [← HV.out]; rfl, by simpa using HE.1, HE.2.1, HE.2.2⟩
end Go.Proofs.Ytnfpmobmfcgfnaa

