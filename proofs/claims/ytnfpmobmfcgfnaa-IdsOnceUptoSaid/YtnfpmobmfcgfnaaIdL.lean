/- THE WALK OF octroilaw29.lives. -/
import Derived.Test.YtnfpmobmfcgfnaaLiC
namespace Go.Proofs.Ytnfpmobmfcgfnaa
open Go.RowKit
def simB : Dm := { simD with id := ⟨#[98]⟩, cred := true, ref := ⟨#[97]⟩ }
def simX : Dm := { simB with id := ⟨#[99]⟩, ref := ⟨#[120]⟩ }
theorem simB_ok : simB.ok := ⟨by show 1 ≤ maxLen; simp [maxLen], by show 1 ≤ maxLen; simp [maxLen], simD_ok.day, simD_ok.cty, simD_ok.num, simD_ok.cur, simD_ok.ls⟩
theorem simX_ok : simX.ok := ⟨by show 1 ≤ maxLen; simp [maxLen], by show 1 ≤ maxLen; simp [maxLen], simD_ok.day, simD_ok.cty, simD_ok.num, simD_ok.cur, simD_ok.ls⟩
theorem simD_lim : simD.lim := ⟨by decide, by decide, by decide⟩
theorem simB_lim : simB.lim := ⟨by decide, by decide, by decide⟩
theorem simX_lim : simX.lim := ⟨by decide, by decide, by decide⟩
set_option maxRecDepth 100000 in
theorem ck_D : checkD [] simD = 0 := by kernel_rfl
set_option maxRecDepth 100000 in
theorem ck_B : checkD [simD] simB = 0 := by kernel_rfl
set_option maxRecDepth 100000 in
theorem ck_X : checkD [simD, simB] simX = 72 := by kernel_rfl
set_option maxRecDepth 100000 in
theorem ck_T : checkD [simD, simB] simD = 51 := by kernel_rfl
theorem put_as {w : World} {base g : Nat} {Z : Nat → Prop} {docs docs' : List Dm} (h : St w base g Z docs) {lv : Value} {d : Dm} (hl : Lns w w.heap.size lv d.ls) (hd : d.ok) (hlim : d.lim) (hn : docs.length ≤ 1000000) {c : Int} (hc : checkD docs d = c) (he : (if c = 0 then docs ++ [d] else docs) = docs') :
    Calls Try.prog 13 #[.pointer (some ⟨g, 0, none⟩), .agg (d.vs lv)] w fun e w' => ∃ Z', e = .returned (.int .i64 c) ∧ St w' base g Z' docs' ∧ Kept (fun b => ¬ Z b) w w' := by
  refine (idsput_any h (v := .agg (d.vs lv)) ⟨lv, rfl, hl, hd⟩ (Nat.le_refl _) hlim hn).mono ?_
  rintro e w' ⟨Z', h1, h2, h3, h4⟩
  rw [hc] at h1 h2
  rw [he] at h2
  exact ⟨Z', h1, h2, h4⟩
set_option maxRecDepth 100000 in
theorem cm_field_doc (w : World) (o : Cm) (lv : Value) : (Instr.field 53 (.agg (o.vs lv)) 11).run Try.prog w = .ok (.agg (o.doc.vs lv)) w := by kernel_rfl
theorem DBlk.toB {w : World} {b : Nat} {lv : Value} (h : DBlk w b simD lv) : DBlk (((w.setCell ⟨b, 0, none⟩ (.string ⟨#[98]⟩)).setCell ⟨b, 2, none⟩ (.bool true)).setCell ⟨b, 3, none⟩ (.string ⟨#[97]⟩)) b simB lv ∧ Kept (fun x => x ≠ b) w (((w.setCell ⟨b, 0, none⟩ (.string ⟨#[98]⟩)).setCell ⟨b, 2, none⟩ (.bool true)).setCell ⟨b, 3, none⟩ (.string ⟨#[97]⟩)) := by
  unfold DBlk Dm.vs at *
  have s0 := Lib.heap_setCell_same (i := 0) h (.string ⟨#[98]⟩)
  have s1 := Lib.heap_setCell_same (i := 2) s0 (.bool true)
  have s2 := Lib.heap_setCell_same (i := 3) s1 (.string ⟨#[97]⟩)
  exact ⟨by simpa [simB] using s2, (((Kept.refl _ w).setCell _ _ (fun _ h => h rfl)).setCell _ _ (fun _ h => h rfl)).setCell _ _ (fun _ h => h rfl)⟩
theorem DBlk.toX {w : World} {b : Nat} {lv : Value} (h : DBlk w b simB lv) : DBlk ((w.setCell ⟨b, 0, none⟩ (.string ⟨#[99]⟩)).setCell ⟨b, 3, none⟩ (.string ⟨#[120]⟩)) b simX lv ∧ Kept (fun x => x ≠ b) w ((w.setCell ⟨b, 0, none⟩ (.string ⟨#[99]⟩)).setCell ⟨b, 3, none⟩ (.string ⟨#[120]⟩)) := by
  unfold DBlk Dm.vs at *
  have s0 := Lib.heap_setCell_same (i := 0) h (.string ⟨#[99]⟩)
  have s1 := Lib.heap_setCell_same (i := 3) s0 (.string ⟨#[120]⟩)
  exact ⟨by simpa [simX, simB] using s1, ((Kept.refl _ w).setCell _ _ (fun _ h => h rfl)).setCell _ _ (fun _ h => h rfl)⟩
/-- the three documents in their boxes -/
structure Tri (w : World) (a b c l : Nat) : Prop where
  a : DBlk w a simD (.slice (some ⟨l, 0, none⟩) 1 1)
  b : DBlk w b simB (.slice (some ⟨l, 0, none⟩) 1 1)
  c : DBlk w c simX (.slice (some ⟨l, 0, none⟩) 1 1)
  l : w.heap[l]? = some (.cells simL.vs 55 (0, 0))
theorem Tri.kept {w w' : World} {a b c l : Nat} (h : Tri w a b c l) {base g : Nat} {Z : Nat → Prop} {docs : List Dm} (hs : St w base g Z docs) (k : Kept (fun b => ¬ Z b) w w') : Tri w' a b c l :=
  ⟨k.heap h.a (fun hz => (hs.kd _ hz).ne h.a (by decide) rfl), k.heap h.b (fun hz => (hs.kd _ hz).ne h.b (by decide) rfl), k.heap h.c (fun hz => (hs.kd _ hz).ne h.c (by decide) rfl), k.heap h.l (fun hz => (hs.kd _ hz).ne h.l (by decide) rfl)⟩
theorem Tri.lns {w : World} {a b c l : Nat} (h : Tri w a b c l) : Lns w w.heap.size (.slice (some ⟨l, 0, none⟩) 1 1) [simL] := simD_lns h.l
theorem St.kept_below {w w' w0 : World} {base g : Nat} {Z : Nat → Prop} {docs : List Dm} (hs : St w base g Z docs) (hb : Below base w0 w) (hw : base ≤ w0.heap.size) (k : Kept (fun b => ¬ Z b) w w') : Below base w0 w' :=
  hb.trans (k.toBelow (Nat.le_trans hw hb.size) (fun b hlt hz => by have := hs.lo b hz; omega))
set_option maxRecDepth 100000 in
set_option maxHeartbeats 4000000 in
theorem lives29_any (w : World) : Calls Try.prog 11 #[] w fun e w' => e = .returned (.bool true) ∧ Below w.heap.size w w' := by
  have hnew := idsnew_any w
  go_enter Try.func11, Try.ntmps11
  go_upto_region 2 with (go_at_call 12; (with_reducible refine hnew.mono ?_); rintro e w1 ⟨g, Z, rfl, hst, hb1⟩; have HST := Lib.hid hst; have HB1 := Lib.hid hb1; clear hst hb1)
  clear hnew
  have hsim := simple_any w1
  unfold SimplePost at hsim
  have hfd := fun W l => cm_field_doc W simC (.slice (some ⟨l, 0, none⟩) 1 1)
  simp only [simC, simD, Cm.vs, Dm.vs] at hsim hfd
  go_upto_region 3 with (go_at_call 38; (with_reducible refine hsim.mono ?_); rintro e w2 ⟨l, rfl, hln, hb2⟩; have HLN := Lib.hid hln; have HB2 := Lib.hid hb2; clear hln hb2; have hfd2 := hfd w2 l)
  have hb3 := (Below.refl w2.heap.size w2).alloc (Nat.le_refl _) (.cells (simD.vs (.slice (some ⟨l, 0, none⟩) 1 1)) 25)
  have hd3 : DBlk (w2.alloc (.cells (simD.vs (.slice (some ⟨l, 0, none⟩) 1 1)) 25)) w2.heap.size simD (.slice (some ⟨l, 0, none⟩) 1 1) := heap_alloc_new w2 (.cells (simD.vs (.slice (some ⟨l, 0, none⟩) 1 1)) 25 (0, 0))
  simp only [simD, Dm.vs] at hb3 hd3
  have HB3 := Lib.hid (HB2.out.trans (hb3.mono HB2.out.size))
  have hln3 := (hb3.block _ (lt_of_blk HLN.out)).trans HLN.out
  have HLN3 := Lib.hid hln3
  generalize World.alloc w2 _ = w3 at *
  generalize w2.heap.size = b2 at *
  obtain ⟨y0, y1, y2, y3, y4, y5, y6, y7, y8⟩ := DBlk.box (o := simD) hd3
  simp only [simD] at y0 y1 y2 y3 y4 y5 y6 y7 y8
  have HD3 := Lib.hid hd3
  clear hfd hfd2 hsim hb3 hd3 hln3 HLN HB2
  go_upto_region 4 with fail
  have hb4 := (Below.refl w3.heap.size w3).alloc (Nat.le_refl _) (.cells (simD.vs (.slice (some ⟨l, 0, none⟩) 1 1)) 25)
  have hd4 : DBlk (w3.alloc (.cells (simD.vs (.slice (some ⟨l, 0, none⟩) 1 1)) 25)) w3.heap.size simD (.slice (some ⟨l, 0, none⟩) 1 1) := heap_alloc_new w3 (.cells (simD.vs (.slice (some ⟨l, 0, none⟩) 1 1)) 25 (0, 0))
  simp only [simD, Dm.vs] at hb4 hd4
  have HDA := Lib.hid (HD3.out.below hb4)
  have HNE := Lib.hid (show b2 ≠ w3.heap.size from fun e => by have := lt_of_blk HD3.out; omega)
  have HLE := Lib.hid (HB3.out.size)
  have HB4 := Lib.hid (HB3.out.trans (hb4.mono HB3.out.size))
  have HLN4 := Lib.hid ((hb4.block _ (lt_of_blk HLN3.out)).trans HLN3.out)
  generalize World.alloc w3 _ = w4 at *
  generalize w3.heap.size = b3 at *
  obtain ⟨k0, k1, k2, k3, k4, k5, k6, k7, k8⟩ := DBlk.free (o := simD) hd4
  obtain ⟨hdb, hkb⟩ := hd4.toB
  have HDB := Lib.hid hdb
  have HKB := Lib.hid hkb
  have HLB := Lib.hid (kind_ne HLN4.out hd4 (by decide))
  clear y0 y1 y2 y3 y4 y5 y6 y7 y8
  obtain ⟨y0, y1, y2, y3, y4, y5, y6, y7, y8⟩ := DBlk.box (o := simD) hd4
  simp only [simD] at y0 y1 y2 y3 y4 y5 y6 y7 y8
  clear hb4 hd4 hdb hkb HD3 HLN3
  go_upto_region 5 with fail
  generalize World.setCell (World.setCell _ _ _) ⟨b3, 3, none⟩ _ = w5 at HDB HKB ⊢
  have HDA5 := Lib.hid (show DBlk w5 b2 simD (.slice (some ⟨l, 0, none⟩) 1 1) from HKB.out.heap HDA.out HNE.out)
  have HLN5 := Lib.hid (HKB.out.heap HLN4.out HLB.out)
  have HB5 := Lib.hid (HB4.out.trans (HKB.out.toBelow (B := w1.heap.size) HB4.out.size (fun b hb => by have := HLE.out; omega)))
  clear k0 k1 k2 k3 k4 k5 k6 k7 k8 y0 y1 y2 y3 y4 y5 y6 y7 y8 HKB HDA HLN4 HB4
  obtain ⟨y0, y1, y2, y3, y4, y5, y6, y7, y8⟩ := DBlk.box (o := simB) HDB.out
  simp only [simB, simD] at y0 y1 y2 y3 y4 y5 y6 y7 y8
  go_upto_region 6 with fail
  have hb6 := (Below.refl w5.heap.size w5).alloc (Nat.le_refl _) (.cells (simB.vs (.slice (some ⟨l, 0, none⟩) 1 1)) 25)
  have hd6 : DBlk (w5.alloc (.cells (simB.vs (.slice (some ⟨l, 0, none⟩) 1 1)) 25)) w5.heap.size simB (.slice (some ⟨l, 0, none⟩) 1 1) := heap_alloc_new w5 (.cells (simB.vs (.slice (some ⟨l, 0, none⟩) 1 1)) 25 (0, 0))
  simp only [simB, simD, Dm.vs] at hb6 hd6
  have HDA6 := Lib.hid (HDA5.out.below hb6)
  have HDB6 := Lib.hid (HDB.out.below hb6)
  have HNE2 := Lib.hid (show b2 ≠ w5.heap.size from fun e => by have := lt_of_blk HDA5.out; omega)
  have HNE3 := Lib.hid (show b3 ≠ w5.heap.size from fun e => by have := lt_of_blk HDB.out; omega)
  have HLE6 := Lib.hid HB5.out.size
  have HB6 := Lib.hid (HB5.out.trans (hb6.mono HB5.out.size))
  have HLN6 := Lib.hid ((hb6.block _ (lt_of_blk HLN5.out)).trans HLN5.out)
  generalize World.alloc w5 _ = w6 at *
  generalize w5.heap.size = b4 at *
  obtain ⟨k0, k1, k2, k3, k4, k5, k6, k7, k8⟩ := DBlk.free (o := simB) hd6
  obtain ⟨hdx, hkx⟩ := DBlk.toX hd6
  have HDX := Lib.hid hdx
  have HKX := Lib.hid hkx
  have HLX := Lib.hid (kind_ne HLN6.out hd6 (by decide))
  clear y0 y1 y2 y3 y4 y5 y6 y7 y8
  obtain ⟨y0, y1, y2, y3, y4, y5, y6, y7, y8⟩ := DBlk.box (o := simB) hd6
  simp only [simB, simD] at y0 y1 y2 y3 y4 y5 y6 y7 y8
  clear hb6 hd6 hdx hkx HDA5 HDB HLN5 HB5
  go_upto_region 7 with fail
  generalize World.setCell (World.setCell _ _ _) ⟨b4, 3, none⟩ _ = w7 at HDX HKX ⊢
  have HT7 := Lib.hid (show Tri w7 b2 b3 b4 l from ⟨HKX.out.heap HDA6.out HNE2.out, HKX.out.heap HDB6.out HNE3.out, HDX.out, HKX.out.heap HLN6.out HLX.out⟩)
  have HB7 := Lib.hid (HB6.out.trans (HKX.out.toBelow (B := w1.heap.size) HB6.out.size (fun b hb => by have := HLE6.out; omega)))
  clear k0 k1 k2 k3 k4 k5 k6 k7 k8 y0 y1 y2 y3 y4 y5 y6 y7 y8 HKX HDA6 HDB6 HDX HLN6 HB6 HLE HNE HNE2 HNE3 HLB HLX HLE6
  have HS7 := Lib.hid (HST.out.below HB7.out)
  have hb7 := HB1.out.trans (HB7.out.mono HB1.out.size)
  have HBB := Lib.hid hb7
  clear HST HB1 HB7 hb7
  have p1 := put_as HS7.out HT7.out.lns simD_ok simD_lim (by decide) ck_D rfl
  have h1 := HT7.out.a.box
  simp only [simD, Dm.vs] at p1 h1
  obtain ⟨a0, a1, a2, a3, a4, a5, a6, a7, a8⟩ := h1
  go_wp2_with (first
    | (go_at_call 13; (with_reducible refine p1.mono ?_); rintro e w8 ⟨Z8, rfl, hs8, hk8⟩; have HS8 := Lib.hid hs8; have HT8 := Lib.hid (HT7.out.kept HS7.out hk8); have HB8 := Lib.hid (HS7.out.kept_below HBB.out (Nat.le_refl _) hk8); clear p1 hs8 hk8 a0 a1 a2 a3 a4 a5 a6 a7 a8; have p2 := put_as HS8.out HT8.out.lns simB_ok simB_lim (by decide) ck_B rfl; have h1 := HT8.out.b.box; simp only [simB, simD, Dm.vs] at p2 h1; obtain ⟨a0, a1, a2, a3, a4, a5, a6, a7, a8⟩ := h1)
    | (go_at_call 13; (with_reducible refine p2.mono ?_); rintro e w9 ⟨Z9, rfl, hs9, hk9⟩; have HS9 := Lib.hid hs9; have HT9 := Lib.hid (HT8.out.kept HS8.out hk9); have HB9 := Lib.hid (HS8.out.kept_below HB8.out (Nat.le_refl _) hk9); clear p2 hs9 hk9 a0 a1 a2 a3 a4 a5 a6 a7 a8; have p3 := put_as HS9.out HT9.out.lns simX_ok simX_lim (by decide) ck_X rfl; have h1 := HT9.out.c.box; simp only [simX, simB, simD, Dm.vs] at p3 h1; obtain ⟨a0, a1, a2, a3, a4, a5, a6, a7, a8⟩ := h1)
    | (go_at_call 13; (with_reducible refine p3.mono ?_); rintro e wA ⟨ZA, rfl, hsA, hkA⟩; have HSA := Lib.hid hsA; have HTA := Lib.hid (HT9.out.kept HS9.out hkA); have HBA := Lib.hid (HS9.out.kept_below HB9.out (Nat.le_refl _) hkA); clear p3 hsA hkA a0 a1 a2 a3 a4 a5 a6 a7 a8; have p4 := put_as HSA.out HTA.out.lns simD_ok simD_lim (by decide) ck_T rfl; have h1 := HTA.out.a.box; simp only [simD, Dm.vs] at p4 h1; obtain ⟨a0, a1, a2, a3, a4, a5, a6, a7, a8⟩ := h1)
    | (go_at_call 13; (with_reducible refine p4.mono ?_); rintro e wC ⟨ZC, rfl, hsC, hkC⟩; have HSC := Lib.hid hsC; have HBC := Lib.hid (HSA.out.kept_below HBA.out (Nat.le_refl _) hkC); clear p4 hsC hkC a0 a1 a2 a3 a4 a5 a6 a7 a8; have p5 := idslen_any HSC.out)
    | (go_at_call 15; (with_reducible refine p5.mono ?_); rintro e wE ⟨rfl, rfl⟩))
  go_ret
  exact ⟨rfl, HBC.out⟩
end Go.Proofs.Ytnfpmobmfcgfnaa
