/- THE WALK OF record.Encode (printed by gen/genenc.py). -/
import Derived.Test.YtnfpmobmfcgfnaaReI
import Derived.Test.YtnfpmobmfcgfnaaPr
import Derived.Test.YtnfpmobmfcgfnaaPg
namespace Go.Proofs.Ytnfpmobmfcgfnaa
open Go.RowKit
/-- what Encode hands back -/
def EncPost (c : Cm) (w : World) (e : Ending) (w' : World) : Prop :=
 (goodCB c = false ∧ e = .returned (.tuple #[.slice none 0 0, .int .i64 2]) ∨ goodCB c = true ∧ ∃ r, e = .returned (.tuple #[r, .int .i64 0]) ∧ Own w' w.heap.size r (encL c)) ∧ Below w.heap.size w w'
/-- a command's box, in a world behind another one -/
structure CB (w0 : World) (b : Nat) (V : Array Value) (W : World) : Prop where
 blk : W.heap[b]? = some (.cells V 53 (0, 0))
 bl : Below w0.heap.size w0 W
theorem CB.below {w0 W W' : World} {b : Nat} {V : Array Value} (h : CB w0 b V W) (k : Below W.heap.size W W') : CB w0 b V W' := ⟨(k.block b (lt_of_blk h.blk)).trans h.blk, h.bl.trans (k.mono h.bl.size)⟩
/-- a writer beside it -/
structure ES (w0 : World) (b : Nat) (V : Array Value) (l : List UInt8) (x : Value) (W : World) : Prop where
 ex : ∃ g s, x = ptr g ∧ Wr W g l false s ∧ w0.heap.size ≤ g
 cb : CB w0 b V W
theorem ES.below {w0 W W' : World} {b : Nat} {V : Array Value} {l : List UInt8} {x : Value} (h : ES w0 b V l x W) (k : Below W.heap.size W W') : ES w0 b V l x W' := by
 obtain ⟨g, s, e, h1, h2⟩ := h.ex
 exact ⟨⟨g, s, e, h1.below k, h2⟩, h.cb.below k⟩
theorem CB.step {w0 W W' : World} {b g : Nat} {V : Array Value} {l : List UInt8} {sp : Bool} {s s' : Value} (h : CB w0 b V W) (hw : Wr W g l sp s) (hg : w0.heap.size ≤ g) (k : Step W W' g s s') : CB w0 b V W' :=
 ⟨k.blk hw h.blk (by decide) (by decide), h.bl.trans (k.low hw hg)⟩
theorem docL_len {d : Dm} (h : d.fit) : (docL d).length ≤ 70000000 := by
 unfold docL
 rw [List.length_append]
 have h1 := flat_len _ _ (docB_len h)
 have h2 := linesL_len h.ls
 have h3 : (docB d).length = 9 := rfl
 have h4 := h.many
 have h5 : d.ls.length * 600000 ≤ 100 * 600000 := Nat.mul_le_mul_right _ h4
 rw [h3] at h1
 omega
/-- a move of the chain's value -/
theorem obl_callV {P : Program} {ops : Array Oper} {Q : Exit → Act → World → Prop} {i : Nat} {o : Oper} {a : Act} {w : World} {v : Value} {R : Act → Value → World → Prop} (ho : ops[i]? = some o) (hw : Region.wanted o (yielded ops a.tmps) = true)
  (hr : (execOp a.eval o).run P w = .ok (.value v) w) (hR : R (a.put (dstOf ops i) v) v w) : wpOp P ops Q i (fun a' w' => ∃ v, R a' v w') a w := by
 unfold wpOp
 simp only [ho, hw, if_true]
 refine .inl ?_
 have hd : dstOf ops i = o.dst := by unfold dstOf; rw [ho]; rfl
 rw [hd] at hR
 unfold Oper.wp
 rw [hr]
 exact ⟨v, hR⟩
set_option maxRecDepth 100000 in
set_option maxHeartbeats 16000000 in
theorem enc_bad {w : World} {B : Nat} {v : Value} {c : Cm} (hv : CmV w B v c) (hB : B ≤ w.heap.size) (hl : c.doc.ls.length ≤ 100000) (hG : goodCB c = false) :
  Calls Try.prog 31 #[v] w (EncPost c w) := by
 obtain ⟨A0, m0, V, rfl, HV, HV2, HVI, HB1, HX1, HLS, HOK⟩ := cmd_pre hv hB
 clear hv
 have hgd := good_any (c := c) ⟨.slice A0 c.doc.ls.length m0, by rw [HV.out], HLS.out _ HB1.out, HOK.out⟩ (Nat.le_trans hB HB1.out.size) hl
 rw [hG] at hgd
 have HG := Lib.hid hG
 clear hG
 go_enter Try.func31, Try.ntmps31
 go_upto_region 1 with fail
 generalize World.alloc w _ = w1 at *
 generalize hb : w.heap.size = b1 at HX1 ⊢
 have HBB := Lib.hid hb
 clear hb
 have HXV := Lib.hid (loadV HX1.out HV.out)
 go_wp2_with (first
  | (with_reducible refine wpList_load_row rfl 53 (.tmp 1) rfl b1 rfl 53 V (0, 0) _ HXV.out Try.underlying53 rfl HVI.out ?_)
  | (go_at_call 26; (with_reducible refine hgd.mono ?_); rintro e w2 ⟨rfl, hb2⟩))
 go_ret2
 exact ⟨.inl ⟨HG.out, rfl⟩, HB1.out.trans (hb2.mono HB1.out.size)⟩
set_option maxRecDepth 100000 in
set_option maxHeartbeats 16000000 in
theorem enc_k1 {w : World} {B : Nat} {v : Value} {c : Cm} (hv : CmV w B v c) (hB : B ≤ w.heap.size) (hl : c.doc.ls.length ≤ 100000) (hk : c.kind = 1) (hG : goodCB c = true) :
  Calls Try.prog 31 #[v] w (EncPost c w) := by
 obtain ⟨A0, m0, V, rfl, HV, HV2, HVI, HB1, HX1, HLS, HOK⟩ := cmd_pre hv hB
 clear hv
 have hgd := good_any (c := c) ⟨.slice A0 c.doc.ls.length m0, by rw [HV.out], HLS.out _ HB1.out, HOK.out⟩ (Nat.le_trans hB HB1.out.size) hl
 rw [hG] at hgd
 have HG := Lib.hid hG
 clear hG
 go_enter Try.func31, Try.ntmps31
 go_upto_region 1 with fail
 generalize World.alloc w _ = w1 at *
 generalize hb : w.heap.size = b1 at HX1 ⊢
 have HBB := Lib.hid hb
 clear hb
 have HXV := Lib.hid (loadV HX1.out HV.out)
 have hfit := good_fit HG.out
 have hbody : encL c = numL c.kind ++ bodyL c := rfl
 have HFIT := Lib.hid hfit
 have HCV := Lib.hid (show ∀ W, W.heap[b1]? = some (.cells V 53 (0, 0)) → CBox W b1 c (.slice A0 c.doc.ls.length m0) from fun W hW => CBlk.box (by unfold CBlk; rw [HV.out]; exact hW))
 clear hfit hbody
 go_upto_region 3 with (first
  | (with_reducible refine wpList_load_row rfl 53 (.tmp 1) rfl b1 rfl 53 V (0, 0) _ HXV.out Try.underlying53 rfl HVI.out ?_)
  | (go_at_call 26; (with_reducible refine hgd.mono ?_); rintro e w2 ⟨rfl, hb2⟩; have HB2 := Lib.hid hb2; clear hb2 hgd))
 have HC2 := Lib.hid (show CB w2 b1 V w2 from ⟨(HB2.out.block b1 (lt_of_blk HXV.out)).trans HXV.out, Below.refl _ _⟩)
 refine wp_region_chainP (by kernel_rfl) [none, some (.pointer (some ⟨b1, 0, none⟩)), some (.int .i64 c.kind), none, none] [0, 3, 4] (fun m x W => match m with | 0 => CB w2 b1 V W | 1 => ES w2 b1 V [] x W | _ => ES w2 b1 V (numL c.kind) x W) (by kernel_rfl) (by kernel_rfl) (by kernel_rfl) (by kernel_rfl) (fun m x W W' h hb => by match m, h with | 0, h => exact h.below hb | 1, h => exact h.below hb | n + 2, h => exact h.below hb) HC2.out (fun i hi hn m a W hc hI hd => ?_) (fun k hk a W hc hI hd => ?_) (fun a w8 hc hI hs => ?_)
 ·match i, hi, hn with
  | 0, _, hn => exact absurd hn (by decide)
  | 1, _, _ =>
   have z1 := hc.same 1 (by kernel_rfl)
   simp only [List.getElem?_toArray, List.getElem?_cons_succ, List.getElem?_cons_zero, Option.getD_some] at z1
   refine obl_val rfl (wanted_none rfl) ?_ rfl
   go_simp
  | 2, _, _ =>
   have s1 : a.tmps[9]?.getD undef = (.pointer (some ⟨b1, 0, none⟩)) := hd 1 (by kernel_rfl)
   have hbk : W.heap[b1]? = some (.cells V 53 (0, 0)) := by match m, hI with | 0, hI => exact hI.blk | 1, hI => exact hI.cb.blk | n + 2, hI => exact hI.cb.blk
   have c0 := (HCV.out W hbk).c0
   refine obl_val rfl (wanted_none rfl) ?_ rfl
   go_simp
  | 3, _, hn => exact absurd hn (by decide)
  | 4, _, hn => exact absurd hn (by decide)
  | n + 5, h, _ => exact absurd h (by simp)
 ·match k, hk with
  | 0, _ =>
   refine obl_callK rfl (wanted_none rfl) (by go_simp) (new_any W) ?_
   rintro e w9 ⟨rfl, hw9, hb9⟩
   exact ⟨_, rfl, _, rfl, trivial, ⟨_, _, rfl, hw9, hI.bl.size⟩, hI.below hb9⟩
  | 1, _ =>
   have s2 : a.tmps[10]?.getD undef = (.int .i64 c.kind) := hd 2 (by kernel_rfl)
   have hI : (fun m x W => match m with | 0 => CB w2 b1 V W | 1 => ES w2 b1 V [] x W | _ => ES w2 b1 V (numL c.kind) x W) 1 (a.tmps[8]?.getD undef) W := hI
   obtain ⟨⟨g, s, e, hw, hg⟩, hcb⟩ := hI
   refine obl_callK rfl (wanted_none rfl) (by go_simp) (num_any c.kind HFIT.out.kind.1 HFIT.out.kind.2 hw (by simp)) ?_
   rintro e w9 ⟨s9, rfl, hw9, hs9⟩
   exact ⟨_, rfl, _, rfl, trivial, ⟨_, _, rfl, hw9, hg⟩, hcb.step hw hg hs9⟩
  | 2, _ =>
   have hI : (fun m x W => match m with | 0 => CB w2 b1 V W | 1 => ES w2 b1 V [] x W | _ => ES w2 b1 V (numL c.kind) x W) 2 (a.tmps[11]?.getD undef) W := hI
   obtain ⟨⟨g, s, e, hw, hg⟩, hcb⟩ := hI
   refine obl_callV rfl (wanted_none rfl) (v := ptr g) (by go_simp) ⟨rfl, trivial, ⟨g, s, rfl, hw, hg⟩, hcb⟩
  | n + 3, h => exact absurd h (by simp)
 ·skip
  have hI' : (fun m x W => match m with | 0 => CB w2 b1 V W | 1 => ES w2 b1 V [] x W | _ => ES w2 b1 V (numL c.kind) x W) 3 (a.tmps[4]?.getD undef) w8 := hI
  have hfr := grow_frame hc [(8, a.tmps[8]?.getD undef), (9, (.pointer (some ⟨b1, 0, none⟩))), (10, (.int .i64 c.kind)), (11, a.tmps[11]?.getD undef), (4, a.tmps[4]?.getD undef)] (by kernel_rfl) (fun p hp => by
    simp only [List.mem_cons, List.not_mem_nil, or_false] at hp
    rcases hp with rfl | rfl | rfl | rfl | rfl
    ·rfl
    ·exact hs 1 9 (by decide) (by kernel_rfl)
    ·exact hs 2 10 (by decide) (by kernel_rfl)
    ·rfl
    ·rfl
    )
  generalize a.tmps[8]?.getD undef = z8 at hfr
  generalize a.tmps[11]?.getD undef = z11 at hfr
  generalize a.tmps[4]?.getD undef = z4 at hfr hI'
  simp only [List.range, List.range.loop, List.size_toArray, List.length_cons, List.length_nil, List.map_cons, List.map_nil, List.lookup_cons, List.lookup_nil, Nat.reduceAdd, Nat.reduceBEq, Option.getD_some, Option.getD_none, List.getElem?_toArray, List.getElem?_cons_succ, List.getElem?_cons_zero] at hfr
  subst hfr
  obtain ⟨⟨g, s, rfl, hw8, hg8⟩, hcb8⟩ := hI'
  have HW8 := Lib.hid hw8
  have HG8 := Lib.hid hg8
  have HC8 := Lib.hid hcb8
  clear hc hs hI hw8 hg8 hcb8
  have HWS0 := Lib.hid (show WS w8 g (numL c.kind) s b1 V 53 [] w8 from ⟨⟨s, by rw [List.append_nil]; exact HW8.out, Step.refl⟩, HC8.out.blk⟩)
  have HKL := Lib.hid (numL_len' _ HFIT.out.kind)
  have c0 := (HCV.out w8 HC8.out.blk).c0
  rw [hk] at c0
  go_upto_region 16 with fail
  have HWT := Lib.hid (show WS w8 g (numL c.kind) s b1 V 53 (([] : List (List UInt8)).flatten ++ (([textL c.cty, numL c.ix, numL c.day] : List (List UInt8)).take 0).flatten) w8 by simpa using HWS0.out)
  refine wp_region_chain (by kernel_rfl) [ptr g, .pointer (some ⟨b1, 1, none⟩), .string c.cty, ptr g, .pointer (some ⟨b1, 9, none⟩), .int .i64 c.ix, ptr g, .pointer (some ⟨b1, 5, none⟩), .int .i64 c.day, ptr g] [3, 6, 9] (fun k W => WS w8 g (numL c.kind) s b1 V 53 (([] : List (List UInt8)).flatten ++ (([textL c.cty, numL c.ix, numL c.day] : List (List UInt8)).take k).flatten) W) (by kernel_rfl) (by kernel_rfl) (by kernel_rfl) (fun m W W' h hb => h.below hb) HWT.out (fun i hi hn m a W hc hI hd => ?_) (fun k hk a W hc hI hd => ?_) (fun a w21 hc hI hs => ?_)
  ·match i, hi, hn with
   | 0, _, _ =>
    have z4 := hc.same 4 (by kernel_rfl)
    simp only [List.getElem?_toArray, List.getElem?_cons_succ, List.getElem?_cons_zero, Option.getD_some] at z4
    refine obl_val rfl (wanted_none rfl) ?_ rfl
    go_simp
   | 1, _, _ =>
    have z1 := hc.same 1 (by kernel_rfl)
    simp only [List.getElem?_toArray, List.getElem?_cons_succ, List.getElem?_cons_zero, Option.getD_some] at z1
    refine obl_val rfl (wanted_none rfl) ?_ rfl
    go_simp
   | 2, _, _ =>
    have s1 : a.tmps[36]?.getD undef = (.pointer (some ⟨b1, 1, none⟩)) := hd 1 (by kernel_rfl)
    obtain ⟨c0, c1, c2, c3, c4, c5, c6, c7, c8, c9, c10, c11, c12, c13, c14, c15, c16, c17, c18, c19, c20, c21⟩ := HCV.out W hI.blk
    refine obl_val rfl (wanted_none rfl) ?_ rfl
    go_simp
   | 3, _, hn => exact absurd hn (by decide)
   | 4, _, _ =>
    have z1 := hc.same 1 (by kernel_rfl)
    simp only [List.getElem?_toArray, List.getElem?_cons_succ, List.getElem?_cons_zero, Option.getD_some] at z1
    refine obl_val rfl (wanted_none rfl) ?_ rfl
    go_simp
   | 5, _, _ =>
    have s4 : a.tmps[39]?.getD undef = (.pointer (some ⟨b1, 9, none⟩)) := hd 4 (by kernel_rfl)
    obtain ⟨c0, c1, c2, c3, c4, c5, c6, c7, c8, c9, c10, c11, c12, c13, c14, c15, c16, c17, c18, c19, c20, c21⟩ := HCV.out W hI.blk
    refine obl_val rfl (wanted_none rfl) ?_ rfl
    go_simp
   | 6, _, hn => exact absurd hn (by decide)
   | 7, _, _ =>
    have z1 := hc.same 1 (by kernel_rfl)
    simp only [List.getElem?_toArray, List.getElem?_cons_succ, List.getElem?_cons_zero, Option.getD_some] at z1
    refine obl_val rfl (wanted_none rfl) ?_ rfl
    go_simp
   | 8, _, _ =>
    have s7 : a.tmps[42]?.getD undef = (.pointer (some ⟨b1, 5, none⟩)) := hd 7 (by kernel_rfl)
    obtain ⟨c0, c1, c2, c3, c4, c5, c6, c7, c8, c9, c10, c11, c12, c13, c14, c15, c16, c17, c18, c19, c20, c21⟩ := HCV.out W hI.blk
    refine obl_val rfl (wanted_none rfl) ?_ rfl
    go_simp
   | 9, _, hn => exact absurd hn (by decide)
   | n + 10, h, _ => exact absurd h (by simp)
  ·match k, hk with
   | 0, _ =>
    have s0 : a.tmps[35]?.getD undef = (ptr g) := hd 0 (by kernel_rfl)
    have s2 : a.tmps[37]?.getD undef = (.string c.cty) := hd 2 (by kernel_rfl)
    obtain ⟨⟨sq, hw, hst⟩, hbk⟩ := hI
    refine obl_callK rfl (wanted_none rfl) (by go_simp) (text_any c.cty HFIT.out.cty hw (by simp; have := HKL.out; omega)) ?_
    rintro e w9 ⟨s9, rfl, hw9, hs9⟩
    exact ⟨_, rfl, _, rfl, rfl, WS.call hw hst hbk (by decide) (by decide) hw9 hs9 (by simp [List.take])⟩
   | 1, _ =>
    have s3 : a.tmps[38]?.getD undef = (ptr g) := hd 3 (by kernel_rfl)
    have s5 : a.tmps[40]?.getD undef = (.int .i64 c.ix) := hd 5 (by kernel_rfl)
    obtain ⟨⟨sq, hw, hst⟩, hbk⟩ := hI
    refine obl_callK rfl (wanted_none rfl) (by go_simp) (num_any c.ix HFIT.out.ix.1 HFIT.out.ix.2 hw (by simp; have := HKL.out; have := textL_len _ HFIT.out.cty; omega)) ?_
    rintro e w9 ⟨s9, rfl, hw9, hs9⟩
    exact ⟨_, rfl, _, rfl, rfl, WS.call hw hst hbk (by decide) (by decide) hw9 hs9 (by simp [List.take])⟩
   | 2, _ =>
    have s6 : a.tmps[41]?.getD undef = (ptr g) := hd 6 (by kernel_rfl)
    have s8 : a.tmps[43]?.getD undef = (.int .i64 c.day) := hd 8 (by kernel_rfl)
    obtain ⟨⟨sq, hw, hst⟩, hbk⟩ := hI
    refine obl_callK rfl (wanted_none rfl) (by go_simp) (num_any c.day HFIT.out.day.1 HFIT.out.day.2 hw (by simp; have := HKL.out; have := textL_len _ HFIT.out.cty; have := numL_len' _ HFIT.out.ix; omega)) ?_
    rintro e w9 ⟨s9, rfl, hw9, hs9⟩
    exact ⟨_, rfl, _, rfl, rfl, WS.call hw hst hbk (by decide) (by decide) hw9 hs9 (by simp [List.take])⟩
   | n + 3, h => exact absurd h (by simp)
  ·skip
   have hfr := grow_frame hc [(35, (ptr g)), (36, (.pointer (some ⟨b1, 1, none⟩))), (37, (.string c.cty)), (38, (ptr g)), (39, (.pointer (some ⟨b1, 9, none⟩))), (40, (.int .i64 c.ix)), (41, (ptr g)), (42, (.pointer (some ⟨b1, 5, none⟩))), (43, (.int .i64 c.day)), (44, (ptr g))] (by kernel_rfl) (fun p hp => by
     simp only [List.mem_cons, List.not_mem_nil, or_false] at hp
     rcases hp with rfl | rfl | rfl | rfl | rfl | rfl | rfl | rfl | rfl | rfl
     ·exact hs 0 35 (by decide) (by kernel_rfl)
     ·exact hs 1 36 (by decide) (by kernel_rfl)
     ·exact hs 2 37 (by decide) (by kernel_rfl)
     ·exact hs 3 38 (by decide) (by kernel_rfl)
     ·exact hs 4 39 (by decide) (by kernel_rfl)
     ·exact hs 5 40 (by decide) (by kernel_rfl)
     ·exact hs 6 41 (by decide) (by kernel_rfl)
     ·exact hs 7 42 (by decide) (by kernel_rfl)
     ·exact hs 8 43 (by decide) (by kernel_rfl)
     ·exact hs 9 44 (by decide) (by kernel_rfl)
     )
   simp only [List.range, List.range.loop, List.size_toArray, List.length_cons, List.length_nil, List.map_cons, List.map_nil, List.lookup_cons, List.lookup_nil, Nat.reduceAdd, Nat.reduceBEq, Option.getD_some, Option.getD_none, List.getElem?_toArray, List.getElem?_cons_succ, List.getElem?_cons_zero] at hfr
   subst hfr
   have HWS1 := Lib.hid (show WS w8 g (numL c.kind) s b1 V 53 (([textL c.cty, numL c.ix, numL c.day] : List (List UInt8)).flatten) w21 by simpa using hI)
   clear hc hs hI
   have hbo : bodyL c = ([textL c.cty, numL c.ix, numL c.day] : List (List UInt8)).flatten := by rw [bodyL, if_pos hk]
   obtain ⟨sz, hwz, hsz⟩ := HWS1.out.ex
   rw [← hbo] at hwz
   have hlen : (numL c.kind ++ bodyL c).length ≤ 2000000000 := by
    rw [List.length_append, hbo]
    simp only [List.flatten_cons, List.flatten_nil, List.length_append, List.length_nil]
    have := HKL.out; have := textL_len _ HFIT.out.cty; have := numL_len' _ HFIT.out.ix; have := numL_len' _ HFIT.out.day; omega
   have hby := bytes_any hwz hlen
   have HFB := Lib.hid (HB2.out.trans ((HC8.out.bl.trans (hsz.low HW8.out HG8.out)).mono HB2.out.size))
   clear hbo hwz hsz hlen
   go_wp2_with (go_at_call 67; (with_reducible refine hby.mono ?_); rintro e wz ⟨r, rfl, hoz, hbz⟩)
   go_ret2
   have hbf := HB1.out.trans (HFB.out.mono HB1.out.size)
   exact ⟨.inr ⟨HG.out, r, rfl, hoz.more hbf.size⟩, hbf.trans (hbz.mono hbf.size)⟩
set_option maxRecDepth 100000 in
set_option maxHeartbeats 16000000 in
theorem enc_k2 {w : World} {B : Nat} {v : Value} {c : Cm} (hv : CmV w B v c) (hB : B ≤ w.heap.size) (hl : c.doc.ls.length ≤ 100000) (hk : c.kind = 2) (hG : goodCB c = true) :
  Calls Try.prog 31 #[v] w (EncPost c w) := by
 obtain ⟨A0, m0, V, rfl, HV, HV2, HVI, HB1, HX1, HLS, HOK⟩ := cmd_pre hv hB
 clear hv
 have hgd := good_any (c := c) ⟨.slice A0 c.doc.ls.length m0, by rw [HV.out], HLS.out _ HB1.out, HOK.out⟩ (Nat.le_trans hB HB1.out.size) hl
 rw [hG] at hgd
 have HG := Lib.hid hG
 clear hG
 go_enter Try.func31, Try.ntmps31
 go_upto_region 1 with fail
 generalize World.alloc w _ = w1 at *
 generalize hb : w.heap.size = b1 at HX1 ⊢
 have HBB := Lib.hid hb
 clear hb
 have HXV := Lib.hid (loadV HX1.out HV.out)
 have hfit := good_fit HG.out
 have hbody : encL c = numL c.kind ++ bodyL c := rfl
 have HFIT := Lib.hid hfit
 have HCV := Lib.hid (show ∀ W, W.heap[b1]? = some (.cells V 53 (0, 0)) → CBox W b1 c (.slice A0 c.doc.ls.length m0) from fun W hW => CBlk.box (by unfold CBlk; rw [HV.out]; exact hW))
 clear hfit hbody
 go_upto_region 3 with (first
  | (with_reducible refine wpList_load_row rfl 53 (.tmp 1) rfl b1 rfl 53 V (0, 0) _ HXV.out Try.underlying53 rfl HVI.out ?_)
  | (go_at_call 26; (with_reducible refine hgd.mono ?_); rintro e w2 ⟨rfl, hb2⟩; have HB2 := Lib.hid hb2; clear hb2 hgd))
 have HC2 := Lib.hid (show CB w2 b1 V w2 from ⟨(HB2.out.block b1 (lt_of_blk HXV.out)).trans HXV.out, Below.refl _ _⟩)
 refine wp_region_chainP (by kernel_rfl) [none, some (.pointer (some ⟨b1, 0, none⟩)), some (.int .i64 c.kind), none, none] [0, 3, 4] (fun m x W => match m with | 0 => CB w2 b1 V W | 1 => ES w2 b1 V [] x W | _ => ES w2 b1 V (numL c.kind) x W) (by kernel_rfl) (by kernel_rfl) (by kernel_rfl) (by kernel_rfl) (fun m x W W' h hb => by match m, h with | 0, h => exact h.below hb | 1, h => exact h.below hb | n + 2, h => exact h.below hb) HC2.out (fun i hi hn m a W hc hI hd => ?_) (fun k hk a W hc hI hd => ?_) (fun a w8 hc hI hs => ?_)
 ·match i, hi, hn with
  | 0, _, hn => exact absurd hn (by decide)
  | 1, _, _ =>
   have z1 := hc.same 1 (by kernel_rfl)
   simp only [List.getElem?_toArray, List.getElem?_cons_succ, List.getElem?_cons_zero, Option.getD_some] at z1
   refine obl_val rfl (wanted_none rfl) ?_ rfl
   go_simp
  | 2, _, _ =>
   have s1 : a.tmps[9]?.getD undef = (.pointer (some ⟨b1, 0, none⟩)) := hd 1 (by kernel_rfl)
   have hbk : W.heap[b1]? = some (.cells V 53 (0, 0)) := by match m, hI with | 0, hI => exact hI.blk | 1, hI => exact hI.cb.blk | n + 2, hI => exact hI.cb.blk
   have c0 := (HCV.out W hbk).c0
   refine obl_val rfl (wanted_none rfl) ?_ rfl
   go_simp
  | 3, _, hn => exact absurd hn (by decide)
  | 4, _, hn => exact absurd hn (by decide)
  | n + 5, h, _ => exact absurd h (by simp)
 ·match k, hk with
  | 0, _ =>
   refine obl_callK rfl (wanted_none rfl) (by go_simp) (new_any W) ?_
   rintro e w9 ⟨rfl, hw9, hb9⟩
   exact ⟨_, rfl, _, rfl, trivial, ⟨_, _, rfl, hw9, hI.bl.size⟩, hI.below hb9⟩
  | 1, _ =>
   have s2 : a.tmps[10]?.getD undef = (.int .i64 c.kind) := hd 2 (by kernel_rfl)
   have hI : (fun m x W => match m with | 0 => CB w2 b1 V W | 1 => ES w2 b1 V [] x W | _ => ES w2 b1 V (numL c.kind) x W) 1 (a.tmps[8]?.getD undef) W := hI
   obtain ⟨⟨g, s, e, hw, hg⟩, hcb⟩ := hI
   refine obl_callK rfl (wanted_none rfl) (by go_simp) (num_any c.kind HFIT.out.kind.1 HFIT.out.kind.2 hw (by simp)) ?_
   rintro e w9 ⟨s9, rfl, hw9, hs9⟩
   exact ⟨_, rfl, _, rfl, trivial, ⟨_, _, rfl, hw9, hg⟩, hcb.step hw hg hs9⟩
  | 2, _ =>
   have hI : (fun m x W => match m with | 0 => CB w2 b1 V W | 1 => ES w2 b1 V [] x W | _ => ES w2 b1 V (numL c.kind) x W) 2 (a.tmps[11]?.getD undef) W := hI
   obtain ⟨⟨g, s, e, hw, hg⟩, hcb⟩ := hI
   refine obl_callV rfl (wanted_none rfl) (v := ptr g) (by go_simp) ⟨rfl, trivial, ⟨g, s, rfl, hw, hg⟩, hcb⟩
  | n + 3, h => exact absurd h (by simp)
 ·skip
  have hI' : (fun m x W => match m with | 0 => CB w2 b1 V W | 1 => ES w2 b1 V [] x W | _ => ES w2 b1 V (numL c.kind) x W) 3 (a.tmps[4]?.getD undef) w8 := hI
  have hfr := grow_frame hc [(8, a.tmps[8]?.getD undef), (9, (.pointer (some ⟨b1, 0, none⟩))), (10, (.int .i64 c.kind)), (11, a.tmps[11]?.getD undef), (4, a.tmps[4]?.getD undef)] (by kernel_rfl) (fun p hp => by
    simp only [List.mem_cons, List.not_mem_nil, or_false] at hp
    rcases hp with rfl | rfl | rfl | rfl | rfl
    ·rfl
    ·exact hs 1 9 (by decide) (by kernel_rfl)
    ·exact hs 2 10 (by decide) (by kernel_rfl)
    ·rfl
    ·rfl
    )
  generalize a.tmps[8]?.getD undef = z8 at hfr
  generalize a.tmps[11]?.getD undef = z11 at hfr
  generalize a.tmps[4]?.getD undef = z4 at hfr hI'
  simp only [List.range, List.range.loop, List.size_toArray, List.length_cons, List.length_nil, List.map_cons, List.map_nil, List.lookup_cons, List.lookup_nil, Nat.reduceAdd, Nat.reduceBEq, Option.getD_some, Option.getD_none, List.getElem?_toArray, List.getElem?_cons_succ, List.getElem?_cons_zero] at hfr
  subst hfr
  obtain ⟨⟨g, s, rfl, hw8, hg8⟩, hcb8⟩ := hI'
  have HW8 := Lib.hid hw8
  have HG8 := Lib.hid hg8
  have HC8 := Lib.hid hcb8
  clear hc hs hI hw8 hg8 hcb8
  have HWS0 := Lib.hid (show WS w8 g (numL c.kind) s b1 V 53 [] w8 from ⟨⟨s, by rw [List.append_nil]; exact HW8.out, Step.refl⟩, HC8.out.blk⟩)
  have HKL := Lib.hid (numL_len' _ HFIT.out.kind)
  have c0 := (HCV.out w8 HC8.out.blk).c0
  rw [hk] at c0
  go_upto_region 17 with fail
  have HWT := Lib.hid (show WS w8 g (numL c.kind) s b1 V 53 (([] : List (List UInt8)).flatten ++ (([textL c.cty, numL c.cat, numL c.day, numL c.til, numL c.bp] : List (List UInt8)).take 0).flatten) w8 by simpa using HWS0.out)
  refine wp_region_chain (by kernel_rfl) [ptr g, .pointer (some ⟨b1, 1, none⟩), .string c.cty, ptr g, .pointer (some ⟨b1, 3, none⟩), .int .i64 c.cat, ptr g, .pointer (some ⟨b1, 5, none⟩), .int .i64 c.day, ptr g, .pointer (some ⟨b1, 6, none⟩), .int .i64 c.til, ptr g, .pointer (some ⟨b1, 4, none⟩), .int .i64 c.bp, ptr g] [3, 6, 9, 12, 15] (fun k W => WS w8 g (numL c.kind) s b1 V 53 (([] : List (List UInt8)).flatten ++ (([textL c.cty, numL c.cat, numL c.day, numL c.til, numL c.bp] : List (List UInt8)).take k).flatten) W) (by kernel_rfl) (by kernel_rfl) (by kernel_rfl) (fun m W W' h hb => h.below hb) HWT.out (fun i hi hn m a W hc hI hd => ?_) (fun k hk a W hc hI hd => ?_) (fun a w21 hc hI hs => ?_)
  ·match i, hi, hn with
   | 0, _, _ =>
    have z4 := hc.same 4 (by kernel_rfl)
    simp only [List.getElem?_toArray, List.getElem?_cons_succ, List.getElem?_cons_zero, Option.getD_some] at z4
    refine obl_val rfl (wanted_none rfl) ?_ rfl
    go_simp
   | 1, _, _ =>
    have z1 := hc.same 1 (by kernel_rfl)
    simp only [List.getElem?_toArray, List.getElem?_cons_succ, List.getElem?_cons_zero, Option.getD_some] at z1
    refine obl_val rfl (wanted_none rfl) ?_ rfl
    go_simp
   | 2, _, _ =>
    have s1 : a.tmps[46]?.getD undef = (.pointer (some ⟨b1, 1, none⟩)) := hd 1 (by kernel_rfl)
    obtain ⟨c0, c1, c2, c3, c4, c5, c6, c7, c8, c9, c10, c11, c12, c13, c14, c15, c16, c17, c18, c19, c20, c21⟩ := HCV.out W hI.blk
    refine obl_val rfl (wanted_none rfl) ?_ rfl
    go_simp
   | 3, _, hn => exact absurd hn (by decide)
   | 4, _, _ =>
    have z1 := hc.same 1 (by kernel_rfl)
    simp only [List.getElem?_toArray, List.getElem?_cons_succ, List.getElem?_cons_zero, Option.getD_some] at z1
    refine obl_val rfl (wanted_none rfl) ?_ rfl
    go_simp
   | 5, _, _ =>
    have s4 : a.tmps[49]?.getD undef = (.pointer (some ⟨b1, 3, none⟩)) := hd 4 (by kernel_rfl)
    obtain ⟨c0, c1, c2, c3, c4, c5, c6, c7, c8, c9, c10, c11, c12, c13, c14, c15, c16, c17, c18, c19, c20, c21⟩ := HCV.out W hI.blk
    refine obl_val rfl (wanted_none rfl) ?_ rfl
    go_simp
   | 6, _, hn => exact absurd hn (by decide)
   | 7, _, _ =>
    have z1 := hc.same 1 (by kernel_rfl)
    simp only [List.getElem?_toArray, List.getElem?_cons_succ, List.getElem?_cons_zero, Option.getD_some] at z1
    refine obl_val rfl (wanted_none rfl) ?_ rfl
    go_simp
   | 8, _, _ =>
    have s7 : a.tmps[52]?.getD undef = (.pointer (some ⟨b1, 5, none⟩)) := hd 7 (by kernel_rfl)
    obtain ⟨c0, c1, c2, c3, c4, c5, c6, c7, c8, c9, c10, c11, c12, c13, c14, c15, c16, c17, c18, c19, c20, c21⟩ := HCV.out W hI.blk
    refine obl_val rfl (wanted_none rfl) ?_ rfl
    go_simp
   | 9, _, hn => exact absurd hn (by decide)
   | 10, _, _ =>
    have z1 := hc.same 1 (by kernel_rfl)
    simp only [List.getElem?_toArray, List.getElem?_cons_succ, List.getElem?_cons_zero, Option.getD_some] at z1
    refine obl_val rfl (wanted_none rfl) ?_ rfl
    go_simp
   | 11, _, _ =>
    have s10 : a.tmps[55]?.getD undef = (.pointer (some ⟨b1, 6, none⟩)) := hd 10 (by kernel_rfl)
    obtain ⟨c0, c1, c2, c3, c4, c5, c6, c7, c8, c9, c10, c11, c12, c13, c14, c15, c16, c17, c18, c19, c20, c21⟩ := HCV.out W hI.blk
    refine obl_val rfl (wanted_none rfl) ?_ rfl
    go_simp
   | 12, _, hn => exact absurd hn (by decide)
   | 13, _, _ =>
    have z1 := hc.same 1 (by kernel_rfl)
    simp only [List.getElem?_toArray, List.getElem?_cons_succ, List.getElem?_cons_zero, Option.getD_some] at z1
    refine obl_val rfl (wanted_none rfl) ?_ rfl
    go_simp
   | 14, _, _ =>
    have s13 : a.tmps[58]?.getD undef = (.pointer (some ⟨b1, 4, none⟩)) := hd 13 (by kernel_rfl)
    obtain ⟨c0, c1, c2, c3, c4, c5, c6, c7, c8, c9, c10, c11, c12, c13, c14, c15, c16, c17, c18, c19, c20, c21⟩ := HCV.out W hI.blk
    refine obl_val rfl (wanted_none rfl) ?_ rfl
    go_simp
   | 15, _, hn => exact absurd hn (by decide)
   | n + 16, h, _ => exact absurd h (by simp)
  ·match k, hk with
   | 0, _ =>
    have s0 : a.tmps[45]?.getD undef = (ptr g) := hd 0 (by kernel_rfl)
    have s2 : a.tmps[47]?.getD undef = (.string c.cty) := hd 2 (by kernel_rfl)
    obtain ⟨⟨sq, hw, hst⟩, hbk⟩ := hI
    refine obl_callK rfl (wanted_none rfl) (by go_simp) (text_any c.cty HFIT.out.cty hw (by simp; have := HKL.out; omega)) ?_
    rintro e w9 ⟨s9, rfl, hw9, hs9⟩
    exact ⟨_, rfl, _, rfl, rfl, WS.call hw hst hbk (by decide) (by decide) hw9 hs9 (by simp [List.take])⟩
   | 1, _ =>
    have s3 : a.tmps[48]?.getD undef = (ptr g) := hd 3 (by kernel_rfl)
    have s5 : a.tmps[50]?.getD undef = (.int .i64 c.cat) := hd 5 (by kernel_rfl)
    obtain ⟨⟨sq, hw, hst⟩, hbk⟩ := hI
    refine obl_callK rfl (wanted_none rfl) (by go_simp) (num_any c.cat HFIT.out.cat.1 HFIT.out.cat.2 hw (by simp; have := HKL.out; have := textL_len _ HFIT.out.cty; omega)) ?_
    rintro e w9 ⟨s9, rfl, hw9, hs9⟩
    exact ⟨_, rfl, _, rfl, rfl, WS.call hw hst hbk (by decide) (by decide) hw9 hs9 (by simp [List.take])⟩
   | 2, _ =>
    have s6 : a.tmps[51]?.getD undef = (ptr g) := hd 6 (by kernel_rfl)
    have s8 : a.tmps[53]?.getD undef = (.int .i64 c.day) := hd 8 (by kernel_rfl)
    obtain ⟨⟨sq, hw, hst⟩, hbk⟩ := hI
    refine obl_callK rfl (wanted_none rfl) (by go_simp) (num_any c.day HFIT.out.day.1 HFIT.out.day.2 hw (by simp; have := HKL.out; have := textL_len _ HFIT.out.cty; have := numL_len' _ HFIT.out.cat; omega)) ?_
    rintro e w9 ⟨s9, rfl, hw9, hs9⟩
    exact ⟨_, rfl, _, rfl, rfl, WS.call hw hst hbk (by decide) (by decide) hw9 hs9 (by simp [List.take])⟩
   | 3, _ =>
    have s9 : a.tmps[54]?.getD undef = (ptr g) := hd 9 (by kernel_rfl)
    have s11 : a.tmps[56]?.getD undef = (.int .i64 c.til) := hd 11 (by kernel_rfl)
    obtain ⟨⟨sq, hw, hst⟩, hbk⟩ := hI
    refine obl_callK rfl (wanted_none rfl) (by go_simp) (num_any c.til HFIT.out.til.1 HFIT.out.til.2 hw (by simp; have := HKL.out; have := textL_len _ HFIT.out.cty; have := numL_len' _ HFIT.out.cat; have := numL_len' _ HFIT.out.day; omega)) ?_
    rintro e w9 ⟨s9, rfl, hw9, hs9⟩
    exact ⟨_, rfl, _, rfl, rfl, WS.call hw hst hbk (by decide) (by decide) hw9 hs9 (by simp [List.take])⟩
   | 4, _ =>
    have s12 : a.tmps[57]?.getD undef = (ptr g) := hd 12 (by kernel_rfl)
    have s14 : a.tmps[59]?.getD undef = (.int .i64 c.bp) := hd 14 (by kernel_rfl)
    obtain ⟨⟨sq, hw, hst⟩, hbk⟩ := hI
    refine obl_callK rfl (wanted_none rfl) (by go_simp) (num_any c.bp HFIT.out.bp.1 HFIT.out.bp.2 hw (by simp; have := HKL.out; have := textL_len _ HFIT.out.cty; have := numL_len' _ HFIT.out.cat; have := numL_len' _ HFIT.out.day; have := numL_len' _ HFIT.out.til; omega)) ?_
    rintro e w9 ⟨s9, rfl, hw9, hs9⟩
    exact ⟨_, rfl, _, rfl, rfl, WS.call hw hst hbk (by decide) (by decide) hw9 hs9 (by simp [List.take])⟩
   | n + 5, h => exact absurd h (by simp)
  ·skip
   have hfr := grow_frame hc [(45, (ptr g)), (46, (.pointer (some ⟨b1, 1, none⟩))), (47, (.string c.cty)), (48, (ptr g)), (49, (.pointer (some ⟨b1, 3, none⟩))), (50, (.int .i64 c.cat)), (51, (ptr g)), (52, (.pointer (some ⟨b1, 5, none⟩))), (53, (.int .i64 c.day)), (54, (ptr g)), (55, (.pointer (some ⟨b1, 6, none⟩))), (56, (.int .i64 c.til)), (57, (ptr g)), (58, (.pointer (some ⟨b1, 4, none⟩))), (59, (.int .i64 c.bp)), (60, (ptr g))] (by kernel_rfl) (fun p hp => by
     simp only [List.mem_cons, List.not_mem_nil, or_false] at hp
     rcases hp with rfl | rfl | rfl | rfl | rfl | rfl | rfl | rfl | rfl | rfl | rfl | rfl | rfl | rfl | rfl | rfl
     ·exact hs 0 45 (by decide) (by kernel_rfl)
     ·exact hs 1 46 (by decide) (by kernel_rfl)
     ·exact hs 2 47 (by decide) (by kernel_rfl)
     ·exact hs 3 48 (by decide) (by kernel_rfl)
     ·exact hs 4 49 (by decide) (by kernel_rfl)
     ·exact hs 5 50 (by decide) (by kernel_rfl)
     ·exact hs 6 51 (by decide) (by kernel_rfl)
     ·exact hs 7 52 (by decide) (by kernel_rfl)
     ·exact hs 8 53 (by decide) (by kernel_rfl)
     ·exact hs 9 54 (by decide) (by kernel_rfl)
     ·exact hs 10 55 (by decide) (by kernel_rfl)
     ·exact hs 11 56 (by decide) (by kernel_rfl)
     ·exact hs 12 57 (by decide) (by kernel_rfl)
     ·exact hs 13 58 (by decide) (by kernel_rfl)
     ·exact hs 14 59 (by decide) (by kernel_rfl)
     ·exact hs 15 60 (by decide) (by kernel_rfl)
     )
   simp only [List.range, List.range.loop, List.size_toArray, List.length_cons, List.length_nil, List.map_cons, List.map_nil, List.lookup_cons, List.lookup_nil, Nat.reduceAdd, Nat.reduceBEq, Option.getD_some, Option.getD_none, List.getElem?_toArray, List.getElem?_cons_succ, List.getElem?_cons_zero] at hfr
   subst hfr
   have HWS1 := Lib.hid (show WS w8 g (numL c.kind) s b1 V 53 (([textL c.cty, numL c.cat, numL c.day, numL c.til, numL c.bp] : List (List UInt8)).flatten) w21 by simpa using hI)
   clear hc hs hI
   have hbo : bodyL c = ([textL c.cty, numL c.cat, numL c.day, numL c.til, numL c.bp] : List (List UInt8)).flatten := by rw [bodyL, if_neg (by rw [hk]; decide), if_pos hk]
   obtain ⟨sz, hwz, hsz⟩ := HWS1.out.ex
   rw [← hbo] at hwz
   have hlen : (numL c.kind ++ bodyL c).length ≤ 2000000000 := by
    rw [List.length_append, hbo]
    simp only [List.flatten_cons, List.flatten_nil, List.length_append, List.length_nil]
    have := HKL.out; have := textL_len _ HFIT.out.cty; have := numL_len' _ HFIT.out.cat; have := numL_len' _ HFIT.out.day; have := numL_len' _ HFIT.out.til; have := numL_len' _ HFIT.out.bp; omega
   have hby := bytes_any hwz hlen
   have HFB := Lib.hid (HB2.out.trans ((HC8.out.bl.trans (hsz.low HW8.out HG8.out)).mono HB2.out.size))
   clear hbo hwz hsz hlen
   go_wp2_with (go_at_call 67; (with_reducible refine hby.mono ?_); rintro e wz ⟨r, rfl, hoz, hbz⟩)
   go_ret2
   have hbf := HB1.out.trans (HFB.out.mono HB1.out.size)
   exact ⟨.inr ⟨HG.out, r, rfl, hoz.more hbf.size⟩, hbf.trans (hbz.mono hbf.size)⟩
set_option maxRecDepth 100000 in
set_option maxHeartbeats 16000000 in
theorem enc_k3 {w : World} {B : Nat} {v : Value} {c : Cm} (hv : CmV w B v c) (hB : B ≤ w.heap.size) (hl : c.doc.ls.length ≤ 100000) (hk : c.kind = 3) (hG : goodCB c = true) :
  Calls Try.prog 31 #[v] w (EncPost c w) := by
 obtain ⟨A0, m0, V, rfl, HV, HV2, HVI, HB1, HX1, HLS, HOK⟩ := cmd_pre hv hB
 clear hv
 have hgd := good_any (c := c) ⟨.slice A0 c.doc.ls.length m0, by rw [HV.out], HLS.out _ HB1.out, HOK.out⟩ (Nat.le_trans hB HB1.out.size) hl
 rw [hG] at hgd
 have HG := Lib.hid hG
 clear hG
 go_enter Try.func31, Try.ntmps31
 go_upto_region 1 with fail
 generalize World.alloc w _ = w1 at *
 generalize hb : w.heap.size = b1 at HX1 ⊢
 have HBB := Lib.hid hb
 clear hb
 have HXV := Lib.hid (loadV HX1.out HV.out)
 have hfit := good_fit HG.out
 have hbody : encL c = numL c.kind ++ bodyL c := rfl
 have HFIT := Lib.hid hfit
 have HCV := Lib.hid (show ∀ W, W.heap[b1]? = some (.cells V 53 (0, 0)) → CBox W b1 c (.slice A0 c.doc.ls.length m0) from fun W hW => CBlk.box (by unfold CBlk; rw [HV.out]; exact hW))
 clear hfit hbody
 go_upto_region 3 with (first
  | (with_reducible refine wpList_load_row rfl 53 (.tmp 1) rfl b1 rfl 53 V (0, 0) _ HXV.out Try.underlying53 rfl HVI.out ?_)
  | (go_at_call 26; (with_reducible refine hgd.mono ?_); rintro e w2 ⟨rfl, hb2⟩; have HB2 := Lib.hid hb2; clear hb2 hgd))
 have HC2 := Lib.hid (show CB w2 b1 V w2 from ⟨(HB2.out.block b1 (lt_of_blk HXV.out)).trans HXV.out, Below.refl _ _⟩)
 refine wp_region_chainP (by kernel_rfl) [none, some (.pointer (some ⟨b1, 0, none⟩)), some (.int .i64 c.kind), none, none] [0, 3, 4] (fun m x W => match m with | 0 => CB w2 b1 V W | 1 => ES w2 b1 V [] x W | _ => ES w2 b1 V (numL c.kind) x W) (by kernel_rfl) (by kernel_rfl) (by kernel_rfl) (by kernel_rfl) (fun m x W W' h hb => by match m, h with | 0, h => exact h.below hb | 1, h => exact h.below hb | n + 2, h => exact h.below hb) HC2.out (fun i hi hn m a W hc hI hd => ?_) (fun k hk a W hc hI hd => ?_) (fun a w8 hc hI hs => ?_)
 ·match i, hi, hn with
  | 0, _, hn => exact absurd hn (by decide)
  | 1, _, _ =>
   have z1 := hc.same 1 (by kernel_rfl)
   simp only [List.getElem?_toArray, List.getElem?_cons_succ, List.getElem?_cons_zero, Option.getD_some] at z1
   refine obl_val rfl (wanted_none rfl) ?_ rfl
   go_simp
  | 2, _, _ =>
   have s1 : a.tmps[9]?.getD undef = (.pointer (some ⟨b1, 0, none⟩)) := hd 1 (by kernel_rfl)
   have hbk : W.heap[b1]? = some (.cells V 53 (0, 0)) := by match m, hI with | 0, hI => exact hI.blk | 1, hI => exact hI.cb.blk | n + 2, hI => exact hI.cb.blk
   have c0 := (HCV.out W hbk).c0
   refine obl_val rfl (wanted_none rfl) ?_ rfl
   go_simp
  | 3, _, hn => exact absurd hn (by decide)
  | 4, _, hn => exact absurd hn (by decide)
  | n + 5, h, _ => exact absurd h (by simp)
 ·match k, hk with
  | 0, _ =>
   refine obl_callK rfl (wanted_none rfl) (by go_simp) (new_any W) ?_
   rintro e w9 ⟨rfl, hw9, hb9⟩
   exact ⟨_, rfl, _, rfl, trivial, ⟨_, _, rfl, hw9, hI.bl.size⟩, hI.below hb9⟩
  | 1, _ =>
   have s2 : a.tmps[10]?.getD undef = (.int .i64 c.kind) := hd 2 (by kernel_rfl)
   have hI : (fun m x W => match m with | 0 => CB w2 b1 V W | 1 => ES w2 b1 V [] x W | _ => ES w2 b1 V (numL c.kind) x W) 1 (a.tmps[8]?.getD undef) W := hI
   obtain ⟨⟨g, s, e, hw, hg⟩, hcb⟩ := hI
   refine obl_callK rfl (wanted_none rfl) (by go_simp) (num_any c.kind HFIT.out.kind.1 HFIT.out.kind.2 hw (by simp)) ?_
   rintro e w9 ⟨s9, rfl, hw9, hs9⟩
   exact ⟨_, rfl, _, rfl, trivial, ⟨_, _, rfl, hw9, hg⟩, hcb.step hw hg hs9⟩
  | 2, _ =>
   have hI : (fun m x W => match m with | 0 => CB w2 b1 V W | 1 => ES w2 b1 V [] x W | _ => ES w2 b1 V (numL c.kind) x W) 2 (a.tmps[11]?.getD undef) W := hI
   obtain ⟨⟨g, s, e, hw, hg⟩, hcb⟩ := hI
   refine obl_callV rfl (wanted_none rfl) (v := ptr g) (by go_simp) ⟨rfl, trivial, ⟨g, s, rfl, hw, hg⟩, hcb⟩
  | n + 3, h => exact absurd h (by simp)
 ·skip
  have hI' : (fun m x W => match m with | 0 => CB w2 b1 V W | 1 => ES w2 b1 V [] x W | _ => ES w2 b1 V (numL c.kind) x W) 3 (a.tmps[4]?.getD undef) w8 := hI
  have hfr := grow_frame hc [(8, a.tmps[8]?.getD undef), (9, (.pointer (some ⟨b1, 0, none⟩))), (10, (.int .i64 c.kind)), (11, a.tmps[11]?.getD undef), (4, a.tmps[4]?.getD undef)] (by kernel_rfl) (fun p hp => by
    simp only [List.mem_cons, List.not_mem_nil, or_false] at hp
    rcases hp with rfl | rfl | rfl | rfl | rfl
    ·rfl
    ·exact hs 1 9 (by decide) (by kernel_rfl)
    ·exact hs 2 10 (by decide) (by kernel_rfl)
    ·rfl
    ·rfl
    )
  generalize a.tmps[8]?.getD undef = z8 at hfr
  generalize a.tmps[11]?.getD undef = z11 at hfr
  generalize a.tmps[4]?.getD undef = z4 at hfr hI'
  simp only [List.range, List.range.loop, List.size_toArray, List.length_cons, List.length_nil, List.map_cons, List.map_nil, List.lookup_cons, List.lookup_nil, Nat.reduceAdd, Nat.reduceBEq, Option.getD_some, Option.getD_none, List.getElem?_toArray, List.getElem?_cons_succ, List.getElem?_cons_zero] at hfr
  subst hfr
  obtain ⟨⟨g, s, rfl, hw8, hg8⟩, hcb8⟩ := hI'
  have HW8 := Lib.hid hw8
  have HG8 := Lib.hid hg8
  have HC8 := Lib.hid hcb8
  clear hc hs hI hw8 hg8 hcb8
  have HWS0 := Lib.hid (show WS w8 g (numL c.kind) s b1 V 53 [] w8 from ⟨⟨s, by rw [List.append_nil]; exact HW8.out, Step.refl⟩, HC8.out.blk⟩)
  have HKL := Lib.hid (numL_len' _ HFIT.out.kind)
  have c0 := (HCV.out w8 HC8.out.blk).c0
  rw [hk] at c0
  go_upto_region 19 with fail
  have HWT := Lib.hid (show WS w8 g (numL c.kind) s b1 V 53 (([] : List (List UInt8)).flatten ++ (([numL c.day, numL c.til] : List (List UInt8)).take 0).flatten) w8 by simpa using HWS0.out)
  refine wp_region_chain (by kernel_rfl) [ptr g, .pointer (some ⟨b1, 5, none⟩), .int .i64 c.day, ptr g, .pointer (some ⟨b1, 6, none⟩), .int .i64 c.til, ptr g] [3, 6] (fun k W => WS w8 g (numL c.kind) s b1 V 53 (([] : List (List UInt8)).flatten ++ (([numL c.day, numL c.til] : List (List UInt8)).take k).flatten) W) (by kernel_rfl) (by kernel_rfl) (by kernel_rfl) (fun m W W' h hb => h.below hb) HWT.out (fun i hi hn m a W hc hI hd => ?_) (fun k hk a W hc hI hd => ?_) (fun a w21 hc hI hs => ?_)
  ·match i, hi, hn with
   | 0, _, _ =>
    have z4 := hc.same 4 (by kernel_rfl)
    simp only [List.getElem?_toArray, List.getElem?_cons_succ, List.getElem?_cons_zero, Option.getD_some] at z4
    refine obl_val rfl (wanted_none rfl) ?_ rfl
    go_simp
   | 1, _, _ =>
    have z1 := hc.same 1 (by kernel_rfl)
    simp only [List.getElem?_toArray, List.getElem?_cons_succ, List.getElem?_cons_zero, Option.getD_some] at z1
    refine obl_val rfl (wanted_none rfl) ?_ rfl
    go_simp
   | 2, _, _ =>
    have s1 : a.tmps[69]?.getD undef = (.pointer (some ⟨b1, 5, none⟩)) := hd 1 (by kernel_rfl)
    obtain ⟨c0, c1, c2, c3, c4, c5, c6, c7, c8, c9, c10, c11, c12, c13, c14, c15, c16, c17, c18, c19, c20, c21⟩ := HCV.out W hI.blk
    refine obl_val rfl (wanted_none rfl) ?_ rfl
    go_simp
   | 3, _, hn => exact absurd hn (by decide)
   | 4, _, _ =>
    have z1 := hc.same 1 (by kernel_rfl)
    simp only [List.getElem?_toArray, List.getElem?_cons_succ, List.getElem?_cons_zero, Option.getD_some] at z1
    refine obl_val rfl (wanted_none rfl) ?_ rfl
    go_simp
   | 5, _, _ =>
    have s4 : a.tmps[72]?.getD undef = (.pointer (some ⟨b1, 6, none⟩)) := hd 4 (by kernel_rfl)
    obtain ⟨c0, c1, c2, c3, c4, c5, c6, c7, c8, c9, c10, c11, c12, c13, c14, c15, c16, c17, c18, c19, c20, c21⟩ := HCV.out W hI.blk
    refine obl_val rfl (wanted_none rfl) ?_ rfl
    go_simp
   | 6, _, hn => exact absurd hn (by decide)
   | n + 7, h, _ => exact absurd h (by simp)
  ·match k, hk with
   | 0, _ =>
    have s0 : a.tmps[68]?.getD undef = (ptr g) := hd 0 (by kernel_rfl)
    have s2 : a.tmps[70]?.getD undef = (.int .i64 c.day) := hd 2 (by kernel_rfl)
    obtain ⟨⟨sq, hw, hst⟩, hbk⟩ := hI
    refine obl_callK rfl (wanted_none rfl) (by go_simp) (num_any c.day HFIT.out.day.1 HFIT.out.day.2 hw (by simp; have := HKL.out; omega)) ?_
    rintro e w9 ⟨s9, rfl, hw9, hs9⟩
    exact ⟨_, rfl, _, rfl, rfl, WS.call hw hst hbk (by decide) (by decide) hw9 hs9 (by simp [List.take])⟩
   | 1, _ =>
    have s3 : a.tmps[71]?.getD undef = (ptr g) := hd 3 (by kernel_rfl)
    have s5 : a.tmps[73]?.getD undef = (.int .i64 c.til) := hd 5 (by kernel_rfl)
    obtain ⟨⟨sq, hw, hst⟩, hbk⟩ := hI
    refine obl_callK rfl (wanted_none rfl) (by go_simp) (num_any c.til HFIT.out.til.1 HFIT.out.til.2 hw (by simp; have := HKL.out; have := numL_len' _ HFIT.out.day; omega)) ?_
    rintro e w9 ⟨s9, rfl, hw9, hs9⟩
    exact ⟨_, rfl, _, rfl, rfl, WS.call hw hst hbk (by decide) (by decide) hw9 hs9 (by simp [List.take])⟩
   | n + 2, h => exact absurd h (by simp)
  ·skip
   have hfr := grow_frame hc [(68, (ptr g)), (69, (.pointer (some ⟨b1, 5, none⟩))), (70, (.int .i64 c.day)), (71, (ptr g)), (72, (.pointer (some ⟨b1, 6, none⟩))), (73, (.int .i64 c.til)), (74, (ptr g))] (by kernel_rfl) (fun p hp => by
     simp only [List.mem_cons, List.not_mem_nil, or_false] at hp
     rcases hp with rfl | rfl | rfl | rfl | rfl | rfl | rfl
     ·exact hs 0 68 (by decide) (by kernel_rfl)
     ·exact hs 1 69 (by decide) (by kernel_rfl)
     ·exact hs 2 70 (by decide) (by kernel_rfl)
     ·exact hs 3 71 (by decide) (by kernel_rfl)
     ·exact hs 4 72 (by decide) (by kernel_rfl)
     ·exact hs 5 73 (by decide) (by kernel_rfl)
     ·exact hs 6 74 (by decide) (by kernel_rfl)
     )
   simp only [List.range, List.range.loop, List.size_toArray, List.length_cons, List.length_nil, List.map_cons, List.map_nil, List.lookup_cons, List.lookup_nil, Nat.reduceAdd, Nat.reduceBEq, Option.getD_some, Option.getD_none, List.getElem?_toArray, List.getElem?_cons_succ, List.getElem?_cons_zero] at hfr
   subst hfr
   have HWS1 := Lib.hid (show WS w8 g (numL c.kind) s b1 V 53 (([numL c.day, numL c.til] : List (List UInt8)).flatten) w21 by simpa using hI)
   clear hc hs hI
   have hbo : bodyL c = ([numL c.day, numL c.til] : List (List UInt8)).flatten := by rw [bodyL, if_neg (by rw [hk]; decide), if_neg (by rw [hk]; decide), if_pos hk]
   obtain ⟨sz, hwz, hsz⟩ := HWS1.out.ex
   rw [← hbo] at hwz
   have hlen : (numL c.kind ++ bodyL c).length ≤ 2000000000 := by
    rw [List.length_append, hbo]
    simp only [List.flatten_cons, List.flatten_nil, List.length_append, List.length_nil]
    have := HKL.out; have := numL_len' _ HFIT.out.day; have := numL_len' _ HFIT.out.til; omega
   have hby := bytes_any hwz hlen
   have HFB := Lib.hid (HB2.out.trans ((HC8.out.bl.trans (hsz.low HW8.out HG8.out)).mono HB2.out.size))
   clear hbo hwz hsz hlen
   go_wp2_with (go_at_call 67; (with_reducible refine hby.mono ?_); rintro e wz ⟨r, rfl, hoz, hbz⟩)
   go_ret2
   have hbf := HB1.out.trans (HFB.out.mono HB1.out.size)
   exact ⟨.inr ⟨HG.out, r, rfl, hoz.more hbf.size⟩, hbf.trans (hbz.mono hbf.size)⟩
set_option maxRecDepth 100000 in
set_option maxHeartbeats 16000000 in
theorem enc_k4 {w : World} {B : Nat} {v : Value} {c : Cm} (hv : CmV w B v c) (hB : B ≤ w.heap.size) (hl : c.doc.ls.length ≤ 100000) (hk : c.kind = 4) (hG : goodCB c = true) :
  Calls Try.prog 31 #[v] w (EncPost c w) := by
 obtain ⟨A0, m0, V, rfl, HV, HV2, HVI, HB1, HX1, HLS, HOK⟩ := cmd_pre hv hB
 clear hv
 have hgd := good_any (c := c) ⟨.slice A0 c.doc.ls.length m0, by rw [HV.out], HLS.out _ HB1.out, HOK.out⟩ (Nat.le_trans hB HB1.out.size) hl
 rw [hG] at hgd
 have HG := Lib.hid hG
 clear hG
 go_enter Try.func31, Try.ntmps31
 go_upto_region 1 with fail
 generalize World.alloc w _ = w1 at *
 generalize hb : w.heap.size = b1 at HX1 ⊢
 have HBB := Lib.hid hb
 clear hb
 have HXV := Lib.hid (loadV HX1.out HV.out)
 have hfit := good_fit HG.out
 have hbody : encL c = numL c.kind ++ bodyL c := rfl
 have HFIT := Lib.hid hfit
 have HCV := Lib.hid (show ∀ W, W.heap[b1]? = some (.cells V 53 (0, 0)) → CBox W b1 c (.slice A0 c.doc.ls.length m0) from fun W hW => CBlk.box (by unfold CBlk; rw [HV.out]; exact hW))
 clear hfit hbody
 go_upto_region 3 with (first
  | (with_reducible refine wpList_load_row rfl 53 (.tmp 1) rfl b1 rfl 53 V (0, 0) _ HXV.out Try.underlying53 rfl HVI.out ?_)
  | (go_at_call 26; (with_reducible refine hgd.mono ?_); rintro e w2 ⟨rfl, hb2⟩; have HB2 := Lib.hid hb2; clear hb2 hgd))
 have HC2 := Lib.hid (show CB w2 b1 V w2 from ⟨(HB2.out.block b1 (lt_of_blk HXV.out)).trans HXV.out, Below.refl _ _⟩)
 refine wp_region_chainP (by kernel_rfl) [none, some (.pointer (some ⟨b1, 0, none⟩)), some (.int .i64 c.kind), none, none] [0, 3, 4] (fun m x W => match m with | 0 => CB w2 b1 V W | 1 => ES w2 b1 V [] x W | _ => ES w2 b1 V (numL c.kind) x W) (by kernel_rfl) (by kernel_rfl) (by kernel_rfl) (by kernel_rfl) (fun m x W W' h hb => by match m, h with | 0, h => exact h.below hb | 1, h => exact h.below hb | n + 2, h => exact h.below hb) HC2.out (fun i hi hn m a W hc hI hd => ?_) (fun k hk a W hc hI hd => ?_) (fun a w8 hc hI hs => ?_)
 ·match i, hi, hn with
  | 0, _, hn => exact absurd hn (by decide)
  | 1, _, _ =>
   have z1 := hc.same 1 (by kernel_rfl)
   simp only [List.getElem?_toArray, List.getElem?_cons_succ, List.getElem?_cons_zero, Option.getD_some] at z1
   refine obl_val rfl (wanted_none rfl) ?_ rfl
   go_simp
  | 2, _, _ =>
   have s1 : a.tmps[9]?.getD undef = (.pointer (some ⟨b1, 0, none⟩)) := hd 1 (by kernel_rfl)
   have hbk : W.heap[b1]? = some (.cells V 53 (0, 0)) := by match m, hI with | 0, hI => exact hI.blk | 1, hI => exact hI.cb.blk | n + 2, hI => exact hI.cb.blk
   have c0 := (HCV.out W hbk).c0
   refine obl_val rfl (wanted_none rfl) ?_ rfl
   go_simp
  | 3, _, hn => exact absurd hn (by decide)
  | 4, _, hn => exact absurd hn (by decide)
  | n + 5, h, _ => exact absurd h (by simp)
 ·match k, hk with
  | 0, _ =>
   refine obl_callK rfl (wanted_none rfl) (by go_simp) (new_any W) ?_
   rintro e w9 ⟨rfl, hw9, hb9⟩
   exact ⟨_, rfl, _, rfl, trivial, ⟨_, _, rfl, hw9, hI.bl.size⟩, hI.below hb9⟩
  | 1, _ =>
   have s2 : a.tmps[10]?.getD undef = (.int .i64 c.kind) := hd 2 (by kernel_rfl)
   have hI : (fun m x W => match m with | 0 => CB w2 b1 V W | 1 => ES w2 b1 V [] x W | _ => ES w2 b1 V (numL c.kind) x W) 1 (a.tmps[8]?.getD undef) W := hI
   obtain ⟨⟨g, s, e, hw, hg⟩, hcb⟩ := hI
   refine obl_callK rfl (wanted_none rfl) (by go_simp) (num_any c.kind HFIT.out.kind.1 HFIT.out.kind.2 hw (by simp)) ?_
   rintro e w9 ⟨s9, rfl, hw9, hs9⟩
   exact ⟨_, rfl, _, rfl, trivial, ⟨_, _, rfl, hw9, hg⟩, hcb.step hw hg hs9⟩
  | 2, _ =>
   have hI : (fun m x W => match m with | 0 => CB w2 b1 V W | 1 => ES w2 b1 V [] x W | _ => ES w2 b1 V (numL c.kind) x W) 2 (a.tmps[11]?.getD undef) W := hI
   obtain ⟨⟨g, s, e, hw, hg⟩, hcb⟩ := hI
   refine obl_callV rfl (wanted_none rfl) (v := ptr g) (by go_simp) ⟨rfl, trivial, ⟨g, s, rfl, hw, hg⟩, hcb⟩
  | n + 3, h => exact absurd h (by simp)
 ·skip
  have hI' : (fun m x W => match m with | 0 => CB w2 b1 V W | 1 => ES w2 b1 V [] x W | _ => ES w2 b1 V (numL c.kind) x W) 3 (a.tmps[4]?.getD undef) w8 := hI
  have hfr := grow_frame hc [(8, a.tmps[8]?.getD undef), (9, (.pointer (some ⟨b1, 0, none⟩))), (10, (.int .i64 c.kind)), (11, a.tmps[11]?.getD undef), (4, a.tmps[4]?.getD undef)] (by kernel_rfl) (fun p hp => by
    simp only [List.mem_cons, List.not_mem_nil, or_false] at hp
    rcases hp with rfl | rfl | rfl | rfl | rfl
    ·rfl
    ·exact hs 1 9 (by decide) (by kernel_rfl)
    ·exact hs 2 10 (by decide) (by kernel_rfl)
    ·rfl
    ·rfl
    )
  generalize a.tmps[8]?.getD undef = z8 at hfr
  generalize a.tmps[11]?.getD undef = z11 at hfr
  generalize a.tmps[4]?.getD undef = z4 at hfr hI'
  simp only [List.range, List.range.loop, List.size_toArray, List.length_cons, List.length_nil, List.map_cons, List.map_nil, List.lookup_cons, List.lookup_nil, Nat.reduceAdd, Nat.reduceBEq, Option.getD_some, Option.getD_none, List.getElem?_toArray, List.getElem?_cons_succ, List.getElem?_cons_zero] at hfr
  subst hfr
  obtain ⟨⟨g, s, rfl, hw8, hg8⟩, hcb8⟩ := hI'
  have HW8 := Lib.hid hw8
  have HG8 := Lib.hid hg8
  have HC8 := Lib.hid hcb8
  clear hc hs hI hw8 hg8 hcb8
  have HWS0 := Lib.hid (show WS w8 g (numL c.kind) s b1 V 53 [] w8 from ⟨⟨s, by rw [List.append_nil]; exact HW8.out, Step.refl⟩, HC8.out.blk⟩)
  have HKL := Lib.hid (numL_len' _ HFIT.out.kind)
  have c0 := (HCV.out w8 HC8.out.blk).c0
  rw [hk] at c0
  go_upto_region 18 with fail
  have HWT := Lib.hid (show WS w8 g (numL c.kind) s b1 V 53 (([] : List (List UInt8)).flatten ++ (([textL c.cty, textL c.txt] : List (List UInt8)).take 0).flatten) w8 by simpa using HWS0.out)
  refine wp_region_chain (by kernel_rfl) [ptr g, .pointer (some ⟨b1, 1, none⟩), .string c.cty, ptr g, .pointer (some ⟨b1, 2, none⟩), .string c.txt, ptr g] [3, 6] (fun k W => WS w8 g (numL c.kind) s b1 V 53 (([] : List (List UInt8)).flatten ++ (([textL c.cty, textL c.txt] : List (List UInt8)).take k).flatten) W) (by kernel_rfl) (by kernel_rfl) (by kernel_rfl) (fun m W W' h hb => h.below hb) HWT.out (fun i hi hn m a W hc hI hd => ?_) (fun k hk a W hc hI hd => ?_) (fun a w21 hc hI hs => ?_)
  ·match i, hi, hn with
   | 0, _, _ =>
    have z4 := hc.same 4 (by kernel_rfl)
    simp only [List.getElem?_toArray, List.getElem?_cons_succ, List.getElem?_cons_zero, Option.getD_some] at z4
    refine obl_val rfl (wanted_none rfl) ?_ rfl
    go_simp
   | 1, _, _ =>
    have z1 := hc.same 1 (by kernel_rfl)
    simp only [List.getElem?_toArray, List.getElem?_cons_succ, List.getElem?_cons_zero, Option.getD_some] at z1
    refine obl_val rfl (wanted_none rfl) ?_ rfl
    go_simp
   | 2, _, _ =>
    have s1 : a.tmps[62]?.getD undef = (.pointer (some ⟨b1, 1, none⟩)) := hd 1 (by kernel_rfl)
    obtain ⟨c0, c1, c2, c3, c4, c5, c6, c7, c8, c9, c10, c11, c12, c13, c14, c15, c16, c17, c18, c19, c20, c21⟩ := HCV.out W hI.blk
    refine obl_val rfl (wanted_none rfl) ?_ rfl
    go_simp
   | 3, _, hn => exact absurd hn (by decide)
   | 4, _, _ =>
    have z1 := hc.same 1 (by kernel_rfl)
    simp only [List.getElem?_toArray, List.getElem?_cons_succ, List.getElem?_cons_zero, Option.getD_some] at z1
    refine obl_val rfl (wanted_none rfl) ?_ rfl
    go_simp
   | 5, _, _ =>
    have s4 : a.tmps[65]?.getD undef = (.pointer (some ⟨b1, 2, none⟩)) := hd 4 (by kernel_rfl)
    obtain ⟨c0, c1, c2, c3, c4, c5, c6, c7, c8, c9, c10, c11, c12, c13, c14, c15, c16, c17, c18, c19, c20, c21⟩ := HCV.out W hI.blk
    refine obl_val rfl (wanted_none rfl) ?_ rfl
    go_simp
   | 6, _, hn => exact absurd hn (by decide)
   | n + 7, h, _ => exact absurd h (by simp)
  ·match k, hk with
   | 0, _ =>
    have s0 : a.tmps[61]?.getD undef = (ptr g) := hd 0 (by kernel_rfl)
    have s2 : a.tmps[63]?.getD undef = (.string c.cty) := hd 2 (by kernel_rfl)
    obtain ⟨⟨sq, hw, hst⟩, hbk⟩ := hI
    refine obl_callK rfl (wanted_none rfl) (by go_simp) (text_any c.cty HFIT.out.cty hw (by simp; have := HKL.out; omega)) ?_
    rintro e w9 ⟨s9, rfl, hw9, hs9⟩
    exact ⟨_, rfl, _, rfl, rfl, WS.call hw hst hbk (by decide) (by decide) hw9 hs9 (by simp [List.take])⟩
   | 1, _ =>
    have s3 : a.tmps[64]?.getD undef = (ptr g) := hd 3 (by kernel_rfl)
    have s5 : a.tmps[66]?.getD undef = (.string c.txt) := hd 5 (by kernel_rfl)
    obtain ⟨⟨sq, hw, hst⟩, hbk⟩ := hI
    refine obl_callK rfl (wanted_none rfl) (by go_simp) (text_any c.txt HFIT.out.txt hw (by simp; have := HKL.out; have := textL_len _ HFIT.out.cty; omega)) ?_
    rintro e w9 ⟨s9, rfl, hw9, hs9⟩
    exact ⟨_, rfl, _, rfl, rfl, WS.call hw hst hbk (by decide) (by decide) hw9 hs9 (by simp [List.take])⟩
   | n + 2, h => exact absurd h (by simp)
  ·skip
   have hfr := grow_frame hc [(61, (ptr g)), (62, (.pointer (some ⟨b1, 1, none⟩))), (63, (.string c.cty)), (64, (ptr g)), (65, (.pointer (some ⟨b1, 2, none⟩))), (66, (.string c.txt)), (67, (ptr g))] (by kernel_rfl) (fun p hp => by
     simp only [List.mem_cons, List.not_mem_nil, or_false] at hp
     rcases hp with rfl | rfl | rfl | rfl | rfl | rfl | rfl
     ·exact hs 0 61 (by decide) (by kernel_rfl)
     ·exact hs 1 62 (by decide) (by kernel_rfl)
     ·exact hs 2 63 (by decide) (by kernel_rfl)
     ·exact hs 3 64 (by decide) (by kernel_rfl)
     ·exact hs 4 65 (by decide) (by kernel_rfl)
     ·exact hs 5 66 (by decide) (by kernel_rfl)
     ·exact hs 6 67 (by decide) (by kernel_rfl)
     )
   simp only [List.range, List.range.loop, List.size_toArray, List.length_cons, List.length_nil, List.map_cons, List.map_nil, List.lookup_cons, List.lookup_nil, Nat.reduceAdd, Nat.reduceBEq, Option.getD_some, Option.getD_none, List.getElem?_toArray, List.getElem?_cons_succ, List.getElem?_cons_zero] at hfr
   subst hfr
   have HWS1 := Lib.hid (show WS w8 g (numL c.kind) s b1 V 53 (([textL c.cty, textL c.txt] : List (List UInt8)).flatten) w21 by simpa using hI)
   clear hc hs hI
   go_upto_region 19 with fail
   have HWT := Lib.hid (show WS w8 g (numL c.kind) s b1 V 53 (([textL c.cty, textL c.txt] : List (List UInt8)).flatten ++ (([numL c.day, numL c.til] : List (List UInt8)).take 0).flatten) w21 by simpa using HWS1.out)
   refine wp_region_chain (by kernel_rfl) [ptr g, .pointer (some ⟨b1, 5, none⟩), .int .i64 c.day, ptr g, .pointer (some ⟨b1, 6, none⟩), .int .i64 c.til, ptr g] [3, 6] (fun k W => WS w8 g (numL c.kind) s b1 V 53 (([textL c.cty, textL c.txt] : List (List UInt8)).flatten ++ (([numL c.day, numL c.til] : List (List UInt8)).take k).flatten) W) (by kernel_rfl) (by kernel_rfl) (by kernel_rfl) (fun m W W' h hb => h.below hb) HWT.out (fun i hi hn m a W hc hI hd => ?_) (fun k hk a W hc hI hd => ?_) (fun a w22 hc hI hs => ?_)
   ·match i, hi, hn with
    | 0, _, _ =>
     have z4 := hc.same 4 (by kernel_rfl)
     simp only [List.getElem?_toArray, List.getElem?_cons_succ, List.getElem?_cons_zero, Option.getD_some] at z4
     refine obl_val rfl (wanted_none rfl) ?_ rfl
     go_simp
    | 1, _, _ =>
     have z1 := hc.same 1 (by kernel_rfl)
     simp only [List.getElem?_toArray, List.getElem?_cons_succ, List.getElem?_cons_zero, Option.getD_some] at z1
     refine obl_val rfl (wanted_none rfl) ?_ rfl
     go_simp
    | 2, _, _ =>
     have s1 : a.tmps[69]?.getD undef = (.pointer (some ⟨b1, 5, none⟩)) := hd 1 (by kernel_rfl)
     obtain ⟨c0, c1, c2, c3, c4, c5, c6, c7, c8, c9, c10, c11, c12, c13, c14, c15, c16, c17, c18, c19, c20, c21⟩ := HCV.out W hI.blk
     refine obl_val rfl (wanted_none rfl) ?_ rfl
     go_simp
    | 3, _, hn => exact absurd hn (by decide)
    | 4, _, _ =>
     have z1 := hc.same 1 (by kernel_rfl)
     simp only [List.getElem?_toArray, List.getElem?_cons_succ, List.getElem?_cons_zero, Option.getD_some] at z1
     refine obl_val rfl (wanted_none rfl) ?_ rfl
     go_simp
    | 5, _, _ =>
     have s4 : a.tmps[72]?.getD undef = (.pointer (some ⟨b1, 6, none⟩)) := hd 4 (by kernel_rfl)
     obtain ⟨c0, c1, c2, c3, c4, c5, c6, c7, c8, c9, c10, c11, c12, c13, c14, c15, c16, c17, c18, c19, c20, c21⟩ := HCV.out W hI.blk
     refine obl_val rfl (wanted_none rfl) ?_ rfl
     go_simp
    | 6, _, hn => exact absurd hn (by decide)
    | n + 7, h, _ => exact absurd h (by simp)
   ·match k, hk with
    | 0, _ =>
     have s0 : a.tmps[68]?.getD undef = (ptr g) := hd 0 (by kernel_rfl)
     have s2 : a.tmps[70]?.getD undef = (.int .i64 c.day) := hd 2 (by kernel_rfl)
     obtain ⟨⟨sq, hw, hst⟩, hbk⟩ := hI
     refine obl_callK rfl (wanted_none rfl) (by go_simp) (num_any c.day HFIT.out.day.1 HFIT.out.day.2 hw (by simp; have := HKL.out; have := textL_len _ HFIT.out.cty; have := textL_len _ HFIT.out.txt; omega)) ?_
     rintro e w9 ⟨s9, rfl, hw9, hs9⟩
     exact ⟨_, rfl, _, rfl, rfl, WS.call hw hst hbk (by decide) (by decide) hw9 hs9 (by simp [List.take])⟩
    | 1, _ =>
     have s3 : a.tmps[71]?.getD undef = (ptr g) := hd 3 (by kernel_rfl)
     have s5 : a.tmps[73]?.getD undef = (.int .i64 c.til) := hd 5 (by kernel_rfl)
     obtain ⟨⟨sq, hw, hst⟩, hbk⟩ := hI
     refine obl_callK rfl (wanted_none rfl) (by go_simp) (num_any c.til HFIT.out.til.1 HFIT.out.til.2 hw (by simp; have := HKL.out; have := textL_len _ HFIT.out.cty; have := textL_len _ HFIT.out.txt; have := numL_len' _ HFIT.out.day; omega)) ?_
     rintro e w9 ⟨s9, rfl, hw9, hs9⟩
     exact ⟨_, rfl, _, rfl, rfl, WS.call hw hst hbk (by decide) (by decide) hw9 hs9 (by simp [List.take])⟩
    | n + 2, h => exact absurd h (by simp)
   ·skip
    have hfr := grow_frame hc [(68, (ptr g)), (69, (.pointer (some ⟨b1, 5, none⟩))), (70, (.int .i64 c.day)), (71, (ptr g)), (72, (.pointer (some ⟨b1, 6, none⟩))), (73, (.int .i64 c.til)), (74, (ptr g))] (by kernel_rfl) (fun p hp => by
      simp only [List.mem_cons, List.not_mem_nil, or_false] at hp
      rcases hp with rfl | rfl | rfl | rfl | rfl | rfl | rfl
      ·exact hs 0 68 (by decide) (by kernel_rfl)
      ·exact hs 1 69 (by decide) (by kernel_rfl)
      ·exact hs 2 70 (by decide) (by kernel_rfl)
      ·exact hs 3 71 (by decide) (by kernel_rfl)
      ·exact hs 4 72 (by decide) (by kernel_rfl)
      ·exact hs 5 73 (by decide) (by kernel_rfl)
      ·exact hs 6 74 (by decide) (by kernel_rfl)
      )
    simp only [List.range, List.range.loop, List.size_toArray, List.length_cons, List.length_nil, List.map_cons, List.map_nil, List.lookup_cons, List.lookup_nil, Nat.reduceAdd, Nat.reduceBEq, Option.getD_some, Option.getD_none, List.getElem?_toArray, List.getElem?_cons_succ, List.getElem?_cons_zero] at hfr
    subst hfr
    have HWS2 := Lib.hid (show WS w8 g (numL c.kind) s b1 V 53 (([textL c.cty, textL c.txt, numL c.day, numL c.til] : List (List UInt8)).flatten) w22 by simpa using hI)
    clear hc hs hI
    have hbo : bodyL c = ([textL c.cty, textL c.txt, numL c.day, numL c.til] : List (List UInt8)).flatten := by rw [bodyL, if_neg (by rw [hk]; decide), if_neg (by rw [hk]; decide), if_neg (by rw [hk]; decide), if_pos hk]
    obtain ⟨sz, hwz, hsz⟩ := HWS2.out.ex
    rw [← hbo] at hwz
    have hlen : (numL c.kind ++ bodyL c).length ≤ 2000000000 := by
     rw [List.length_append, hbo]
     simp only [List.flatten_cons, List.flatten_nil, List.length_append, List.length_nil]
     have := HKL.out; have := textL_len _ HFIT.out.cty; have := textL_len _ HFIT.out.txt; have := numL_len' _ HFIT.out.day; have := numL_len' _ HFIT.out.til; omega
    have hby := bytes_any hwz hlen
    have HFB := Lib.hid (HB2.out.trans ((HC8.out.bl.trans (hsz.low HW8.out HG8.out)).mono HB2.out.size))
    clear hbo hwz hsz hlen
    go_wp2_with (go_at_call 67; (with_reducible refine hby.mono ?_); rintro e wz ⟨r, rfl, hoz, hbz⟩)
    go_ret2
    have hbf := HB1.out.trans (HFB.out.mono HB1.out.size)
    exact ⟨.inr ⟨HG.out, r, rfl, hoz.more hbf.size⟩, hbf.trans (hbz.mono hbf.size)⟩
set_option maxRecDepth 100000 in
set_option maxHeartbeats 16000000 in
theorem enc_k5 {w : World} {B : Nat} {v : Value} {c : Cm} (hv : CmV w B v c) (hB : B ≤ w.heap.size) (hl : c.doc.ls.length ≤ 100000) (hk : c.kind = 5) (hG : goodCB c = true) :
  Calls Try.prog 31 #[v] w (EncPost c w) := by
 obtain ⟨A0, m0, V, rfl, HV, HV2, HVI, HB1, HX1, HLS, HOK⟩ := cmd_pre hv hB
 clear hv
 have hgd := good_any (c := c) ⟨.slice A0 c.doc.ls.length m0, by rw [HV.out], HLS.out _ HB1.out, HOK.out⟩ (Nat.le_trans hB HB1.out.size) hl
 rw [hG] at hgd
 have HG := Lib.hid hG
 clear hG
 go_enter Try.func31, Try.ntmps31
 go_upto_region 1 with fail
 generalize World.alloc w _ = w1 at *
 generalize hb : w.heap.size = b1 at HX1 ⊢
 have HBB := Lib.hid hb
 clear hb
 have HXV := Lib.hid (loadV HX1.out HV.out)
 have hfit := good_fit HG.out
 have hbody : encL c = numL c.kind ++ bodyL c := rfl
 have HFIT := Lib.hid hfit
 have HCV := Lib.hid (show ∀ W, W.heap[b1]? = some (.cells V 53 (0, 0)) → CBox W b1 c (.slice A0 c.doc.ls.length m0) from fun W hW => CBlk.box (by unfold CBlk; rw [HV.out]; exact hW))
 clear hfit hbody
 go_upto_region 3 with (first
  | (with_reducible refine wpList_load_row rfl 53 (.tmp 1) rfl b1 rfl 53 V (0, 0) _ HXV.out Try.underlying53 rfl HVI.out ?_)
  | (go_at_call 26; (with_reducible refine hgd.mono ?_); rintro e w2 ⟨rfl, hb2⟩; have HB2 := Lib.hid hb2; clear hb2 hgd))
 have HC2 := Lib.hid (show CB w2 b1 V w2 from ⟨(HB2.out.block b1 (lt_of_blk HXV.out)).trans HXV.out, Below.refl _ _⟩)
 refine wp_region_chainP (by kernel_rfl) [none, some (.pointer (some ⟨b1, 0, none⟩)), some (.int .i64 c.kind), none, none] [0, 3, 4] (fun m x W => match m with | 0 => CB w2 b1 V W | 1 => ES w2 b1 V [] x W | _ => ES w2 b1 V (numL c.kind) x W) (by kernel_rfl) (by kernel_rfl) (by kernel_rfl) (by kernel_rfl) (fun m x W W' h hb => by match m, h with | 0, h => exact h.below hb | 1, h => exact h.below hb | n + 2, h => exact h.below hb) HC2.out (fun i hi hn m a W hc hI hd => ?_) (fun k hk a W hc hI hd => ?_) (fun a w8 hc hI hs => ?_)
 ·match i, hi, hn with
  | 0, _, hn => exact absurd hn (by decide)
  | 1, _, _ =>
   have z1 := hc.same 1 (by kernel_rfl)
   simp only [List.getElem?_toArray, List.getElem?_cons_succ, List.getElem?_cons_zero, Option.getD_some] at z1
   refine obl_val rfl (wanted_none rfl) ?_ rfl
   go_simp
  | 2, _, _ =>
   have s1 : a.tmps[9]?.getD undef = (.pointer (some ⟨b1, 0, none⟩)) := hd 1 (by kernel_rfl)
   have hbk : W.heap[b1]? = some (.cells V 53 (0, 0)) := by match m, hI with | 0, hI => exact hI.blk | 1, hI => exact hI.cb.blk | n + 2, hI => exact hI.cb.blk
   have c0 := (HCV.out W hbk).c0
   refine obl_val rfl (wanted_none rfl) ?_ rfl
   go_simp
  | 3, _, hn => exact absurd hn (by decide)
  | 4, _, hn => exact absurd hn (by decide)
  | n + 5, h, _ => exact absurd h (by simp)
 ·match k, hk with
  | 0, _ =>
   refine obl_callK rfl (wanted_none rfl) (by go_simp) (new_any W) ?_
   rintro e w9 ⟨rfl, hw9, hb9⟩
   exact ⟨_, rfl, _, rfl, trivial, ⟨_, _, rfl, hw9, hI.bl.size⟩, hI.below hb9⟩
  | 1, _ =>
   have s2 : a.tmps[10]?.getD undef = (.int .i64 c.kind) := hd 2 (by kernel_rfl)
   have hI : (fun m x W => match m with | 0 => CB w2 b1 V W | 1 => ES w2 b1 V [] x W | _ => ES w2 b1 V (numL c.kind) x W) 1 (a.tmps[8]?.getD undef) W := hI
   obtain ⟨⟨g, s, e, hw, hg⟩, hcb⟩ := hI
   refine obl_callK rfl (wanted_none rfl) (by go_simp) (num_any c.kind HFIT.out.kind.1 HFIT.out.kind.2 hw (by simp)) ?_
   rintro e w9 ⟨s9, rfl, hw9, hs9⟩
   exact ⟨_, rfl, _, rfl, trivial, ⟨_, _, rfl, hw9, hg⟩, hcb.step hw hg hs9⟩
  | 2, _ =>
   have hI : (fun m x W => match m with | 0 => CB w2 b1 V W | 1 => ES w2 b1 V [] x W | _ => ES w2 b1 V (numL c.kind) x W) 2 (a.tmps[11]?.getD undef) W := hI
   obtain ⟨⟨g, s, e, hw, hg⟩, hcb⟩ := hI
   refine obl_callV rfl (wanted_none rfl) (v := ptr g) (by go_simp) ⟨rfl, trivial, ⟨g, s, rfl, hw, hg⟩, hcb⟩
  | n + 3, h => exact absurd h (by simp)
 ·skip
  have hI' : (fun m x W => match m with | 0 => CB w2 b1 V W | 1 => ES w2 b1 V [] x W | _ => ES w2 b1 V (numL c.kind) x W) 3 (a.tmps[4]?.getD undef) w8 := hI
  have hfr := grow_frame hc [(8, a.tmps[8]?.getD undef), (9, (.pointer (some ⟨b1, 0, none⟩))), (10, (.int .i64 c.kind)), (11, a.tmps[11]?.getD undef), (4, a.tmps[4]?.getD undef)] (by kernel_rfl) (fun p hp => by
    simp only [List.mem_cons, List.not_mem_nil, or_false] at hp
    rcases hp with rfl | rfl | rfl | rfl | rfl
    ·rfl
    ·exact hs 1 9 (by decide) (by kernel_rfl)
    ·exact hs 2 10 (by decide) (by kernel_rfl)
    ·rfl
    ·rfl
    )
  generalize a.tmps[8]?.getD undef = z8 at hfr
  generalize a.tmps[11]?.getD undef = z11 at hfr
  generalize a.tmps[4]?.getD undef = z4 at hfr hI'
  simp only [List.range, List.range.loop, List.size_toArray, List.length_cons, List.length_nil, List.map_cons, List.map_nil, List.lookup_cons, List.lookup_nil, Nat.reduceAdd, Nat.reduceBEq, Option.getD_some, Option.getD_none, List.getElem?_toArray, List.getElem?_cons_succ, List.getElem?_cons_zero] at hfr
  subst hfr
  obtain ⟨⟨g, s, rfl, hw8, hg8⟩, hcb8⟩ := hI'
  have HW8 := Lib.hid hw8
  have HG8 := Lib.hid hg8
  have HC8 := Lib.hid hcb8
  clear hc hs hI hw8 hg8 hcb8
  have HWS0 := Lib.hid (show WS w8 g (numL c.kind) s b1 V 53 [] w8 from ⟨⟨s, by rw [List.append_nil]; exact HW8.out, Step.refl⟩, HC8.out.blk⟩)
  have HKL := Lib.hid (numL_len' _ HFIT.out.kind)
  have c0 := (HCV.out w8 HC8.out.blk).c0
  rw [hk] at c0
  go_upto_region 20 with fail
  have HWT := Lib.hid (show WS w8 g (numL c.kind) s b1 V 53 (([] : List (List UInt8)).flatten ++ (([textL c.txt, numL c.py, numL c.px, numL c.nm, numL c.dn] : List (List UInt8)).take 0).flatten) w8 by simpa using HWS0.out)
  refine wp_region_chain (by kernel_rfl) [ptr g, .pointer (some ⟨b1, 2, none⟩), .string c.txt, ptr g, .pointer (some ⟨b1, 10, none⟩), .pointer (some ⟨b1, 11, none⟩), .int .i64 c.py, ptr g, .pointer (some ⟨b1, 10, none⟩), .pointer (some ⟨b1, 12, none⟩), .int .i64 c.px, ptr g, .pointer (some ⟨b1, 7, none⟩), .int .i64 c.nm, ptr g, .pointer (some ⟨b1, 8, none⟩), .int .i64 c.dn, ptr g] [3, 7, 11, 14, 17] (fun k W => WS w8 g (numL c.kind) s b1 V 53 (([] : List (List UInt8)).flatten ++ (([textL c.txt, numL c.py, numL c.px, numL c.nm, numL c.dn] : List (List UInt8)).take k).flatten) W) (by kernel_rfl) (by kernel_rfl) (by kernel_rfl) (fun m W W' h hb => h.below hb) HWT.out (fun i hi hn m a W hc hI hd => ?_) (fun k hk a W hc hI hd => ?_) (fun a w21 hc hI hs => ?_)
  ·match i, hi, hn with
   | 0, _, _ =>
    have z4 := hc.same 4 (by kernel_rfl)
    simp only [List.getElem?_toArray, List.getElem?_cons_succ, List.getElem?_cons_zero, Option.getD_some] at z4
    refine obl_val rfl (wanted_none rfl) ?_ rfl
    go_simp
   | 1, _, _ =>
    have z1 := hc.same 1 (by kernel_rfl)
    simp only [List.getElem?_toArray, List.getElem?_cons_succ, List.getElem?_cons_zero, Option.getD_some] at z1
    refine obl_val rfl (wanted_none rfl) ?_ rfl
    go_simp
   | 2, _, _ =>
    have s1 : a.tmps[76]?.getD undef = (.pointer (some ⟨b1, 2, none⟩)) := hd 1 (by kernel_rfl)
    obtain ⟨c0, c1, c2, c3, c4, c5, c6, c7, c8, c9, c10, c11, c12, c13, c14, c15, c16, c17, c18, c19, c20, c21⟩ := HCV.out W hI.blk
    refine obl_val rfl (wanted_none rfl) ?_ rfl
    go_simp
   | 3, _, hn => exact absurd hn (by decide)
   | 4, _, _ =>
    have z1 := hc.same 1 (by kernel_rfl)
    simp only [List.getElem?_toArray, List.getElem?_cons_succ, List.getElem?_cons_zero, Option.getD_some] at z1
    refine obl_val rfl (wanted_none rfl) ?_ rfl
    go_simp
   | 5, _, _ =>
    have s4 : a.tmps[79]?.getD undef = (.pointer (some ⟨b1, 10, none⟩)) := hd 4 (by kernel_rfl)
    refine obl_val rfl (wanted_none rfl) ?_ rfl
    go_simp
   | 6, _, _ =>
    have s5 : a.tmps[80]?.getD undef = (.pointer (some ⟨b1, 11, none⟩)) := hd 5 (by kernel_rfl)
    obtain ⟨c0, c1, c2, c3, c4, c5, c6, c7, c8, c9, c10, c11, c12, c13, c14, c15, c16, c17, c18, c19, c20, c21⟩ := HCV.out W hI.blk
    refine obl_val rfl (wanted_none rfl) ?_ rfl
    go_simp
   | 7, _, hn => exact absurd hn (by decide)
   | 8, _, _ =>
    have z1 := hc.same 1 (by kernel_rfl)
    simp only [List.getElem?_toArray, List.getElem?_cons_succ, List.getElem?_cons_zero, Option.getD_some] at z1
    refine obl_val rfl (wanted_none rfl) ?_ rfl
    go_simp
   | 9, _, _ =>
    have s8 : a.tmps[83]?.getD undef = (.pointer (some ⟨b1, 10, none⟩)) := hd 8 (by kernel_rfl)
    refine obl_val rfl (wanted_none rfl) ?_ rfl
    go_simp
   | 10, _, _ =>
    have s9 : a.tmps[84]?.getD undef = (.pointer (some ⟨b1, 12, none⟩)) := hd 9 (by kernel_rfl)
    obtain ⟨c0, c1, c2, c3, c4, c5, c6, c7, c8, c9, c10, c11, c12, c13, c14, c15, c16, c17, c18, c19, c20, c21⟩ := HCV.out W hI.blk
    refine obl_val rfl (wanted_none rfl) ?_ rfl
    go_simp
   | 11, _, hn => exact absurd hn (by decide)
   | 12, _, _ =>
    have z1 := hc.same 1 (by kernel_rfl)
    simp only [List.getElem?_toArray, List.getElem?_cons_succ, List.getElem?_cons_zero, Option.getD_some] at z1
    refine obl_val rfl (wanted_none rfl) ?_ rfl
    go_simp
   | 13, _, _ =>
    have s12 : a.tmps[87]?.getD undef = (.pointer (some ⟨b1, 7, none⟩)) := hd 12 (by kernel_rfl)
    obtain ⟨c0, c1, c2, c3, c4, c5, c6, c7, c8, c9, c10, c11, c12, c13, c14, c15, c16, c17, c18, c19, c20, c21⟩ := HCV.out W hI.blk
    refine obl_val rfl (wanted_none rfl) ?_ rfl
    go_simp
   | 14, _, hn => exact absurd hn (by decide)
   | 15, _, _ =>
    have z1 := hc.same 1 (by kernel_rfl)
    simp only [List.getElem?_toArray, List.getElem?_cons_succ, List.getElem?_cons_zero, Option.getD_some] at z1
    refine obl_val rfl (wanted_none rfl) ?_ rfl
    go_simp
   | 16, _, _ =>
    have s15 : a.tmps[90]?.getD undef = (.pointer (some ⟨b1, 8, none⟩)) := hd 15 (by kernel_rfl)
    obtain ⟨c0, c1, c2, c3, c4, c5, c6, c7, c8, c9, c10, c11, c12, c13, c14, c15, c16, c17, c18, c19, c20, c21⟩ := HCV.out W hI.blk
    refine obl_val rfl (wanted_none rfl) ?_ rfl
    go_simp
   | 17, _, hn => exact absurd hn (by decide)
   | n + 18, h, _ => exact absurd h (by simp)
  ·match k, hk with
   | 0, _ =>
    have s0 : a.tmps[75]?.getD undef = (ptr g) := hd 0 (by kernel_rfl)
    have s2 : a.tmps[77]?.getD undef = (.string c.txt) := hd 2 (by kernel_rfl)
    obtain ⟨⟨sq, hw, hst⟩, hbk⟩ := hI
    refine obl_callK rfl (wanted_none rfl) (by go_simp) (text_any c.txt HFIT.out.txt hw (by simp; have := HKL.out; omega)) ?_
    rintro e w9 ⟨s9, rfl, hw9, hs9⟩
    exact ⟨_, rfl, _, rfl, rfl, WS.call hw hst hbk (by decide) (by decide) hw9 hs9 (by simp [List.take])⟩
   | 1, _ =>
    have s3 : a.tmps[78]?.getD undef = (ptr g) := hd 3 (by kernel_rfl)
    have s6 : a.tmps[81]?.getD undef = (.int .i64 c.py) := hd 6 (by kernel_rfl)
    obtain ⟨⟨sq, hw, hst⟩, hbk⟩ := hI
    refine obl_callK rfl (wanted_none rfl) (by go_simp) (num_any c.py HFIT.out.py.1 HFIT.out.py.2 hw (by simp; have := HKL.out; have := textL_len _ HFIT.out.txt; omega)) ?_
    rintro e w9 ⟨s9, rfl, hw9, hs9⟩
    exact ⟨_, rfl, _, rfl, rfl, WS.call hw hst hbk (by decide) (by decide) hw9 hs9 (by simp [List.take])⟩
   | 2, _ =>
    have s7 : a.tmps[82]?.getD undef = (ptr g) := hd 7 (by kernel_rfl)
    have s10 : a.tmps[85]?.getD undef = (.int .i64 c.px) := hd 10 (by kernel_rfl)
    obtain ⟨⟨sq, hw, hst⟩, hbk⟩ := hI
    refine obl_callK rfl (wanted_none rfl) (by go_simp) (num_any c.px HFIT.out.px.1 HFIT.out.px.2 hw (by simp; have := HKL.out; have := textL_len _ HFIT.out.txt; have := numL_len' _ HFIT.out.py; omega)) ?_
    rintro e w9 ⟨s9, rfl, hw9, hs9⟩
    exact ⟨_, rfl, _, rfl, rfl, WS.call hw hst hbk (by decide) (by decide) hw9 hs9 (by simp [List.take])⟩
   | 3, _ =>
    have s11 : a.tmps[86]?.getD undef = (ptr g) := hd 11 (by kernel_rfl)
    have s13 : a.tmps[88]?.getD undef = (.int .i64 c.nm) := hd 13 (by kernel_rfl)
    obtain ⟨⟨sq, hw, hst⟩, hbk⟩ := hI
    refine obl_callK rfl (wanted_none rfl) (by go_simp) (num_any c.nm HFIT.out.nm.1 HFIT.out.nm.2 hw (by simp; have := HKL.out; have := textL_len _ HFIT.out.txt; have := numL_len' _ HFIT.out.py; have := numL_len' _ HFIT.out.px; omega)) ?_
    rintro e w9 ⟨s9, rfl, hw9, hs9⟩
    exact ⟨_, rfl, _, rfl, rfl, WS.call hw hst hbk (by decide) (by decide) hw9 hs9 (by simp [List.take])⟩
   | 4, _ =>
    have s14 : a.tmps[89]?.getD undef = (ptr g) := hd 14 (by kernel_rfl)
    have s16 : a.tmps[91]?.getD undef = (.int .i64 c.dn) := hd 16 (by kernel_rfl)
    obtain ⟨⟨sq, hw, hst⟩, hbk⟩ := hI
    refine obl_callK rfl (wanted_none rfl) (by go_simp) (num_any c.dn HFIT.out.dn.1 HFIT.out.dn.2 hw (by simp; have := HKL.out; have := textL_len _ HFIT.out.txt; have := numL_len' _ HFIT.out.py; have := numL_len' _ HFIT.out.px; have := numL_len' _ HFIT.out.nm; omega)) ?_
    rintro e w9 ⟨s9, rfl, hw9, hs9⟩
    exact ⟨_, rfl, _, rfl, rfl, WS.call hw hst hbk (by decide) (by decide) hw9 hs9 (by simp [List.take])⟩
   | n + 5, h => exact absurd h (by simp)
  ·skip
   have hfr := grow_frame hc [(75, (ptr g)), (76, (.pointer (some ⟨b1, 2, none⟩))), (77, (.string c.txt)), (78, (ptr g)), (79, (.pointer (some ⟨b1, 10, none⟩))), (80, (.pointer (some ⟨b1, 11, none⟩))), (81, (.int .i64 c.py)), (82, (ptr g)), (83, (.pointer (some ⟨b1, 10, none⟩))), (84, (.pointer (some ⟨b1, 12, none⟩))), (85, (.int .i64 c.px)), (86, (ptr g)), (87, (.pointer (some ⟨b1, 7, none⟩))), (88, (.int .i64 c.nm)), (89, (ptr g)), (90, (.pointer (some ⟨b1, 8, none⟩))), (91, (.int .i64 c.dn)), (92, (ptr g))] (by kernel_rfl) (fun p hp => by
     simp only [List.mem_cons, List.not_mem_nil, or_false] at hp
     rcases hp with rfl | rfl | rfl | rfl | rfl | rfl | rfl | rfl | rfl | rfl | rfl | rfl | rfl | rfl | rfl | rfl | rfl | rfl
     ·exact hs 0 75 (by decide) (by kernel_rfl)
     ·exact hs 1 76 (by decide) (by kernel_rfl)
     ·exact hs 2 77 (by decide) (by kernel_rfl)
     ·exact hs 3 78 (by decide) (by kernel_rfl)
     ·exact hs 4 79 (by decide) (by kernel_rfl)
     ·exact hs 5 80 (by decide) (by kernel_rfl)
     ·exact hs 6 81 (by decide) (by kernel_rfl)
     ·exact hs 7 82 (by decide) (by kernel_rfl)
     ·exact hs 8 83 (by decide) (by kernel_rfl)
     ·exact hs 9 84 (by decide) (by kernel_rfl)
     ·exact hs 10 85 (by decide) (by kernel_rfl)
     ·exact hs 11 86 (by decide) (by kernel_rfl)
     ·exact hs 12 87 (by decide) (by kernel_rfl)
     ·exact hs 13 88 (by decide) (by kernel_rfl)
     ·exact hs 14 89 (by decide) (by kernel_rfl)
     ·exact hs 15 90 (by decide) (by kernel_rfl)
     ·exact hs 16 91 (by decide) (by kernel_rfl)
     ·exact hs 17 92 (by decide) (by kernel_rfl)
     )
   simp only [List.range, List.range.loop, List.size_toArray, List.length_cons, List.length_nil, List.map_cons, List.map_nil, List.lookup_cons, List.lookup_nil, Nat.reduceAdd, Nat.reduceBEq, Option.getD_some, Option.getD_none, List.getElem?_toArray, List.getElem?_cons_succ, List.getElem?_cons_zero] at hfr
   subst hfr
   have HWS1 := Lib.hid (show WS w8 g (numL c.kind) s b1 V 53 (([textL c.txt, numL c.py, numL c.px, numL c.nm, numL c.dn] : List (List UInt8)).flatten) w21 by simpa using hI)
   clear hc hs hI
   have hbo : bodyL c = ([textL c.txt, numL c.py, numL c.px, numL c.nm, numL c.dn] : List (List UInt8)).flatten := by rw [bodyL, if_neg (by rw [hk]; decide), if_neg (by rw [hk]; decide), if_neg (by rw [hk]; decide), if_neg (by rw [hk]; decide), if_pos hk]
   obtain ⟨sz, hwz, hsz⟩ := HWS1.out.ex
   rw [← hbo] at hwz
   have hlen : (numL c.kind ++ bodyL c).length ≤ 2000000000 := by
    rw [List.length_append, hbo]
    simp only [List.flatten_cons, List.flatten_nil, List.length_append, List.length_nil]
    have := HKL.out; have := textL_len _ HFIT.out.txt; have := numL_len' _ HFIT.out.py; have := numL_len' _ HFIT.out.px; have := numL_len' _ HFIT.out.nm; have := numL_len' _ HFIT.out.dn; omega
   have hby := bytes_any hwz hlen
   have HFB := Lib.hid (HB2.out.trans ((HC8.out.bl.trans (hsz.low HW8.out HG8.out)).mono HB2.out.size))
   clear hbo hwz hsz hlen
   go_wp2_with (go_at_call 67; (with_reducible refine hby.mono ?_); rintro e wz ⟨r, rfl, hoz, hbz⟩)
   go_ret2
   have hbf := HB1.out.trans (HFB.out.mono HB1.out.size)
   exact ⟨.inr ⟨HG.out, r, rfl, hoz.more hbf.size⟩, hbf.trans (hbz.mono hbf.size)⟩
set_option maxRecDepth 100000 in
set_option maxHeartbeats 16000000 in
theorem enc_k6 {w : World} {B : Nat} {v : Value} {c : Cm} (hv : CmV w B v c) (hB : B ≤ w.heap.size) (hl : c.doc.ls.length ≤ 100000) (hk : c.kind = 6) (hG : goodCB c = true) :
  Calls Try.prog 31 #[v] w (EncPost c w) := by
 obtain ⟨A0, m0, V, rfl, HV, HV2, HVI, HB1, HX1, HLS, HOK⟩ := cmd_pre hv hB
 clear hv
 have hgd := good_any (c := c) ⟨.slice A0 c.doc.ls.length m0, by rw [HV.out], HLS.out _ HB1.out, HOK.out⟩ (Nat.le_trans hB HB1.out.size) hl
 rw [hG] at hgd
 have HG := Lib.hid hG
 clear hG
 go_enter Try.func31, Try.ntmps31
 go_upto_region 1 with fail
 generalize World.alloc w _ = w1 at *
 generalize hb : w.heap.size = b1 at HX1 ⊢
 have HBB := Lib.hid hb
 clear hb
 have HXV := Lib.hid (loadV HX1.out HV.out)
 have hfit := good_fit HG.out
 have hbody : encL c = numL c.kind ++ bodyL c := rfl
 have HFIT := Lib.hid hfit
 have HCV := Lib.hid (show ∀ W, W.heap[b1]? = some (.cells V 53 (0, 0)) → CBox W b1 c (.slice A0 c.doc.ls.length m0) from fun W hW => CBlk.box (by unfold CBlk; rw [HV.out]; exact hW))
 clear hfit hbody
 go_upto_region 3 with (first
  | (with_reducible refine wpList_load_row rfl 53 (.tmp 1) rfl b1 rfl 53 V (0, 0) _ HXV.out Try.underlying53 rfl HVI.out ?_)
  | (go_at_call 26; (with_reducible refine hgd.mono ?_); rintro e w2 ⟨rfl, hb2⟩; have HB2 := Lib.hid hb2; clear hb2 hgd))
 have HC2 := Lib.hid (show CB w2 b1 V w2 from ⟨(HB2.out.block b1 (lt_of_blk HXV.out)).trans HXV.out, Below.refl _ _⟩)
 refine wp_region_chainP (by kernel_rfl) [none, some (.pointer (some ⟨b1, 0, none⟩)), some (.int .i64 c.kind), none, none] [0, 3, 4] (fun m x W => match m with | 0 => CB w2 b1 V W | 1 => ES w2 b1 V [] x W | _ => ES w2 b1 V (numL c.kind) x W) (by kernel_rfl) (by kernel_rfl) (by kernel_rfl) (by kernel_rfl) (fun m x W W' h hb => by match m, h with | 0, h => exact h.below hb | 1, h => exact h.below hb | n + 2, h => exact h.below hb) HC2.out (fun i hi hn m a W hc hI hd => ?_) (fun k hk a W hc hI hd => ?_) (fun a w8 hc hI hs => ?_)
 ·match i, hi, hn with
  | 0, _, hn => exact absurd hn (by decide)
  | 1, _, _ =>
   have z1 := hc.same 1 (by kernel_rfl)
   simp only [List.getElem?_toArray, List.getElem?_cons_succ, List.getElem?_cons_zero, Option.getD_some] at z1
   refine obl_val rfl (wanted_none rfl) ?_ rfl
   go_simp
  | 2, _, _ =>
   have s1 : a.tmps[9]?.getD undef = (.pointer (some ⟨b1, 0, none⟩)) := hd 1 (by kernel_rfl)
   have hbk : W.heap[b1]? = some (.cells V 53 (0, 0)) := by match m, hI with | 0, hI => exact hI.blk | 1, hI => exact hI.cb.blk | n + 2, hI => exact hI.cb.blk
   have c0 := (HCV.out W hbk).c0
   refine obl_val rfl (wanted_none rfl) ?_ rfl
   go_simp
  | 3, _, hn => exact absurd hn (by decide)
  | 4, _, hn => exact absurd hn (by decide)
  | n + 5, h, _ => exact absurd h (by simp)
 ·match k, hk with
  | 0, _ =>
   refine obl_callK rfl (wanted_none rfl) (by go_simp) (new_any W) ?_
   rintro e w9 ⟨rfl, hw9, hb9⟩
   exact ⟨_, rfl, _, rfl, trivial, ⟨_, _, rfl, hw9, hI.bl.size⟩, hI.below hb9⟩
  | 1, _ =>
   have s2 : a.tmps[10]?.getD undef = (.int .i64 c.kind) := hd 2 (by kernel_rfl)
   have hI : (fun m x W => match m with | 0 => CB w2 b1 V W | 1 => ES w2 b1 V [] x W | _ => ES w2 b1 V (numL c.kind) x W) 1 (a.tmps[8]?.getD undef) W := hI
   obtain ⟨⟨g, s, e, hw, hg⟩, hcb⟩ := hI
   refine obl_callK rfl (wanted_none rfl) (by go_simp) (num_any c.kind HFIT.out.kind.1 HFIT.out.kind.2 hw (by simp)) ?_
   rintro e w9 ⟨s9, rfl, hw9, hs9⟩
   exact ⟨_, rfl, _, rfl, trivial, ⟨_, _, rfl, hw9, hg⟩, hcb.step hw hg hs9⟩
  | 2, _ =>
   have hI : (fun m x W => match m with | 0 => CB w2 b1 V W | 1 => ES w2 b1 V [] x W | _ => ES w2 b1 V (numL c.kind) x W) 2 (a.tmps[11]?.getD undef) W := hI
   obtain ⟨⟨g, s, e, hw, hg⟩, hcb⟩ := hI
   refine obl_callV rfl (wanted_none rfl) (v := ptr g) (by go_simp) ⟨rfl, trivial, ⟨g, s, rfl, hw, hg⟩, hcb⟩
  | n + 3, h => exact absurd h (by simp)
 ·skip
  have hI' : (fun m x W => match m with | 0 => CB w2 b1 V W | 1 => ES w2 b1 V [] x W | _ => ES w2 b1 V (numL c.kind) x W) 3 (a.tmps[4]?.getD undef) w8 := hI
  have hfr := grow_frame hc [(8, a.tmps[8]?.getD undef), (9, (.pointer (some ⟨b1, 0, none⟩))), (10, (.int .i64 c.kind)), (11, a.tmps[11]?.getD undef), (4, a.tmps[4]?.getD undef)] (by kernel_rfl) (fun p hp => by
    simp only [List.mem_cons, List.not_mem_nil, or_false] at hp
    rcases hp with rfl | rfl | rfl | rfl | rfl
    ·rfl
    ·exact hs 1 9 (by decide) (by kernel_rfl)
    ·exact hs 2 10 (by decide) (by kernel_rfl)
    ·rfl
    ·rfl
    )
  generalize a.tmps[8]?.getD undef = z8 at hfr
  generalize a.tmps[11]?.getD undef = z11 at hfr
  generalize a.tmps[4]?.getD undef = z4 at hfr hI'
  simp only [List.range, List.range.loop, List.size_toArray, List.length_cons, List.length_nil, List.map_cons, List.map_nil, List.lookup_cons, List.lookup_nil, Nat.reduceAdd, Nat.reduceBEq, Option.getD_some, Option.getD_none, List.getElem?_toArray, List.getElem?_cons_succ, List.getElem?_cons_zero] at hfr
  subst hfr
  obtain ⟨⟨g, s, rfl, hw8, hg8⟩, hcb8⟩ := hI'
  have HW8 := Lib.hid hw8
  have HG8 := Lib.hid hg8
  have HC8 := Lib.hid hcb8
  clear hc hs hI hw8 hg8 hcb8
  have HWS0 := Lib.hid (show WS w8 g (numL c.kind) s b1 V 53 [] w8 from ⟨⟨s, by rw [List.append_nil]; exact HW8.out, Step.refl⟩, HC8.out.blk⟩)
  have HKL := Lib.hid (numL_len' _ HFIT.out.kind)
  have c0 := (HCV.out w8 HC8.out.blk).c0
  rw [hk] at c0
  obtain ⟨_, c1, c2, c3, c4, c5, c6, c7, c8, c9, c10, c11, c12, c13, c14, c15, c16, c17, c18, c19, c20, c21⟩ := HCV.out w8 HWS0.out.blk
  obtain ⟨sx, hwx, hsx⟩ := HWS0.out.ex
  have hcl := text_any c.txt HFIT.out.txt hwx (by simp; have := HKL.out; omega)
  go_upto_region 27 with (go_at_call 65; (with_reducible refine hcl.mono ?_); rintro e w21 ⟨s9, rfl, hw9, hs9⟩)
  have HWS1 := Lib.hid (WS.call hwx hsx HWS0.out.blk (by decide) (by decide) hw9 hs9 (l' := ([textL c.txt] : List (List UInt8)).flatten) (by simp))
  clear hcl hwx hsx hw9 hs9 c1 c2 c3 c4 c5 c6 c7 c8 c9 c10 c11 c12 c13 c14 c15 c16 c17 c18 c19 c20 c21
  have hbo : bodyL c = ([textL c.txt] : List (List UInt8)).flatten := by rw [bodyL, if_neg (by rw [hk]; decide), if_neg (by rw [hk]; decide), if_neg (by rw [hk]; decide), if_neg (by rw [hk]; decide), if_neg (by rw [hk]; decide), if_pos hk]
  obtain ⟨sz, hwz, hsz⟩ := HWS1.out.ex
  rw [← hbo] at hwz
  have hlen : (numL c.kind ++ bodyL c).length ≤ 2000000000 := by
   rw [List.length_append, hbo]
   simp only [List.flatten_cons, List.flatten_nil, List.length_append, List.length_nil]
   have := HKL.out; have := textL_len _ HFIT.out.txt; omega
  have hby := bytes_any hwz hlen
  have HFB := Lib.hid (HB2.out.trans ((HC8.out.bl.trans (hsz.low HW8.out HG8.out)).mono HB2.out.size))
  clear hbo hwz hsz hlen
  go_wp2_with (go_at_call 67; (with_reducible refine hby.mono ?_); rintro e wz ⟨r, rfl, hoz, hbz⟩)
  go_ret2
  have hbf := HB1.out.trans (HFB.out.mono HB1.out.size)
  exact ⟨.inr ⟨HG.out, r, rfl, hoz.more hbf.size⟩, hbf.trans (hbz.mono hbf.size)⟩
set_option maxRecDepth 100000 in
set_option maxHeartbeats 16000000 in
theorem enc_k7 {w : World} {B : Nat} {v : Value} {c : Cm} (hv : CmV w B v c) (hB : B ≤ w.heap.size) (hl : c.doc.ls.length ≤ 100000) (hk : c.kind = 7) (hG : goodCB c = true) :
  Calls Try.prog 31 #[v] w (EncPost c w) := by
 obtain ⟨A0, m0, V, rfl, HV, HV2, HVI, HB1, HX1, HLS, HOK⟩ := cmd_pre hv hB
 clear hv
 have hgd := good_any (c := c) ⟨.slice A0 c.doc.ls.length m0, by rw [HV.out], HLS.out _ HB1.out, HOK.out⟩ (Nat.le_trans hB HB1.out.size) hl
 rw [hG] at hgd
 have HG := Lib.hid hG
 clear hG
 go_enter Try.func31, Try.ntmps31
 go_upto_region 1 with fail
 generalize World.alloc w _ = w1 at *
 generalize hb : w.heap.size = b1 at HX1 ⊢
 have HBB := Lib.hid hb
 clear hb
 have HXV := Lib.hid (loadV HX1.out HV.out)
 have hfit := good_fit HG.out
 have hbody : encL c = numL c.kind ++ bodyL c := rfl
 have HFIT := Lib.hid hfit
 have HCV := Lib.hid (show ∀ W, W.heap[b1]? = some (.cells V 53 (0, 0)) → CBox W b1 c (.slice A0 c.doc.ls.length m0) from fun W hW => CBlk.box (by unfold CBlk; rw [HV.out]; exact hW))
 clear hfit hbody
 go_upto_region 3 with (first
  | (with_reducible refine wpList_load_row rfl 53 (.tmp 1) rfl b1 rfl 53 V (0, 0) _ HXV.out Try.underlying53 rfl HVI.out ?_)
  | (go_at_call 26; (with_reducible refine hgd.mono ?_); rintro e w2 ⟨rfl, hb2⟩; have HB2 := Lib.hid hb2; clear hb2 hgd))
 have HC2 := Lib.hid (show CB w2 b1 V w2 from ⟨(HB2.out.block b1 (lt_of_blk HXV.out)).trans HXV.out, Below.refl _ _⟩)
 refine wp_region_chainP (by kernel_rfl) [none, some (.pointer (some ⟨b1, 0, none⟩)), some (.int .i64 c.kind), none, none] [0, 3, 4] (fun m x W => match m with | 0 => CB w2 b1 V W | 1 => ES w2 b1 V [] x W | _ => ES w2 b1 V (numL c.kind) x W) (by kernel_rfl) (by kernel_rfl) (by kernel_rfl) (by kernel_rfl) (fun m x W W' h hb => by match m, h with | 0, h => exact h.below hb | 1, h => exact h.below hb | n + 2, h => exact h.below hb) HC2.out (fun i hi hn m a W hc hI hd => ?_) (fun k hk a W hc hI hd => ?_) (fun a w8 hc hI hs => ?_)
 ·match i, hi, hn with
  | 0, _, hn => exact absurd hn (by decide)
  | 1, _, _ =>
   have z1 := hc.same 1 (by kernel_rfl)
   simp only [List.getElem?_toArray, List.getElem?_cons_succ, List.getElem?_cons_zero, Option.getD_some] at z1
   refine obl_val rfl (wanted_none rfl) ?_ rfl
   go_simp
  | 2, _, _ =>
   have s1 : a.tmps[9]?.getD undef = (.pointer (some ⟨b1, 0, none⟩)) := hd 1 (by kernel_rfl)
   have hbk : W.heap[b1]? = some (.cells V 53 (0, 0)) := by match m, hI with | 0, hI => exact hI.blk | 1, hI => exact hI.cb.blk | n + 2, hI => exact hI.cb.blk
   have c0 := (HCV.out W hbk).c0
   refine obl_val rfl (wanted_none rfl) ?_ rfl
   go_simp
  | 3, _, hn => exact absurd hn (by decide)
  | 4, _, hn => exact absurd hn (by decide)
  | n + 5, h, _ => exact absurd h (by simp)
 ·match k, hk with
  | 0, _ =>
   refine obl_callK rfl (wanted_none rfl) (by go_simp) (new_any W) ?_
   rintro e w9 ⟨rfl, hw9, hb9⟩
   exact ⟨_, rfl, _, rfl, trivial, ⟨_, _, rfl, hw9, hI.bl.size⟩, hI.below hb9⟩
  | 1, _ =>
   have s2 : a.tmps[10]?.getD undef = (.int .i64 c.kind) := hd 2 (by kernel_rfl)
   have hI : (fun m x W => match m with | 0 => CB w2 b1 V W | 1 => ES w2 b1 V [] x W | _ => ES w2 b1 V (numL c.kind) x W) 1 (a.tmps[8]?.getD undef) W := hI
   obtain ⟨⟨g, s, e, hw, hg⟩, hcb⟩ := hI
   refine obl_callK rfl (wanted_none rfl) (by go_simp) (num_any c.kind HFIT.out.kind.1 HFIT.out.kind.2 hw (by simp)) ?_
   rintro e w9 ⟨s9, rfl, hw9, hs9⟩
   exact ⟨_, rfl, _, rfl, trivial, ⟨_, _, rfl, hw9, hg⟩, hcb.step hw hg hs9⟩
  | 2, _ =>
   have hI : (fun m x W => match m with | 0 => CB w2 b1 V W | 1 => ES w2 b1 V [] x W | _ => ES w2 b1 V (numL c.kind) x W) 2 (a.tmps[11]?.getD undef) W := hI
   obtain ⟨⟨g, s, e, hw, hg⟩, hcb⟩ := hI
   refine obl_callV rfl (wanted_none rfl) (v := ptr g) (by go_simp) ⟨rfl, trivial, ⟨g, s, rfl, hw, hg⟩, hcb⟩
  | n + 3, h => exact absurd h (by simp)
 ·skip
  have hI' : (fun m x W => match m with | 0 => CB w2 b1 V W | 1 => ES w2 b1 V [] x W | _ => ES w2 b1 V (numL c.kind) x W) 3 (a.tmps[4]?.getD undef) w8 := hI
  have hfr := grow_frame hc [(8, a.tmps[8]?.getD undef), (9, (.pointer (some ⟨b1, 0, none⟩))), (10, (.int .i64 c.kind)), (11, a.tmps[11]?.getD undef), (4, a.tmps[4]?.getD undef)] (by kernel_rfl) (fun p hp => by
    simp only [List.mem_cons, List.not_mem_nil, or_false] at hp
    rcases hp with rfl | rfl | rfl | rfl | rfl
    ·rfl
    ·exact hs 1 9 (by decide) (by kernel_rfl)
    ·exact hs 2 10 (by decide) (by kernel_rfl)
    ·rfl
    ·rfl
    )
  generalize a.tmps[8]?.getD undef = z8 at hfr
  generalize a.tmps[11]?.getD undef = z11 at hfr
  generalize a.tmps[4]?.getD undef = z4 at hfr hI'
  simp only [List.range, List.range.loop, List.size_toArray, List.length_cons, List.length_nil, List.map_cons, List.map_nil, List.lookup_cons, List.lookup_nil, Nat.reduceAdd, Nat.reduceBEq, Option.getD_some, Option.getD_none, List.getElem?_toArray, List.getElem?_cons_succ, List.getElem?_cons_zero] at hfr
  subst hfr
  obtain ⟨⟨g, s, rfl, hw8, hg8⟩, hcb8⟩ := hI'
  have HW8 := Lib.hid hw8
  have HG8 := Lib.hid hg8
  have HC8 := Lib.hid hcb8
  clear hc hs hI hw8 hg8 hcb8
  have HWS0 := Lib.hid (show WS w8 g (numL c.kind) s b1 V 53 [] w8 from ⟨⟨s, by rw [List.append_nil]; exact HW8.out, Step.refl⟩, HC8.out.blk⟩)
  have HKL := Lib.hid (numL_len' _ HFIT.out.kind)
  have c0 := (HCV.out w8 HC8.out.blk).c0
  rw [hk] at c0
  go_upto_region 22 with fail
  have HWT := Lib.hid (show WS w8 g (numL c.kind) s b1 V 53 (([] : List (List UInt8)).flatten ++ (([numL c.py, numL c.nm] : List (List UInt8)).take 0).flatten) w8 by simpa using HWS0.out)
  refine wp_region_chain (by kernel_rfl) [ptr g, .pointer (some ⟨b1, 10, none⟩), .pointer (some ⟨b1, 11, none⟩), .int .i64 c.py, ptr g, .pointer (some ⟨b1, 7, none⟩), .int .i64 c.nm, ptr g] [4, 7] (fun k W => WS w8 g (numL c.kind) s b1 V 53 (([] : List (List UInt8)).flatten ++ (([numL c.py, numL c.nm] : List (List UInt8)).take k).flatten) W) (by kernel_rfl) (by kernel_rfl) (by kernel_rfl) (fun m W W' h hb => h.below hb) HWT.out (fun i hi hn m a W hc hI hd => ?_) (fun k hk a W hc hI hd => ?_) (fun a w21 hc hI hs => ?_)
  ·match i, hi, hn with
   | 0, _, _ =>
    have z4 := hc.same 4 (by kernel_rfl)
    simp only [List.getElem?_toArray, List.getElem?_cons_succ, List.getElem?_cons_zero, Option.getD_some] at z4
    refine obl_val rfl (wanted_none rfl) ?_ rfl
    go_simp
   | 1, _, _ =>
    have z1 := hc.same 1 (by kernel_rfl)
    simp only [List.getElem?_toArray, List.getElem?_cons_succ, List.getElem?_cons_zero, Option.getD_some] at z1
    refine obl_val rfl (wanted_none rfl) ?_ rfl
    go_simp
   | 2, _, _ =>
    have s1 : a.tmps[98]?.getD undef = (.pointer (some ⟨b1, 10, none⟩)) := hd 1 (by kernel_rfl)
    refine obl_val rfl (wanted_none rfl) ?_ rfl
    go_simp
   | 3, _, _ =>
    have s2 : a.tmps[99]?.getD undef = (.pointer (some ⟨b1, 11, none⟩)) := hd 2 (by kernel_rfl)
    obtain ⟨c0, c1, c2, c3, c4, c5, c6, c7, c8, c9, c10, c11, c12, c13, c14, c15, c16, c17, c18, c19, c20, c21⟩ := HCV.out W hI.blk
    refine obl_val rfl (wanted_none rfl) ?_ rfl
    go_simp
   | 4, _, hn => exact absurd hn (by decide)
   | 5, _, _ =>
    have z1 := hc.same 1 (by kernel_rfl)
    simp only [List.getElem?_toArray, List.getElem?_cons_succ, List.getElem?_cons_zero, Option.getD_some] at z1
    refine obl_val rfl (wanted_none rfl) ?_ rfl
    go_simp
   | 6, _, _ =>
    have s5 : a.tmps[102]?.getD undef = (.pointer (some ⟨b1, 7, none⟩)) := hd 5 (by kernel_rfl)
    obtain ⟨c0, c1, c2, c3, c4, c5, c6, c7, c8, c9, c10, c11, c12, c13, c14, c15, c16, c17, c18, c19, c20, c21⟩ := HCV.out W hI.blk
    refine obl_val rfl (wanted_none rfl) ?_ rfl
    go_simp
   | 7, _, hn => exact absurd hn (by decide)
   | n + 8, h, _ => exact absurd h (by simp)
  ·match k, hk with
   | 0, _ =>
    have s0 : a.tmps[97]?.getD undef = (ptr g) := hd 0 (by kernel_rfl)
    have s3 : a.tmps[100]?.getD undef = (.int .i64 c.py) := hd 3 (by kernel_rfl)
    obtain ⟨⟨sq, hw, hst⟩, hbk⟩ := hI
    refine obl_callK rfl (wanted_none rfl) (by go_simp) (num_any c.py HFIT.out.py.1 HFIT.out.py.2 hw (by simp; have := HKL.out; omega)) ?_
    rintro e w9 ⟨s9, rfl, hw9, hs9⟩
    exact ⟨_, rfl, _, rfl, rfl, WS.call hw hst hbk (by decide) (by decide) hw9 hs9 (by simp [List.take])⟩
   | 1, _ =>
    have s4 : a.tmps[101]?.getD undef = (ptr g) := hd 4 (by kernel_rfl)
    have s6 : a.tmps[103]?.getD undef = (.int .i64 c.nm) := hd 6 (by kernel_rfl)
    obtain ⟨⟨sq, hw, hst⟩, hbk⟩ := hI
    refine obl_callK rfl (wanted_none rfl) (by go_simp) (num_any c.nm HFIT.out.nm.1 HFIT.out.nm.2 hw (by simp; have := HKL.out; have := numL_len' _ HFIT.out.py; omega)) ?_
    rintro e w9 ⟨s9, rfl, hw9, hs9⟩
    exact ⟨_, rfl, _, rfl, rfl, WS.call hw hst hbk (by decide) (by decide) hw9 hs9 (by simp [List.take])⟩
   | n + 2, h => exact absurd h (by simp)
  ·skip
   have hfr := grow_frame hc [(97, (ptr g)), (98, (.pointer (some ⟨b1, 10, none⟩))), (99, (.pointer (some ⟨b1, 11, none⟩))), (100, (.int .i64 c.py)), (101, (ptr g)), (102, (.pointer (some ⟨b1, 7, none⟩))), (103, (.int .i64 c.nm)), (104, (ptr g))] (by kernel_rfl) (fun p hp => by
     simp only [List.mem_cons, List.not_mem_nil, or_false] at hp
     rcases hp with rfl | rfl | rfl | rfl | rfl | rfl | rfl | rfl
     ·exact hs 0 97 (by decide) (by kernel_rfl)
     ·exact hs 1 98 (by decide) (by kernel_rfl)
     ·exact hs 2 99 (by decide) (by kernel_rfl)
     ·exact hs 3 100 (by decide) (by kernel_rfl)
     ·exact hs 4 101 (by decide) (by kernel_rfl)
     ·exact hs 5 102 (by decide) (by kernel_rfl)
     ·exact hs 6 103 (by decide) (by kernel_rfl)
     ·exact hs 7 104 (by decide) (by kernel_rfl)
     )
   simp only [List.range, List.range.loop, List.size_toArray, List.length_cons, List.length_nil, List.map_cons, List.map_nil, List.lookup_cons, List.lookup_nil, Nat.reduceAdd, Nat.reduceBEq, Option.getD_some, Option.getD_none, List.getElem?_toArray, List.getElem?_cons_succ, List.getElem?_cons_zero] at hfr
   subst hfr
   have HWS1 := Lib.hid (show WS w8 g (numL c.kind) s b1 V 53 (([numL c.py, numL c.nm] : List (List UInt8)).flatten) w21 by simpa using hI)
   clear hc hs hI
   have hbo : bodyL c = ([numL c.py, numL c.nm] : List (List UInt8)).flatten := by rw [bodyL, if_neg (by rw [hk]; decide), if_neg (by rw [hk]; decide), if_neg (by rw [hk]; decide), if_neg (by rw [hk]; decide), if_neg (by rw [hk]; decide), if_neg (by rw [hk]; decide), if_pos hk]
   obtain ⟨sz, hwz, hsz⟩ := HWS1.out.ex
   rw [← hbo] at hwz
   have hlen : (numL c.kind ++ bodyL c).length ≤ 2000000000 := by
    rw [List.length_append, hbo]
    simp only [List.flatten_cons, List.flatten_nil, List.length_append, List.length_nil]
    have := HKL.out; have := numL_len' _ HFIT.out.py; have := numL_len' _ HFIT.out.nm; omega
   have hby := bytes_any hwz hlen
   have HFB := Lib.hid (HB2.out.trans ((HC8.out.bl.trans (hsz.low HW8.out HG8.out)).mono HB2.out.size))
   clear hbo hwz hsz hlen
   go_wp2_with (go_at_call 67; (with_reducible refine hby.mono ?_); rintro e wz ⟨r, rfl, hoz, hbz⟩)
   go_ret2
   have hbf := HB1.out.trans (HFB.out.mono HB1.out.size)
   exact ⟨.inr ⟨HG.out, r, rfl, hoz.more hbf.size⟩, hbf.trans (hbz.mono hbf.size)⟩
set_option maxRecDepth 100000 in
set_option maxHeartbeats 16000000 in
theorem enc_k8 {w : World} {B : Nat} {v : Value} {c : Cm} (hv : CmV w B v c) (hB : B ≤ w.heap.size) (hl : c.doc.ls.length ≤ 100000) (hk : c.kind = 8) (hG : goodCB c = true) :
  Calls Try.prog 31 #[v] w (EncPost c w) := by
 obtain ⟨A0, m0, V, rfl, HV, HV2, HVI, HB1, HX1, HLS, HOK⟩ := cmd_pre hv hB
 clear hv
 have hgd := good_any (c := c) ⟨.slice A0 c.doc.ls.length m0, by rw [HV.out], HLS.out _ HB1.out, HOK.out⟩ (Nat.le_trans hB HB1.out.size) hl
 rw [hG] at hgd
 have HG := Lib.hid hG
 clear hG
 go_enter Try.func31, Try.ntmps31
 go_upto_region 1 with fail
 generalize World.alloc w _ = w1 at *
 generalize hb : w.heap.size = b1 at HX1 ⊢
 have HBB := Lib.hid hb
 clear hb
 have HXV := Lib.hid (loadV HX1.out HV.out)
 have hfit := good_fit HG.out
 have hbody : encL c = numL c.kind ++ bodyL c := rfl
 have HFIT := Lib.hid hfit
 have HCV := Lib.hid (show ∀ W, W.heap[b1]? = some (.cells V 53 (0, 0)) → CBox W b1 c (.slice A0 c.doc.ls.length m0) from fun W hW => CBlk.box (by unfold CBlk; rw [HV.out]; exact hW))
 clear hfit hbody
 go_upto_region 3 with (first
  | (with_reducible refine wpList_load_row rfl 53 (.tmp 1) rfl b1 rfl 53 V (0, 0) _ HXV.out Try.underlying53 rfl HVI.out ?_)
  | (go_at_call 26; (with_reducible refine hgd.mono ?_); rintro e w2 ⟨rfl, hb2⟩; have HB2 := Lib.hid hb2; clear hb2 hgd))
 have HC2 := Lib.hid (show CB w2 b1 V w2 from ⟨(HB2.out.block b1 (lt_of_blk HXV.out)).trans HXV.out, Below.refl _ _⟩)
 refine wp_region_chainP (by kernel_rfl) [none, some (.pointer (some ⟨b1, 0, none⟩)), some (.int .i64 c.kind), none, none] [0, 3, 4] (fun m x W => match m with | 0 => CB w2 b1 V W | 1 => ES w2 b1 V [] x W | _ => ES w2 b1 V (numL c.kind) x W) (by kernel_rfl) (by kernel_rfl) (by kernel_rfl) (by kernel_rfl) (fun m x W W' h hb => by match m, h with | 0, h => exact h.below hb | 1, h => exact h.below hb | n + 2, h => exact h.below hb) HC2.out (fun i hi hn m a W hc hI hd => ?_) (fun k hk a W hc hI hd => ?_) (fun a w8 hc hI hs => ?_)
 ·match i, hi, hn with
  | 0, _, hn => exact absurd hn (by decide)
  | 1, _, _ =>
   have z1 := hc.same 1 (by kernel_rfl)
   simp only [List.getElem?_toArray, List.getElem?_cons_succ, List.getElem?_cons_zero, Option.getD_some] at z1
   refine obl_val rfl (wanted_none rfl) ?_ rfl
   go_simp
  | 2, _, _ =>
   have s1 : a.tmps[9]?.getD undef = (.pointer (some ⟨b1, 0, none⟩)) := hd 1 (by kernel_rfl)
   have hbk : W.heap[b1]? = some (.cells V 53 (0, 0)) := by match m, hI with | 0, hI => exact hI.blk | 1, hI => exact hI.cb.blk | n + 2, hI => exact hI.cb.blk
   have c0 := (HCV.out W hbk).c0
   refine obl_val rfl (wanted_none rfl) ?_ rfl
   go_simp
  | 3, _, hn => exact absurd hn (by decide)
  | 4, _, hn => exact absurd hn (by decide)
  | n + 5, h, _ => exact absurd h (by simp)
 ·match k, hk with
  | 0, _ =>
   refine obl_callK rfl (wanted_none rfl) (by go_simp) (new_any W) ?_
   rintro e w9 ⟨rfl, hw9, hb9⟩
   exact ⟨_, rfl, _, rfl, trivial, ⟨_, _, rfl, hw9, hI.bl.size⟩, hI.below hb9⟩
  | 1, _ =>
   have s2 : a.tmps[10]?.getD undef = (.int .i64 c.kind) := hd 2 (by kernel_rfl)
   have hI : (fun m x W => match m with | 0 => CB w2 b1 V W | 1 => ES w2 b1 V [] x W | _ => ES w2 b1 V (numL c.kind) x W) 1 (a.tmps[8]?.getD undef) W := hI
   obtain ⟨⟨g, s, e, hw, hg⟩, hcb⟩ := hI
   refine obl_callK rfl (wanted_none rfl) (by go_simp) (num_any c.kind HFIT.out.kind.1 HFIT.out.kind.2 hw (by simp)) ?_
   rintro e w9 ⟨s9, rfl, hw9, hs9⟩
   exact ⟨_, rfl, _, rfl, trivial, ⟨_, _, rfl, hw9, hg⟩, hcb.step hw hg hs9⟩
  | 2, _ =>
   have hI : (fun m x W => match m with | 0 => CB w2 b1 V W | 1 => ES w2 b1 V [] x W | _ => ES w2 b1 V (numL c.kind) x W) 2 (a.tmps[11]?.getD undef) W := hI
   obtain ⟨⟨g, s, e, hw, hg⟩, hcb⟩ := hI
   refine obl_callV rfl (wanted_none rfl) (v := ptr g) (by go_simp) ⟨rfl, trivial, ⟨g, s, rfl, hw, hg⟩, hcb⟩
  | n + 3, h => exact absurd h (by simp)
 ·skip
  have hI' : (fun m x W => match m with | 0 => CB w2 b1 V W | 1 => ES w2 b1 V [] x W | _ => ES w2 b1 V (numL c.kind) x W) 3 (a.tmps[4]?.getD undef) w8 := hI
  have hfr := grow_frame hc [(8, a.tmps[8]?.getD undef), (9, (.pointer (some ⟨b1, 0, none⟩))), (10, (.int .i64 c.kind)), (11, a.tmps[11]?.getD undef), (4, a.tmps[4]?.getD undef)] (by kernel_rfl) (fun p hp => by
    simp only [List.mem_cons, List.not_mem_nil, or_false] at hp
    rcases hp with rfl | rfl | rfl | rfl | rfl
    ·rfl
    ·exact hs 1 9 (by decide) (by kernel_rfl)
    ·exact hs 2 10 (by decide) (by kernel_rfl)
    ·rfl
    ·rfl
    )
  generalize a.tmps[8]?.getD undef = z8 at hfr
  generalize a.tmps[11]?.getD undef = z11 at hfr
  generalize a.tmps[4]?.getD undef = z4 at hfr hI'
  simp only [List.range, List.range.loop, List.size_toArray, List.length_cons, List.length_nil, List.map_cons, List.map_nil, List.lookup_cons, List.lookup_nil, Nat.reduceAdd, Nat.reduceBEq, Option.getD_some, Option.getD_none, List.getElem?_toArray, List.getElem?_cons_succ, List.getElem?_cons_zero] at hfr
  subst hfr
  obtain ⟨⟨g, s, rfl, hw8, hg8⟩, hcb8⟩ := hI'
  have HW8 := Lib.hid hw8
  have HG8 := Lib.hid hg8
  have HC8 := Lib.hid hcb8
  clear hc hs hI hw8 hg8 hcb8
  have HWS0 := Lib.hid (show WS w8 g (numL c.kind) s b1 V 53 [] w8 from ⟨⟨s, by rw [List.append_nil]; exact HW8.out, Step.refl⟩, HC8.out.blk⟩)
  have HKL := Lib.hid (numL_len' _ HFIT.out.kind)
  have c0 := (HCV.out w8 HC8.out.blk).c0
  rw [hk] at c0
  obtain ⟨_, c1, c2, c3, c4, c5, c6, c7, c8, c9, c10, c11, c12, c13, c14, c15, c16, c17, c18, c19, c20, c21⟩ := HCV.out w8 HWS0.out.blk
  obtain ⟨sx, hwx, hsx⟩ := HWS0.out.ex
  have hcl := putdoc_any hwx (by simp; have := HKL.out; omega) (d := c.doc) (lv := .slice A0 c.doc.ls.length m0) (HLS.out w8 (HB1.out.trans ((HB2.out.trans (HC8.out.bl.mono HB2.out.size)).mono HB1.out.size))) (Nat.le_trans hB (Nat.le_trans HB1.out.size (Nat.le_trans HB2.out.size HG8.out))) (HFIT.out.doc hk)
  simp only [Dm.vs] at hcl
  go_upto_region 27 with (go_at_call 66; (with_reducible refine hcl.mono ?_); rintro e w21 ⟨s9, rfl, hw9, hs9⟩)
  have HWS1 := Lib.hid (WS.call hwx hsx HWS0.out.blk (by decide) (by decide) hw9 hs9 (l' := docL c.doc) (by simp))
  clear hcl hwx hsx hw9 hs9 c1 c2 c3 c4 c5 c6 c7 c8 c9 c10 c11 c12 c13 c14 c15 c16 c17 c18 c19 c20 c21
  have hbo : bodyL c = docL c.doc := by rw [bodyL, if_neg (by rw [hk]; decide), if_neg (by rw [hk]; decide), if_neg (by rw [hk]; decide), if_neg (by rw [hk]; decide), if_neg (by rw [hk]; decide), if_neg (by rw [hk]; decide), if_neg (by rw [hk]; decide), if_pos hk]
  obtain ⟨sz, hwz, hsz⟩ := HWS1.out.ex
  rw [← hbo] at hwz
  have hlen : (numL c.kind ++ bodyL c).length ≤ 2000000000 := by
   rw [List.length_append, hbo]
   have h1 := docL_len (HFIT.out.doc hk)
   have := HKL.out
   omega
  have hby := bytes_any hwz hlen
  have HFB := Lib.hid (HB2.out.trans ((HC8.out.bl.trans (hsz.low HW8.out HG8.out)).mono HB2.out.size))
  clear hbo hwz hsz hlen
  go_wp2_with (go_at_call 67; (with_reducible refine hby.mono ?_); rintro e wz ⟨r, rfl, hoz, hbz⟩)
  go_ret2
  have hbf := HB1.out.trans (HFB.out.mono HB1.out.size)
  exact ⟨.inr ⟨HG.out, r, rfl, hoz.more hbf.size⟩, hbf.trans (hbz.mono hbf.size)⟩
set_option maxRecDepth 100000 in
set_option maxHeartbeats 16000000 in
theorem enc_k9 {w : World} {B : Nat} {v : Value} {c : Cm} (hv : CmV w B v c) (hB : B ≤ w.heap.size) (hl : c.doc.ls.length ≤ 100000) (hk : c.kind = 9) (hG : goodCB c = true) :
  Calls Try.prog 31 #[v] w (EncPost c w) := by
 obtain ⟨A0, m0, V, rfl, HV, HV2, HVI, HB1, HX1, HLS, HOK⟩ := cmd_pre hv hB
 clear hv
 have hgd := good_any (c := c) ⟨.slice A0 c.doc.ls.length m0, by rw [HV.out], HLS.out _ HB1.out, HOK.out⟩ (Nat.le_trans hB HB1.out.size) hl
 rw [hG] at hgd
 have HG := Lib.hid hG
 clear hG
 go_enter Try.func31, Try.ntmps31
 go_upto_region 1 with fail
 generalize World.alloc w _ = w1 at *
 generalize hb : w.heap.size = b1 at HX1 ⊢
 have HBB := Lib.hid hb
 clear hb
 have HXV := Lib.hid (loadV HX1.out HV.out)
 have hfit := good_fit HG.out
 have hbody : encL c = numL c.kind ++ bodyL c := rfl
 have HFIT := Lib.hid hfit
 have HCV := Lib.hid (show ∀ W, W.heap[b1]? = some (.cells V 53 (0, 0)) → CBox W b1 c (.slice A0 c.doc.ls.length m0) from fun W hW => CBlk.box (by unfold CBlk; rw [HV.out]; exact hW))
 clear hfit hbody
 go_upto_region 3 with (first
  | (with_reducible refine wpList_load_row rfl 53 (.tmp 1) rfl b1 rfl 53 V (0, 0) _ HXV.out Try.underlying53 rfl HVI.out ?_)
  | (go_at_call 26; (with_reducible refine hgd.mono ?_); rintro e w2 ⟨rfl, hb2⟩; have HB2 := Lib.hid hb2; clear hb2 hgd))
 have HC2 := Lib.hid (show CB w2 b1 V w2 from ⟨(HB2.out.block b1 (lt_of_blk HXV.out)).trans HXV.out, Below.refl _ _⟩)
 refine wp_region_chainP (by kernel_rfl) [none, some (.pointer (some ⟨b1, 0, none⟩)), some (.int .i64 c.kind), none, none] [0, 3, 4] (fun m x W => match m with | 0 => CB w2 b1 V W | 1 => ES w2 b1 V [] x W | _ => ES w2 b1 V (numL c.kind) x W) (by kernel_rfl) (by kernel_rfl) (by kernel_rfl) (by kernel_rfl) (fun m x W W' h hb => by match m, h with | 0, h => exact h.below hb | 1, h => exact h.below hb | n + 2, h => exact h.below hb) HC2.out (fun i hi hn m a W hc hI hd => ?_) (fun k hk a W hc hI hd => ?_) (fun a w8 hc hI hs => ?_)
 ·match i, hi, hn with
  | 0, _, hn => exact absurd hn (by decide)
  | 1, _, _ =>
   have z1 := hc.same 1 (by kernel_rfl)
   simp only [List.getElem?_toArray, List.getElem?_cons_succ, List.getElem?_cons_zero, Option.getD_some] at z1
   refine obl_val rfl (wanted_none rfl) ?_ rfl
   go_simp
  | 2, _, _ =>
   have s1 : a.tmps[9]?.getD undef = (.pointer (some ⟨b1, 0, none⟩)) := hd 1 (by kernel_rfl)
   have hbk : W.heap[b1]? = some (.cells V 53 (0, 0)) := by match m, hI with | 0, hI => exact hI.blk | 1, hI => exact hI.cb.blk | n + 2, hI => exact hI.cb.blk
   have c0 := (HCV.out W hbk).c0
   refine obl_val rfl (wanted_none rfl) ?_ rfl
   go_simp
  | 3, _, hn => exact absurd hn (by decide)
  | 4, _, hn => exact absurd hn (by decide)
  | n + 5, h, _ => exact absurd h (by simp)
 ·match k, hk with
  | 0, _ =>
   refine obl_callK rfl (wanted_none rfl) (by go_simp) (new_any W) ?_
   rintro e w9 ⟨rfl, hw9, hb9⟩
   exact ⟨_, rfl, _, rfl, trivial, ⟨_, _, rfl, hw9, hI.bl.size⟩, hI.below hb9⟩
  | 1, _ =>
   have s2 : a.tmps[10]?.getD undef = (.int .i64 c.kind) := hd 2 (by kernel_rfl)
   have hI : (fun m x W => match m with | 0 => CB w2 b1 V W | 1 => ES w2 b1 V [] x W | _ => ES w2 b1 V (numL c.kind) x W) 1 (a.tmps[8]?.getD undef) W := hI
   obtain ⟨⟨g, s, e, hw, hg⟩, hcb⟩ := hI
   refine obl_callK rfl (wanted_none rfl) (by go_simp) (num_any c.kind HFIT.out.kind.1 HFIT.out.kind.2 hw (by simp)) ?_
   rintro e w9 ⟨s9, rfl, hw9, hs9⟩
   exact ⟨_, rfl, _, rfl, trivial, ⟨_, _, rfl, hw9, hg⟩, hcb.step hw hg hs9⟩
  | 2, _ =>
   have hI : (fun m x W => match m with | 0 => CB w2 b1 V W | 1 => ES w2 b1 V [] x W | _ => ES w2 b1 V (numL c.kind) x W) 2 (a.tmps[11]?.getD undef) W := hI
   obtain ⟨⟨g, s, e, hw, hg⟩, hcb⟩ := hI
   refine obl_callV rfl (wanted_none rfl) (v := ptr g) (by go_simp) ⟨rfl, trivial, ⟨g, s, rfl, hw, hg⟩, hcb⟩
  | n + 3, h => exact absurd h (by simp)
 ·skip
  have hI' : (fun m x W => match m with | 0 => CB w2 b1 V W | 1 => ES w2 b1 V [] x W | _ => ES w2 b1 V (numL c.kind) x W) 3 (a.tmps[4]?.getD undef) w8 := hI
  have hfr := grow_frame hc [(8, a.tmps[8]?.getD undef), (9, (.pointer (some ⟨b1, 0, none⟩))), (10, (.int .i64 c.kind)), (11, a.tmps[11]?.getD undef), (4, a.tmps[4]?.getD undef)] (by kernel_rfl) (fun p hp => by
    simp only [List.mem_cons, List.not_mem_nil, or_false] at hp
    rcases hp with rfl | rfl | rfl | rfl | rfl
    ·rfl
    ·exact hs 1 9 (by decide) (by kernel_rfl)
    ·exact hs 2 10 (by decide) (by kernel_rfl)
    ·rfl
    ·rfl
    )
  generalize a.tmps[8]?.getD undef = z8 at hfr
  generalize a.tmps[11]?.getD undef = z11 at hfr
  generalize a.tmps[4]?.getD undef = z4 at hfr hI'
  simp only [List.range, List.range.loop, List.size_toArray, List.length_cons, List.length_nil, List.map_cons, List.map_nil, List.lookup_cons, List.lookup_nil, Nat.reduceAdd, Nat.reduceBEq, Option.getD_some, Option.getD_none, List.getElem?_toArray, List.getElem?_cons_succ, List.getElem?_cons_zero] at hfr
  subst hfr
  obtain ⟨⟨g, s, rfl, hw8, hg8⟩, hcb8⟩ := hI'
  have HW8 := Lib.hid hw8
  have HG8 := Lib.hid hg8
  have HC8 := Lib.hid hcb8
  clear hc hs hI hw8 hg8 hcb8
  have HWS0 := Lib.hid (show WS w8 g (numL c.kind) s b1 V 53 [] w8 from ⟨⟨s, by rw [List.append_nil]; exact HW8.out, Step.refl⟩, HC8.out.blk⟩)
  have HKL := Lib.hid (numL_len' _ HFIT.out.kind)
  have c0 := (HCV.out w8 HC8.out.blk).c0
  rw [hk] at c0
  obtain ⟨_, c1, c2, c3, c4, c5, c6, c7, c8, c9, c10, c11, c12, c13, c14, c15, c16, c17, c18, c19, c20, c21⟩ := HCV.out w8 HWS0.out.blk
  obtain ⟨sx, hwx, hsx⟩ := HWS0.out.ex
  have hcl := num_any c.pk HFIT.out.pk.1 HFIT.out.pk.2 hwx (by simp; have := HKL.out; omega)
  go_upto_region 25 with (go_at_call 64; (with_reducible refine hcl.mono ?_); rintro e w21 ⟨s9, rfl, hw9, hs9⟩)
  have HWS1 := Lib.hid (WS.call hwx hsx HWS0.out.blk (by decide) (by decide) hw9 hs9 (l' := ([numL c.pk] : List (List UInt8)).flatten) (by simp))
  clear hcl hwx hsx hw9 hs9 c1 c2 c3 c4 c5 c6 c7 c8 c9 c10 c11 c12 c13 c14 c15 c16 c17 c18 c19 c20 c21
  go_upto_region 25 with fail
  have HWT := Lib.hid (show WS w8 g (numL c.kind) s b1 V 53 (([numL c.pk] : List (List UInt8)).flatten ++ (([numL c.py, numL c.px] : List (List UInt8)).take 0).flatten) w21 by simpa using HWS1.out)
  refine wp_region_chain (by kernel_rfl) [ptr g, .pointer (some ⟨b1, 10, none⟩), .pointer (some ⟨b1, 11, none⟩), .int .i64 c.py, ptr g, .pointer (some ⟨b1, 10, none⟩), .pointer (some ⟨b1, 12, none⟩), .int .i64 c.px, ptr g] [4, 8] (fun k W => WS w8 g (numL c.kind) s b1 V 53 (([numL c.pk] : List (List UInt8)).flatten ++ (([numL c.py, numL c.px] : List (List UInt8)).take k).flatten) W) (by kernel_rfl) (by kernel_rfl) (by kernel_rfl) (fun m W W' h hb => h.below hb) HWT.out (fun i hi hn m a W hc hI hd => ?_) (fun k hk a W hc hI hd => ?_) (fun a w22 hc hI hs => ?_)
  ·match i, hi, hn with
   | 0, _, _ =>
    have z4 := hc.same 4 (by kernel_rfl)
    simp only [List.getElem?_toArray, List.getElem?_cons_succ, List.getElem?_cons_zero, Option.getD_some] at z4
    refine obl_val rfl (wanted_none rfl) ?_ rfl
    go_simp
   | 1, _, _ =>
    have z1 := hc.same 1 (by kernel_rfl)
    simp only [List.getElem?_toArray, List.getElem?_cons_succ, List.getElem?_cons_zero, Option.getD_some] at z1
    refine obl_val rfl (wanted_none rfl) ?_ rfl
    go_simp
   | 2, _, _ =>
    have s1 : a.tmps[115]?.getD undef = (.pointer (some ⟨b1, 10, none⟩)) := hd 1 (by kernel_rfl)
    refine obl_val rfl (wanted_none rfl) ?_ rfl
    go_simp
   | 3, _, _ =>
    have s2 : a.tmps[116]?.getD undef = (.pointer (some ⟨b1, 11, none⟩)) := hd 2 (by kernel_rfl)
    obtain ⟨c0, c1, c2, c3, c4, c5, c6, c7, c8, c9, c10, c11, c12, c13, c14, c15, c16, c17, c18, c19, c20, c21⟩ := HCV.out W hI.blk
    refine obl_val rfl (wanted_none rfl) ?_ rfl
    go_simp
   | 4, _, hn => exact absurd hn (by decide)
   | 5, _, _ =>
    have z1 := hc.same 1 (by kernel_rfl)
    simp only [List.getElem?_toArray, List.getElem?_cons_succ, List.getElem?_cons_zero, Option.getD_some] at z1
    refine obl_val rfl (wanted_none rfl) ?_ rfl
    go_simp
   | 6, _, _ =>
    have s5 : a.tmps[119]?.getD undef = (.pointer (some ⟨b1, 10, none⟩)) := hd 5 (by kernel_rfl)
    refine obl_val rfl (wanted_none rfl) ?_ rfl
    go_simp
   | 7, _, _ =>
    have s6 : a.tmps[120]?.getD undef = (.pointer (some ⟨b1, 12, none⟩)) := hd 6 (by kernel_rfl)
    obtain ⟨c0, c1, c2, c3, c4, c5, c6, c7, c8, c9, c10, c11, c12, c13, c14, c15, c16, c17, c18, c19, c20, c21⟩ := HCV.out W hI.blk
    refine obl_val rfl (wanted_none rfl) ?_ rfl
    go_simp
   | 8, _, hn => exact absurd hn (by decide)
   | n + 9, h, _ => exact absurd h (by simp)
  ·match k, hk with
   | 0, _ =>
    have s0 : a.tmps[114]?.getD undef = (ptr g) := hd 0 (by kernel_rfl)
    have s3 : a.tmps[117]?.getD undef = (.int .i64 c.py) := hd 3 (by kernel_rfl)
    obtain ⟨⟨sq, hw, hst⟩, hbk⟩ := hI
    refine obl_callK rfl (wanted_none rfl) (by go_simp) (num_any c.py HFIT.out.py.1 HFIT.out.py.2 hw (by simp; have := HKL.out; have := numL_len' _ HFIT.out.pk; omega)) ?_
    rintro e w9 ⟨s9, rfl, hw9, hs9⟩
    exact ⟨_, rfl, _, rfl, rfl, WS.call hw hst hbk (by decide) (by decide) hw9 hs9 (by simp [List.take])⟩
   | 1, _ =>
    have s4 : a.tmps[118]?.getD undef = (ptr g) := hd 4 (by kernel_rfl)
    have s7 : a.tmps[121]?.getD undef = (.int .i64 c.px) := hd 7 (by kernel_rfl)
    obtain ⟨⟨sq, hw, hst⟩, hbk⟩ := hI
    refine obl_callK rfl (wanted_none rfl) (by go_simp) (num_any c.px HFIT.out.px.1 HFIT.out.px.2 hw (by simp; have := HKL.out; have := numL_len' _ HFIT.out.pk; have := numL_len' _ HFIT.out.py; omega)) ?_
    rintro e w9 ⟨s9, rfl, hw9, hs9⟩
    exact ⟨_, rfl, _, rfl, rfl, WS.call hw hst hbk (by decide) (by decide) hw9 hs9 (by simp [List.take])⟩
   | n + 2, h => exact absurd h (by simp)
  ·skip
   have hfr := grow_frame hc [(114, (ptr g)), (115, (.pointer (some ⟨b1, 10, none⟩))), (116, (.pointer (some ⟨b1, 11, none⟩))), (117, (.int .i64 c.py)), (118, (ptr g)), (119, (.pointer (some ⟨b1, 10, none⟩))), (120, (.pointer (some ⟨b1, 12, none⟩))), (121, (.int .i64 c.px)), (122, (ptr g))] (by kernel_rfl) (fun p hp => by
     simp only [List.mem_cons, List.not_mem_nil, or_false] at hp
     rcases hp with rfl | rfl | rfl | rfl | rfl | rfl | rfl | rfl | rfl
     ·exact hs 0 114 (by decide) (by kernel_rfl)
     ·exact hs 1 115 (by decide) (by kernel_rfl)
     ·exact hs 2 116 (by decide) (by kernel_rfl)
     ·exact hs 3 117 (by decide) (by kernel_rfl)
     ·exact hs 4 118 (by decide) (by kernel_rfl)
     ·exact hs 5 119 (by decide) (by kernel_rfl)
     ·exact hs 6 120 (by decide) (by kernel_rfl)
     ·exact hs 7 121 (by decide) (by kernel_rfl)
     ·exact hs 8 122 (by decide) (by kernel_rfl)
     )
   simp only [List.range, List.range.loop, List.size_toArray, List.length_cons, List.length_nil, List.map_cons, List.map_nil, List.lookup_cons, List.lookup_nil, Nat.reduceAdd, Nat.reduceBEq, Option.getD_some, Option.getD_none, List.getElem?_toArray, List.getElem?_cons_succ, List.getElem?_cons_zero] at hfr
   subst hfr
   have HWS2 := Lib.hid (show WS w8 g (numL c.kind) s b1 V 53 (([numL c.pk, numL c.py, numL c.px] : List (List UInt8)).flatten) w22 by simpa using hI)
   clear hc hs hI
   have hbo : bodyL c = ([numL c.pk, numL c.py, numL c.px] : List (List UInt8)).flatten := by rw [bodyL, if_neg (by rw [hk]; decide), if_neg (by rw [hk]; decide), if_neg (by rw [hk]; decide), if_neg (by rw [hk]; decide), if_neg (by rw [hk]; decide), if_neg (by rw [hk]; decide), if_neg (by rw [hk]; decide), if_neg (by rw [hk]; decide), if_pos (.inl hk)]
   obtain ⟨sz, hwz, hsz⟩ := HWS2.out.ex
   rw [← hbo] at hwz
   have hlen : (numL c.kind ++ bodyL c).length ≤ 2000000000 := by
    rw [List.length_append, hbo]
    simp only [List.flatten_cons, List.flatten_nil, List.length_append, List.length_nil]
    have := HKL.out; have := numL_len' _ HFIT.out.pk; have := numL_len' _ HFIT.out.py; have := numL_len' _ HFIT.out.px; omega
   have hby := bytes_any hwz hlen
   have HFB := Lib.hid (HB2.out.trans ((HC8.out.bl.trans (hsz.low HW8.out HG8.out)).mono HB2.out.size))
   clear hbo hwz hsz hlen
   go_wp2_with (go_at_call 67; (with_reducible refine hby.mono ?_); rintro e wz ⟨r, rfl, hoz, hbz⟩)
   go_ret2
   have hbf := HB1.out.trans (HFB.out.mono HB1.out.size)
   exact ⟨.inr ⟨HG.out, r, rfl, hoz.more hbf.size⟩, hbf.trans (hbz.mono hbf.size)⟩
set_option maxRecDepth 100000 in
set_option maxHeartbeats 16000000 in
theorem enc_k10 {w : World} {B : Nat} {v : Value} {c : Cm} (hv : CmV w B v c) (hB : B ≤ w.heap.size) (hl : c.doc.ls.length ≤ 100000) (hk : c.kind = 10) (hG : goodCB c = true) :
  Calls Try.prog 31 #[v] w (EncPost c w) := by
 obtain ⟨A0, m0, V, rfl, HV, HV2, HVI, HB1, HX1, HLS, HOK⟩ := cmd_pre hv hB
 clear hv
 have hgd := good_any (c := c) ⟨.slice A0 c.doc.ls.length m0, by rw [HV.out], HLS.out _ HB1.out, HOK.out⟩ (Nat.le_trans hB HB1.out.size) hl
 rw [hG] at hgd
 have HG := Lib.hid hG
 clear hG
 go_enter Try.func31, Try.ntmps31
 go_upto_region 1 with fail
 generalize World.alloc w _ = w1 at *
 generalize hb : w.heap.size = b1 at HX1 ⊢
 have HBB := Lib.hid hb
 clear hb
 have HXV := Lib.hid (loadV HX1.out HV.out)
 have hfit := good_fit HG.out
 have hbody : encL c = numL c.kind ++ bodyL c := rfl
 have HFIT := Lib.hid hfit
 have HCV := Lib.hid (show ∀ W, W.heap[b1]? = some (.cells V 53 (0, 0)) → CBox W b1 c (.slice A0 c.doc.ls.length m0) from fun W hW => CBlk.box (by unfold CBlk; rw [HV.out]; exact hW))
 clear hfit hbody
 go_upto_region 3 with (first
  | (with_reducible refine wpList_load_row rfl 53 (.tmp 1) rfl b1 rfl 53 V (0, 0) _ HXV.out Try.underlying53 rfl HVI.out ?_)
  | (go_at_call 26; (with_reducible refine hgd.mono ?_); rintro e w2 ⟨rfl, hb2⟩; have HB2 := Lib.hid hb2; clear hb2 hgd))
 have HC2 := Lib.hid (show CB w2 b1 V w2 from ⟨(HB2.out.block b1 (lt_of_blk HXV.out)).trans HXV.out, Below.refl _ _⟩)
 refine wp_region_chainP (by kernel_rfl) [none, some (.pointer (some ⟨b1, 0, none⟩)), some (.int .i64 c.kind), none, none] [0, 3, 4] (fun m x W => match m with | 0 => CB w2 b1 V W | 1 => ES w2 b1 V [] x W | _ => ES w2 b1 V (numL c.kind) x W) (by kernel_rfl) (by kernel_rfl) (by kernel_rfl) (by kernel_rfl) (fun m x W W' h hb => by match m, h with | 0, h => exact h.below hb | 1, h => exact h.below hb | n + 2, h => exact h.below hb) HC2.out (fun i hi hn m a W hc hI hd => ?_) (fun k hk a W hc hI hd => ?_) (fun a w8 hc hI hs => ?_)
 ·match i, hi, hn with
  | 0, _, hn => exact absurd hn (by decide)
  | 1, _, _ =>
   have z1 := hc.same 1 (by kernel_rfl)
   simp only [List.getElem?_toArray, List.getElem?_cons_succ, List.getElem?_cons_zero, Option.getD_some] at z1
   refine obl_val rfl (wanted_none rfl) ?_ rfl
   go_simp
  | 2, _, _ =>
   have s1 : a.tmps[9]?.getD undef = (.pointer (some ⟨b1, 0, none⟩)) := hd 1 (by kernel_rfl)
   have hbk : W.heap[b1]? = some (.cells V 53 (0, 0)) := by match m, hI with | 0, hI => exact hI.blk | 1, hI => exact hI.cb.blk | n + 2, hI => exact hI.cb.blk
   have c0 := (HCV.out W hbk).c0
   refine obl_val rfl (wanted_none rfl) ?_ rfl
   go_simp
  | 3, _, hn => exact absurd hn (by decide)
  | 4, _, hn => exact absurd hn (by decide)
  | n + 5, h, _ => exact absurd h (by simp)
 ·match k, hk with
  | 0, _ =>
   refine obl_callK rfl (wanted_none rfl) (by go_simp) (new_any W) ?_
   rintro e w9 ⟨rfl, hw9, hb9⟩
   exact ⟨_, rfl, _, rfl, trivial, ⟨_, _, rfl, hw9, hI.bl.size⟩, hI.below hb9⟩
  | 1, _ =>
   have s2 : a.tmps[10]?.getD undef = (.int .i64 c.kind) := hd 2 (by kernel_rfl)
   have hI : (fun m x W => match m with | 0 => CB w2 b1 V W | 1 => ES w2 b1 V [] x W | _ => ES w2 b1 V (numL c.kind) x W) 1 (a.tmps[8]?.getD undef) W := hI
   obtain ⟨⟨g, s, e, hw, hg⟩, hcb⟩ := hI
   refine obl_callK rfl (wanted_none rfl) (by go_simp) (num_any c.kind HFIT.out.kind.1 HFIT.out.kind.2 hw (by simp)) ?_
   rintro e w9 ⟨s9, rfl, hw9, hs9⟩
   exact ⟨_, rfl, _, rfl, trivial, ⟨_, _, rfl, hw9, hg⟩, hcb.step hw hg hs9⟩
  | 2, _ =>
   have hI : (fun m x W => match m with | 0 => CB w2 b1 V W | 1 => ES w2 b1 V [] x W | _ => ES w2 b1 V (numL c.kind) x W) 2 (a.tmps[11]?.getD undef) W := hI
   obtain ⟨⟨g, s, e, hw, hg⟩, hcb⟩ := hI
   refine obl_callV rfl (wanted_none rfl) (v := ptr g) (by go_simp) ⟨rfl, trivial, ⟨g, s, rfl, hw, hg⟩, hcb⟩
  | n + 3, h => exact absurd h (by simp)
 ·skip
  have hI' : (fun m x W => match m with | 0 => CB w2 b1 V W | 1 => ES w2 b1 V [] x W | _ => ES w2 b1 V (numL c.kind) x W) 3 (a.tmps[4]?.getD undef) w8 := hI
  have hfr := grow_frame hc [(8, a.tmps[8]?.getD undef), (9, (.pointer (some ⟨b1, 0, none⟩))), (10, (.int .i64 c.kind)), (11, a.tmps[11]?.getD undef), (4, a.tmps[4]?.getD undef)] (by kernel_rfl) (fun p hp => by
    simp only [List.mem_cons, List.not_mem_nil, or_false] at hp
    rcases hp with rfl | rfl | rfl | rfl | rfl
    ·rfl
    ·exact hs 1 9 (by decide) (by kernel_rfl)
    ·exact hs 2 10 (by decide) (by kernel_rfl)
    ·rfl
    ·rfl
    )
  generalize a.tmps[8]?.getD undef = z8 at hfr
  generalize a.tmps[11]?.getD undef = z11 at hfr
  generalize a.tmps[4]?.getD undef = z4 at hfr hI'
  simp only [List.range, List.range.loop, List.size_toArray, List.length_cons, List.length_nil, List.map_cons, List.map_nil, List.lookup_cons, List.lookup_nil, Nat.reduceAdd, Nat.reduceBEq, Option.getD_some, Option.getD_none, List.getElem?_toArray, List.getElem?_cons_succ, List.getElem?_cons_zero] at hfr
  subst hfr
  obtain ⟨⟨g, s, rfl, hw8, hg8⟩, hcb8⟩ := hI'
  have HW8 := Lib.hid hw8
  have HG8 := Lib.hid hg8
  have HC8 := Lib.hid hcb8
  clear hc hs hI hw8 hg8 hcb8
  have HWS0 := Lib.hid (show WS w8 g (numL c.kind) s b1 V 53 [] w8 from ⟨⟨s, by rw [List.append_nil]; exact HW8.out, Step.refl⟩, HC8.out.blk⟩)
  have HKL := Lib.hid (numL_len' _ HFIT.out.kind)
  have c0 := (HCV.out w8 HC8.out.blk).c0
  rw [hk] at c0
  obtain ⟨_, c1, c2, c3, c4, c5, c6, c7, c8, c9, c10, c11, c12, c13, c14, c15, c16, c17, c18, c19, c20, c21⟩ := HCV.out w8 HWS0.out.blk
  obtain ⟨sx, hwx, hsx⟩ := HWS0.out.ex
  have hcl := num_any c.pk HFIT.out.pk.1 HFIT.out.pk.2 hwx (by simp; have := HKL.out; omega)
  go_upto_region 25 with (go_at_call 64; (with_reducible refine hcl.mono ?_); rintro e w21 ⟨s9, rfl, hw9, hs9⟩)
  have HWS1 := Lib.hid (WS.call hwx hsx HWS0.out.blk (by decide) (by decide) hw9 hs9 (l' := ([numL c.pk] : List (List UInt8)).flatten) (by simp))
  clear hcl hwx hsx hw9 hs9 c1 c2 c3 c4 c5 c6 c7 c8 c9 c10 c11 c12 c13 c14 c15 c16 c17 c18 c19 c20 c21
  go_upto_region 25 with fail
  have HWT := Lib.hid (show WS w8 g (numL c.kind) s b1 V 53 (([numL c.pk] : List (List UInt8)).flatten ++ (([numL c.py, numL c.px] : List (List UInt8)).take 0).flatten) w21 by simpa using HWS1.out)
  refine wp_region_chain (by kernel_rfl) [ptr g, .pointer (some ⟨b1, 10, none⟩), .pointer (some ⟨b1, 11, none⟩), .int .i64 c.py, ptr g, .pointer (some ⟨b1, 10, none⟩), .pointer (some ⟨b1, 12, none⟩), .int .i64 c.px, ptr g] [4, 8] (fun k W => WS w8 g (numL c.kind) s b1 V 53 (([numL c.pk] : List (List UInt8)).flatten ++ (([numL c.py, numL c.px] : List (List UInt8)).take k).flatten) W) (by kernel_rfl) (by kernel_rfl) (by kernel_rfl) (fun m W W' h hb => h.below hb) HWT.out (fun i hi hn m a W hc hI hd => ?_) (fun k hk a W hc hI hd => ?_) (fun a w22 hc hI hs => ?_)
  ·match i, hi, hn with
   | 0, _, _ =>
    have z4 := hc.same 4 (by kernel_rfl)
    simp only [List.getElem?_toArray, List.getElem?_cons_succ, List.getElem?_cons_zero, Option.getD_some] at z4
    refine obl_val rfl (wanted_none rfl) ?_ rfl
    go_simp
   | 1, _, _ =>
    have z1 := hc.same 1 (by kernel_rfl)
    simp only [List.getElem?_toArray, List.getElem?_cons_succ, List.getElem?_cons_zero, Option.getD_some] at z1
    refine obl_val rfl (wanted_none rfl) ?_ rfl
    go_simp
   | 2, _, _ =>
    have s1 : a.tmps[115]?.getD undef = (.pointer (some ⟨b1, 10, none⟩)) := hd 1 (by kernel_rfl)
    refine obl_val rfl (wanted_none rfl) ?_ rfl
    go_simp
   | 3, _, _ =>
    have s2 : a.tmps[116]?.getD undef = (.pointer (some ⟨b1, 11, none⟩)) := hd 2 (by kernel_rfl)
    obtain ⟨c0, c1, c2, c3, c4, c5, c6, c7, c8, c9, c10, c11, c12, c13, c14, c15, c16, c17, c18, c19, c20, c21⟩ := HCV.out W hI.blk
    refine obl_val rfl (wanted_none rfl) ?_ rfl
    go_simp
   | 4, _, hn => exact absurd hn (by decide)
   | 5, _, _ =>
    have z1 := hc.same 1 (by kernel_rfl)
    simp only [List.getElem?_toArray, List.getElem?_cons_succ, List.getElem?_cons_zero, Option.getD_some] at z1
    refine obl_val rfl (wanted_none rfl) ?_ rfl
    go_simp
   | 6, _, _ =>
    have s5 : a.tmps[119]?.getD undef = (.pointer (some ⟨b1, 10, none⟩)) := hd 5 (by kernel_rfl)
    refine obl_val rfl (wanted_none rfl) ?_ rfl
    go_simp
   | 7, _, _ =>
    have s6 : a.tmps[120]?.getD undef = (.pointer (some ⟨b1, 12, none⟩)) := hd 6 (by kernel_rfl)
    obtain ⟨c0, c1, c2, c3, c4, c5, c6, c7, c8, c9, c10, c11, c12, c13, c14, c15, c16, c17, c18, c19, c20, c21⟩ := HCV.out W hI.blk
    refine obl_val rfl (wanted_none rfl) ?_ rfl
    go_simp
   | 8, _, hn => exact absurd hn (by decide)
   | n + 9, h, _ => exact absurd h (by simp)
  ·match k, hk with
   | 0, _ =>
    have s0 : a.tmps[114]?.getD undef = (ptr g) := hd 0 (by kernel_rfl)
    have s3 : a.tmps[117]?.getD undef = (.int .i64 c.py) := hd 3 (by kernel_rfl)
    obtain ⟨⟨sq, hw, hst⟩, hbk⟩ := hI
    refine obl_callK rfl (wanted_none rfl) (by go_simp) (num_any c.py HFIT.out.py.1 HFIT.out.py.2 hw (by simp; have := HKL.out; have := numL_len' _ HFIT.out.pk; omega)) ?_
    rintro e w9 ⟨s9, rfl, hw9, hs9⟩
    exact ⟨_, rfl, _, rfl, rfl, WS.call hw hst hbk (by decide) (by decide) hw9 hs9 (by simp [List.take])⟩
   | 1, _ =>
    have s4 : a.tmps[118]?.getD undef = (ptr g) := hd 4 (by kernel_rfl)
    have s7 : a.tmps[121]?.getD undef = (.int .i64 c.px) := hd 7 (by kernel_rfl)
    obtain ⟨⟨sq, hw, hst⟩, hbk⟩ := hI
    refine obl_callK rfl (wanted_none rfl) (by go_simp) (num_any c.px HFIT.out.px.1 HFIT.out.px.2 hw (by simp; have := HKL.out; have := numL_len' _ HFIT.out.pk; have := numL_len' _ HFIT.out.py; omega)) ?_
    rintro e w9 ⟨s9, rfl, hw9, hs9⟩
    exact ⟨_, rfl, _, rfl, rfl, WS.call hw hst hbk (by decide) (by decide) hw9 hs9 (by simp [List.take])⟩
   | n + 2, h => exact absurd h (by simp)
  ·skip
   have hfr := grow_frame hc [(114, (ptr g)), (115, (.pointer (some ⟨b1, 10, none⟩))), (116, (.pointer (some ⟨b1, 11, none⟩))), (117, (.int .i64 c.py)), (118, (ptr g)), (119, (.pointer (some ⟨b1, 10, none⟩))), (120, (.pointer (some ⟨b1, 12, none⟩))), (121, (.int .i64 c.px)), (122, (ptr g))] (by kernel_rfl) (fun p hp => by
     simp only [List.mem_cons, List.not_mem_nil, or_false] at hp
     rcases hp with rfl | rfl | rfl | rfl | rfl | rfl | rfl | rfl | rfl
     ·exact hs 0 114 (by decide) (by kernel_rfl)
     ·exact hs 1 115 (by decide) (by kernel_rfl)
     ·exact hs 2 116 (by decide) (by kernel_rfl)
     ·exact hs 3 117 (by decide) (by kernel_rfl)
     ·exact hs 4 118 (by decide) (by kernel_rfl)
     ·exact hs 5 119 (by decide) (by kernel_rfl)
     ·exact hs 6 120 (by decide) (by kernel_rfl)
     ·exact hs 7 121 (by decide) (by kernel_rfl)
     ·exact hs 8 122 (by decide) (by kernel_rfl)
     )
   simp only [List.range, List.range.loop, List.size_toArray, List.length_cons, List.length_nil, List.map_cons, List.map_nil, List.lookup_cons, List.lookup_nil, Nat.reduceAdd, Nat.reduceBEq, Option.getD_some, Option.getD_none, List.getElem?_toArray, List.getElem?_cons_succ, List.getElem?_cons_zero] at hfr
   subst hfr
   have HWS2 := Lib.hid (show WS w8 g (numL c.kind) s b1 V 53 (([numL c.pk, numL c.py, numL c.px] : List (List UInt8)).flatten) w22 by simpa using hI)
   clear hc hs hI
   have hbo : bodyL c = ([numL c.pk, numL c.py, numL c.px] : List (List UInt8)).flatten := by rw [bodyL, if_neg (by rw [hk]; decide), if_neg (by rw [hk]; decide), if_neg (by rw [hk]; decide), if_neg (by rw [hk]; decide), if_neg (by rw [hk]; decide), if_neg (by rw [hk]; decide), if_neg (by rw [hk]; decide), if_neg (by rw [hk]; decide), if_pos (.inr hk)]
   obtain ⟨sz, hwz, hsz⟩ := HWS2.out.ex
   rw [← hbo] at hwz
   have hlen : (numL c.kind ++ bodyL c).length ≤ 2000000000 := by
    rw [List.length_append, hbo]
    simp only [List.flatten_cons, List.flatten_nil, List.length_append, List.length_nil]
    have := HKL.out; have := numL_len' _ HFIT.out.pk; have := numL_len' _ HFIT.out.py; have := numL_len' _ HFIT.out.px; omega
   have hby := bytes_any hwz hlen
   have HFB := Lib.hid (HB2.out.trans ((HC8.out.bl.trans (hsz.low HW8.out HG8.out)).mono HB2.out.size))
   clear hbo hwz hsz hlen
   go_wp2_with (go_at_call 67; (with_reducible refine hby.mono ?_); rintro e wz ⟨r, rfl, hoz, hbz⟩)
   go_ret2
   have hbf := HB1.out.trans (HFB.out.mono HB1.out.size)
   exact ⟨.inr ⟨HG.out, r, rfl, hoz.more hbf.size⟩, hbf.trans (hbz.mono hbf.size)⟩
set_option maxRecDepth 100000 in
set_option maxHeartbeats 16000000 in
theorem enc_k11 {w : World} {B : Nat} {v : Value} {c : Cm} (hv : CmV w B v c) (hB : B ≤ w.heap.size) (hl : c.doc.ls.length ≤ 100000) (hk : c.kind = 11) (hG : goodCB c = true) :
  Calls Try.prog 31 #[v] w (EncPost c w) := by
 obtain ⟨A0, m0, V, rfl, HV, HV2, HVI, HB1, HX1, HLS, HOK⟩ := cmd_pre hv hB
 clear hv
 have hgd := good_any (c := c) ⟨.slice A0 c.doc.ls.length m0, by rw [HV.out], HLS.out _ HB1.out, HOK.out⟩ (Nat.le_trans hB HB1.out.size) hl
 rw [hG] at hgd
 have HG := Lib.hid hG
 clear hG
 go_enter Try.func31, Try.ntmps31
 go_upto_region 1 with fail
 generalize World.alloc w _ = w1 at *
 generalize hb : w.heap.size = b1 at HX1 ⊢
 have HBB := Lib.hid hb
 clear hb
 have HXV := Lib.hid (loadV HX1.out HV.out)
 have hfit := good_fit HG.out
 have hbody : encL c = numL c.kind ++ bodyL c := rfl
 have HFIT := Lib.hid hfit
 have HCV := Lib.hid (show ∀ W, W.heap[b1]? = some (.cells V 53 (0, 0)) → CBox W b1 c (.slice A0 c.doc.ls.length m0) from fun W hW => CBlk.box (by unfold CBlk; rw [HV.out]; exact hW))
 clear hfit hbody
 go_upto_region 3 with (first
  | (with_reducible refine wpList_load_row rfl 53 (.tmp 1) rfl b1 rfl 53 V (0, 0) _ HXV.out Try.underlying53 rfl HVI.out ?_)
  | (go_at_call 26; (with_reducible refine hgd.mono ?_); rintro e w2 ⟨rfl, hb2⟩; have HB2 := Lib.hid hb2; clear hb2 hgd))
 have HC2 := Lib.hid (show CB w2 b1 V w2 from ⟨(HB2.out.block b1 (lt_of_blk HXV.out)).trans HXV.out, Below.refl _ _⟩)
 refine wp_region_chainP (by kernel_rfl) [none, some (.pointer (some ⟨b1, 0, none⟩)), some (.int .i64 c.kind), none, none] [0, 3, 4] (fun m x W => match m with | 0 => CB w2 b1 V W | 1 => ES w2 b1 V [] x W | _ => ES w2 b1 V (numL c.kind) x W) (by kernel_rfl) (by kernel_rfl) (by kernel_rfl) (by kernel_rfl) (fun m x W W' h hb => by match m, h with | 0, h => exact h.below hb | 1, h => exact h.below hb | n + 2, h => exact h.below hb) HC2.out (fun i hi hn m a W hc hI hd => ?_) (fun k hk a W hc hI hd => ?_) (fun a w8 hc hI hs => ?_)
 ·match i, hi, hn with
  | 0, _, hn => exact absurd hn (by decide)
  | 1, _, _ =>
   have z1 := hc.same 1 (by kernel_rfl)
   simp only [List.getElem?_toArray, List.getElem?_cons_succ, List.getElem?_cons_zero, Option.getD_some] at z1
   refine obl_val rfl (wanted_none rfl) ?_ rfl
   go_simp
  | 2, _, _ =>
   have s1 : a.tmps[9]?.getD undef = (.pointer (some ⟨b1, 0, none⟩)) := hd 1 (by kernel_rfl)
   have hbk : W.heap[b1]? = some (.cells V 53 (0, 0)) := by match m, hI with | 0, hI => exact hI.blk | 1, hI => exact hI.cb.blk | n + 2, hI => exact hI.cb.blk
   have c0 := (HCV.out W hbk).c0
   refine obl_val rfl (wanted_none rfl) ?_ rfl
   go_simp
  | 3, _, hn => exact absurd hn (by decide)
  | 4, _, hn => exact absurd hn (by decide)
  | n + 5, h, _ => exact absurd h (by simp)
 ·match k, hk with
  | 0, _ =>
   refine obl_callK rfl (wanted_none rfl) (by go_simp) (new_any W) ?_
   rintro e w9 ⟨rfl, hw9, hb9⟩
   exact ⟨_, rfl, _, rfl, trivial, ⟨_, _, rfl, hw9, hI.bl.size⟩, hI.below hb9⟩
  | 1, _ =>
   have s2 : a.tmps[10]?.getD undef = (.int .i64 c.kind) := hd 2 (by kernel_rfl)
   have hI : (fun m x W => match m with | 0 => CB w2 b1 V W | 1 => ES w2 b1 V [] x W | _ => ES w2 b1 V (numL c.kind) x W) 1 (a.tmps[8]?.getD undef) W := hI
   obtain ⟨⟨g, s, e, hw, hg⟩, hcb⟩ := hI
   refine obl_callK rfl (wanted_none rfl) (by go_simp) (num_any c.kind HFIT.out.kind.1 HFIT.out.kind.2 hw (by simp)) ?_
   rintro e w9 ⟨s9, rfl, hw9, hs9⟩
   exact ⟨_, rfl, _, rfl, trivial, ⟨_, _, rfl, hw9, hg⟩, hcb.step hw hg hs9⟩
  | 2, _ =>
   have hI : (fun m x W => match m with | 0 => CB w2 b1 V W | 1 => ES w2 b1 V [] x W | _ => ES w2 b1 V (numL c.kind) x W) 2 (a.tmps[11]?.getD undef) W := hI
   obtain ⟨⟨g, s, e, hw, hg⟩, hcb⟩ := hI
   refine obl_callV rfl (wanted_none rfl) (v := ptr g) (by go_simp) ⟨rfl, trivial, ⟨g, s, rfl, hw, hg⟩, hcb⟩
  | n + 3, h => exact absurd h (by simp)
 ·skip
  have hI' : (fun m x W => match m with | 0 => CB w2 b1 V W | 1 => ES w2 b1 V [] x W | _ => ES w2 b1 V (numL c.kind) x W) 3 (a.tmps[4]?.getD undef) w8 := hI
  have hfr := grow_frame hc [(8, a.tmps[8]?.getD undef), (9, (.pointer (some ⟨b1, 0, none⟩))), (10, (.int .i64 c.kind)), (11, a.tmps[11]?.getD undef), (4, a.tmps[4]?.getD undef)] (by kernel_rfl) (fun p hp => by
    simp only [List.mem_cons, List.not_mem_nil, or_false] at hp
    rcases hp with rfl | rfl | rfl | rfl | rfl
    ·rfl
    ·exact hs 1 9 (by decide) (by kernel_rfl)
    ·exact hs 2 10 (by decide) (by kernel_rfl)
    ·rfl
    ·rfl
    )
  generalize a.tmps[8]?.getD undef = z8 at hfr
  generalize a.tmps[11]?.getD undef = z11 at hfr
  generalize a.tmps[4]?.getD undef = z4 at hfr hI'
  simp only [List.range, List.range.loop, List.size_toArray, List.length_cons, List.length_nil, List.map_cons, List.map_nil, List.lookup_cons, List.lookup_nil, Nat.reduceAdd, Nat.reduceBEq, Option.getD_some, Option.getD_none, List.getElem?_toArray, List.getElem?_cons_succ, List.getElem?_cons_zero] at hfr
  subst hfr
  obtain ⟨⟨g, s, rfl, hw8, hg8⟩, hcb8⟩ := hI'
  have HW8 := Lib.hid hw8
  have HG8 := Lib.hid hg8
  have HC8 := Lib.hid hcb8
  clear hc hs hI hw8 hg8 hcb8
  have HWS0 := Lib.hid (show WS w8 g (numL c.kind) s b1 V 53 [] w8 from ⟨⟨s, by rw [List.append_nil]; exact HW8.out, Step.refl⟩, HC8.out.blk⟩)
  have HKL := Lib.hid (numL_len' _ HFIT.out.kind)
  have c0 := (HCV.out w8 HC8.out.blk).c0
  rw [hk] at c0
  obtain ⟨_, c1, c2, c3, c4, c5, c6, c7, c8, c9, c10, c11, c12, c13, c14, c15, c16, c17, c18, c19, c20, c21⟩ := HCV.out w8 HWS0.out.blk
  obtain ⟨sx, hwx, hsx⟩ := HWS0.out.ex
  have hcl := num_any c.py HFIT.out.py.1 HFIT.out.py.2 hwx (by simp; have := HKL.out; omega)
  go_upto_region 27 with (go_at_call 64; (with_reducible refine hcl.mono ?_); rintro e w21 ⟨s9, rfl, hw9, hs9⟩)
  have HWS1 := Lib.hid (WS.call hwx hsx HWS0.out.blk (by decide) (by decide) hw9 hs9 (l' := ([numL c.py] : List (List UInt8)).flatten) (by simp))
  clear hcl hwx hsx hw9 hs9 c1 c2 c3 c4 c5 c6 c7 c8 c9 c10 c11 c12 c13 c14 c15 c16 c17 c18 c19 c20 c21
  have hbo : bodyL c = ([numL c.py] : List (List UInt8)).flatten := by rw [bodyL, if_neg (by rw [hk]; decide), if_neg (by rw [hk]; decide), if_neg (by rw [hk]; decide), if_neg (by rw [hk]; decide), if_neg (by rw [hk]; decide), if_neg (by rw [hk]; decide), if_neg (by rw [hk]; decide), if_neg (by rw [hk]; decide), if_neg (by rw [hk]; decide), if_pos hk]
  obtain ⟨sz, hwz, hsz⟩ := HWS1.out.ex
  rw [← hbo] at hwz
  have hlen : (numL c.kind ++ bodyL c).length ≤ 2000000000 := by
   rw [List.length_append, hbo]
   simp only [List.flatten_cons, List.flatten_nil, List.length_append, List.length_nil]
   have := HKL.out; have := numL_len' _ HFIT.out.py; omega
  have hby := bytes_any hwz hlen
  have HFB := Lib.hid (HB2.out.trans ((HC8.out.bl.trans (hsz.low HW8.out HG8.out)).mono HB2.out.size))
  clear hbo hwz hsz hlen
  go_wp2_with (go_at_call 67; (with_reducible refine hby.mono ?_); rintro e wz ⟨r, rfl, hoz, hbz⟩)
  go_ret2
  have hbf := HB1.out.trans (HFB.out.mono HB1.out.size)
  exact ⟨.inr ⟨HG.out, r, rfl, hoz.more hbf.size⟩, hbf.trans (hbz.mono hbf.size)⟩
theorem encode_any {w : World} {B : Nat} {v : Value} {c : Cm} (hv : CmV w B v c) (hB : B ≤ w.heap.size) (hl : c.doc.ls.length ≤ 100000) : Calls Try.prog 31 #[v] w (EncPost c w) := by
 cases hG : goodCB c
 ·exact enc_bad hv hB hl hG
 by_cases h1 : c.kind = 1
 ·exact enc_k1 hv hB hl h1 hG
 by_cases h2 : c.kind = 2
 ·exact enc_k2 hv hB hl h2 hG
 by_cases h3 : c.kind = 3
 ·exact enc_k3 hv hB hl h3 hG
 by_cases h4 : c.kind = 4
 ·exact enc_k4 hv hB hl h4 hG
 by_cases h5 : c.kind = 5
 ·exact enc_k5 hv hB hl h5 hG
 by_cases h6 : c.kind = 6
 ·exact enc_k6 hv hB hl h6 hG
 by_cases h7 : c.kind = 7
 ·exact enc_k7 hv hB hl h7 hG
 by_cases h8 : c.kind = 8
 ·exact enc_k8 hv hB hl h8 hG
 by_cases h9 : c.kind = 9
 ·exact enc_k9 hv hB hl h9 hG
 by_cases h10 : c.kind = 10
 ·exact enc_k10 hv hB hl h10 hG
 by_cases h11 : c.kind = 11
 ·exact enc_k11 hv hB hl h11 hG
 have hk := (good_kind hG).1
 unfold kindB at hk
 simp [h1, h2, h3, h4, h5, h6, h7, h8, h9, h10, h11] at hk
end Go.Proofs.Ytnfpmobmfcgfnaa

