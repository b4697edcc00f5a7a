/- THE WALKS OF octroiref08's num, text, flag AND doc (printed by gen/genrdo.py). -/
import Derived.Test.YtnfpmobmfcgfnaaReK
import Derived.Test.YtnfpmobmfcgfnaaPf
namespace Go.Proofs.Ytnfpmobmfcgfnaa
open Go.RowKit
/-- what an append onto a text of bytes turns -/
structure AStep (w w' : World) (v v' : Value) : Prop where
 kept : Kept (fun k => v.ownBlock ≠ some k) w w'
 row : ∀ k, v'.ownBlock = some k → v.ownBlock = some k ∨ w.heap.size ≤ k
theorem AStep.refl (w : World) (v : Value) : AStep w w v v := ⟨Kept.refl _ _, fun _ h => .inl h⟩
theorem AStep.trans {w w' w'' : World} {v v' v'' : Value} (h : AStep w w' v v') (k : AStep w' w'' v' v'') : AStep w w'' v v'' := by
 refine ⟨h.kept.trans k.kept fun b hb hS e => ?_, fun b hb => ?_⟩
 ·rcases h.row b e with h1 | h1
  ·exact hS h1
  ·omega
 ·rcases k.row b hb with h1 | h1
  ·exact h.row b h1
  ·have := h.kept.size; exact .inr (by omega)
theorem AStep.ofBelow {w w' : World} {v : Value} (k : Below w.heap.size w w') : AStep w w' v v := ⟨Kept.ofBelow k, fun _ h => .inl h⟩
theorem AStep.low {w w' : World} {base B : Nat} {v v' : Value} {l : List UInt8} (h : Own w base v l) (k : AStep w w' v v') (hB : B ≤ base) (hw : B ≤ w.heap.size) : Below B w w' :=
 k.kept.toBelow hw (fun b hb e => by have := h.lt b e; omega)
def BPost (w : World) (base : Nat) (v : Value) (l : List UInt8) (e : Ending) (w' : World) : Prop := ∃ v', e = .returned v' ∧ Own w' base v' l ∧ AStep w w' v v'
section
variable {w : World} {base : Nat} {bv : Value} {l : List UInt8}
set_option maxRecDepth 100000 in
set_option maxHeartbeats 4000000 in
theorem bnum_any (ho : Own w base bv l) (hb : base ≤ w.heap.size) (n : Int) (h1 : -9223372036854775808 < n) (h2 : n ≤ 9223372036854775807) (hl : l.length ≤ 900000000) : Calls Try.prog 68 #[bv, .int .i64 n] w (BPost w base bv (l ++ numL n)) := by
 have hc := rnum_any (w := w) n h1 h2
 have HO := Lib.hid ho
 clear ho
 go_enter Try.func68, Try.ntmps68
 go_wp2_with (first
  | (go_at_call 97; (with_reducible refine hc.mono ?_); rintro e w1 ⟨r, rfl, hor, hb1⟩; have HB := Lib.hid hb1; have HO1 := Lib.hid (HO.out.below hb1); have HR := Lib.hid hor.byt; clear hor hb1 hc)
  | ((with_reducible show wpList _ _ _ (⟨some 14, _, _, _, _, _⟩ :: _) _ _); go_must (refine wpList_append_byt _ rfl (.tmp 12) (.tmp 13) rfl base _ l rfl HO1.out _ _ _ rfl HR.out (by have := numL_len' n ⟨h1, h2⟩; omega) (Nat.le_trans hb HB.out.size) ?_); intro v' w2 hown hg hat; have HOW := Lib.hid hown; have HGR := Lib.hid hg; have HAT := Lib.hid hat; clear hown hg hat))
 go_ret
 refine ⟨v', rfl, HOW.out, ⟨(Kept.ofBelow HB.out).grown HGR.out (fun k hk _ hS => hS hk), fun k hk => ?_⟩⟩
 rcases HAT.out with e | e
 ·rw [e] at hk; exact .inl hk
 ·rw [e] at hk; cases hk; exact .inr HB.out.size
set_option maxRecDepth 100000 in
set_option maxHeartbeats 4000000 in
theorem btext_any (ho : Own w base bv l) (hb : base ≤ w.heap.size) (t : ByteArray) (ht : t.size ≤ 65536) (hl : l.length ≤ 900000000) : Calls Try.prog 69 #[bv, .string t] w (BPost w base bv (l ++ textL t)) := by
 have hc := rtext_any (w := w) t ht
 have HO := Lib.hid ho
 clear ho
 go_enter Try.func69, Try.ntmps69
 go_wp2_with (first
  | (go_at_call 98; (with_reducible refine hc.mono ?_); rintro e w1 ⟨r, rfl, hor, hb1⟩; have HB := Lib.hid hb1; have HO1 := Lib.hid (HO.out.below hb1); have HR := Lib.hid hor.byt; clear hor hb1 hc)
  | ((with_reducible show wpList _ _ _ (⟨some 14, _, _, _, _, _⟩ :: _) _ _); go_must (refine wpList_append_byt _ rfl (.tmp 12) (.tmp 13) rfl base _ l rfl HO1.out _ _ _ rfl HR.out (by have := textL_len t ht; omega) (Nat.le_trans hb HB.out.size) ?_); intro v' w2 hown hg hat; have HOW := Lib.hid hown; have HGR := Lib.hid hg; have HAT := Lib.hid hat; clear hown hg hat))
 go_ret
 refine ⟨v', rfl, HOW.out, ⟨(Kept.ofBelow HB.out).grown HGR.out (fun k hk _ hS => hS hk), fun k hk => ?_⟩⟩
 rcases HAT.out with e | e
 ·rw [e] at hk; exact .inl hk
 ·rw [e] at hk; cases hk; exact .inr HB.out.size
set_option maxRecDepth 100000 in
set_option maxHeartbeats 4000000 in
theorem bflag_any (ho : Own w base bv l) (hb : base ≤ w.heap.size) (b : Bool) (hl : l.length ≤ 900000000) : Calls Try.prog 99 #[bv, .bool b] w (BPost w base bv (l ++ flagL b)) := by
 have hc := rflag_any (w := w) b
 have HO := Lib.hid ho
 clear ho
 go_enter Try.func99, Try.ntmps99
 go_wp2_with (first
  | (go_at_call 113; (with_reducible refine hc.mono ?_); rintro e w1 ⟨r, rfl, hor, hb1⟩; have HB := Lib.hid hb1; have HO1 := Lib.hid (HO.out.below hb1); have HR := Lib.hid hor.byt; clear hor hb1 hc)
  | ((with_reducible show wpList _ _ _ (⟨some 8, _, _, _, _, _⟩ :: _) _ _); go_must (refine wpList_append_byt _ rfl (.tmp 5) (.tmp 7) rfl base _ l rfl HO1.out _ _ _ rfl HR.out (by rw [flagL_len]; omega) (Nat.le_trans hb HB.out.size) ?_); intro v' w2 hown hg hat; have HOW := Lib.hid hown; have HGR := Lib.hid hg; have HAT := Lib.hid hat; clear hown hg hat))
 go_ret
 refine ⟨v', rfl, HOW.out, ⟨(Kept.ofBelow HB.out).grown HGR.out (fun k hk _ hS => hS hk), fun k hk => ?_⟩⟩
 rcases HAT.out with e | e
 ·rw [e] at hk; exact .inl hk
 ·rw [e] at hk; cases hk; exact .inr HB.out.size
end
/-- the text of bytes, on its way, beside a block -/
structure DS (w0 : World) (v0 : Value) (base b : Nat) (cs : Array Value) (t : TypeId) (l : List UInt8) (v : Value) (W : World) : Prop where
 own : Own W base v l
 st : AStep w0 W v0 v
 blk : W.heap[b]? = some (.cells cs t (0, 0))
 le : base ≤ W.heap.size
theorem DS.below {w0 W W' : World} {v0 v : Value} {base b : Nat} {cs : Array Value} {t : TypeId} {l : List UInt8} (h : DS w0 v0 base b cs t l v W) (k : Below W.heap.size W W') : DS w0 v0 base b cs t l v W' :=
 ⟨h.own.below k, h.st.trans (AStep.ofBelow k), (k.block b (lt_of_blk h.blk)).trans h.blk, Nat.le_trans h.le k.size⟩
theorem DS.call {w0 W W' : World} {v0 v v' : Value} {base b : Nat} {cs : Array Value} {t : TypeId} {l l' : List UInt8} (h : DS w0 v0 base b cs t l v W) (ht : t ≠ 5) (ho : Own W' base v' l') (hs : AStep W W' v v') : DS w0 v0 base b cs t l' v' W' :=
 ⟨ho, h.st.trans hs, hs.kept.heap h.blk (h.own.apart h.blk ht), Nat.le_trans h.le hs.kept.size⟩
set_option maxRecDepth 100000 in
set_option maxHeartbeats 16000000 in
theorem rdoc_any {w : World} {base B : Nat} {bv : Value} {l : List UInt8} (ho : Own w base bv l) (hb : base ≤ w.heap.size) (hl : l.length ≤ 100000) {d : Dm} {lv : Value} (hls : Lns w B lv d.ls) (hB : B ≤ base) (hfit : d.fit) :
  Calls Try.prog 70 #[bv, .agg (d.vs lv)] w (BPost w base bv (l ++ docL d)) := by
 obtain ⟨A0, m0, rfl, hm0, hm1⟩ := hls.form
 have hal := (Below.refl w.heap.size w).alloc (Nat.le_refl _) (.cells (d.vs (.slice A0 d.ls.length m0)) 25)
 have HO := Lib.hid ho
 have HD0 := Lib.hid (show DS w bv base w.heap.size (d.vs (.slice A0 d.ls.length m0)) 25 l bv (w.alloc (.cells (d.vs (.slice A0 d.ls.length m0)) 25)) from ⟨ho.below hal, AStep.ofBelow hal, heap_alloc_new w (.cells (d.vs (.slice A0 d.ls.length m0)) 25 (0, 0)), Nat.le_trans hb hal.size⟩)
 have HLS := Lib.hid hls
 have HFIT := Lib.hid hfit
 have HLL := Lib.hid hl
 have hdl : ((docB d).flatten).length ≤ 600000 := Nat.le_trans (flat_len _ _ (docB_len hfit)) (by simp [docB])
 have HDL := Lib.hid hdl
 have HDV := Lib.hid (show ∀ W, W.heap[w.heap.size]? = some (.cells (d.vs (.slice A0 d.ls.length m0)) 25 (0, 0)) → DBox W w.heap.size d (.slice A0 d.ls.length m0) from fun W hW => DBlk.box hW)
 clear ho hls hfit hl hal hdl
 generalize hV : d.vs (.slice A0 d.ls.length m0) = V at *
 generalize hbb : w.heap.size = b1 at HD0 HDV ⊢
 clear hV
 go_enter Try.func70, Try.ntmps70
 go_upto_region 1 with fail
 generalize World.alloc w _ = w1 at *
 have HLN := Lib.hid (show ∀ k, k ≤ 9 → (l ++ ((docB d).take k).flatten).length ≤ 900000000 from fun k _ => by
  have h1 := take_len (docB d) k
  have := HLL.out
  have := HDL.out
  rw [List.length_append]
  omega)
 have HD0 := Lib.hid (show DS w bv base b1 V 25 (l ++ ((docB d).take 0).flatten) bv w1 by simpa using HD0.out)
 have q0 := btext_any HD0.out.own HD0.out.le d.id HFIT.out.id (HLN.out 0 (by decide))
 obtain ⟨c0, c1, c2, c3, c4, c5, c6, c7, c8⟩ := HDV.out w1 HD0.out.blk
 go_upto_region 10 with (first
  | (go_at_call 69; (with_reducible refine q0.mono ?_); rintro e wd1 ⟨vd1, rfl, hox, hsx⟩; have HD1 := Lib.hid (HD0.out.call (l' := l ++ ((docB d).take 1).flatten) (by decide) (by simpa [docB] using hox) hsx); clear q0 hox hsx c0 c1 c2 c3 c4 c5 c6 c7 c8; obtain ⟨c0, c1, c2, c3, c4, c5, c6, c7, c8⟩ := HDV.out wd1 HD1.out.blk; have q1 := bflag_any HD1.out.own HD1.out.le d.sale (HLN.out 1 (by decide)))
  | (go_at_call 99; (with_reducible refine q1.mono ?_); rintro e wd2 ⟨vd2, rfl, hox, hsx⟩; have HD2 := Lib.hid (HD1.out.call (l' := l ++ ((docB d).take 2).flatten) (by decide) (by simpa [docB] using hox) hsx); clear q1 hox hsx c0 c1 c2 c3 c4 c5 c6 c7 c8; obtain ⟨c0, c1, c2, c3, c4, c5, c6, c7, c8⟩ := HDV.out wd2 HD2.out.blk; have q2 := bflag_any HD2.out.own HD2.out.le d.cred (HLN.out 2 (by decide)))
  | (go_at_call 99; (with_reducible refine q2.mono ?_); rintro e wd3 ⟨vd3, rfl, hox, hsx⟩; have HD3 := Lib.hid (HD2.out.call (l' := l ++ ((docB d).take 3).flatten) (by decide) (by simpa [docB] using hox) hsx); clear q2 hox hsx c0 c1 c2 c3 c4 c5 c6 c7 c8; obtain ⟨c0, c1, c2, c3, c4, c5, c6, c7, c8⟩ := HDV.out wd3 HD3.out.blk; have q3 := btext_any HD3.out.own HD3.out.le d.ref HFIT.out.ref (HLN.out 3 (by decide)))
  | (go_at_call 69; (with_reducible refine q3.mono ?_); rintro e wd4 ⟨vd4, rfl, hox, hsx⟩; have HD4 := Lib.hid (HD3.out.call (l' := l ++ ((docB d).take 4).flatten) (by decide) (by simpa [docB] using hox) hsx); clear q3 hox hsx c0 c1 c2 c3 c4 c5 c6 c7 c8; obtain ⟨c0, c1, c2, c3, c4, c5, c6, c7, c8⟩ := HDV.out wd4 HD4.out.blk; have q4 := bnum_any HD4.out.own HD4.out.le d.day HFIT.out.day.1 HFIT.out.day.2 (HLN.out 4 (by decide)))
  | (go_at_call 68; (with_reducible refine q4.mono ?_); rintro e wd5 ⟨vd5, rfl, hox, hsx⟩; have HD5 := Lib.hid (HD4.out.call (l' := l ++ ((docB d).take 5).flatten) (by decide) (by simpa [docB] using hox) hsx); clear q4 hox hsx c0 c1 c2 c3 c4 c5 c6 c7 c8; obtain ⟨c0, c1, c2, c3, c4, c5, c6, c7, c8⟩ := HDV.out wd5 HD5.out.blk; have q5 := btext_any HD5.out.own HD5.out.le d.cty HFIT.out.cty (HLN.out 5 (by decide)))
  | (go_at_call 69; (with_reducible refine q5.mono ?_); rintro e wd6 ⟨vd6, rfl, hox, hsx⟩; have HD6 := Lib.hid (HD5.out.call (l' := l ++ ((docB d).take 6).flatten) (by decide) (by simpa [docB] using hox) hsx); clear q5 hox hsx c0 c1 c2 c3 c4 c5 c6 c7 c8; obtain ⟨c0, c1, c2, c3, c4, c5, c6, c7, c8⟩ := HDV.out wd6 HD6.out.blk; have q6 := btext_any HD6.out.own HD6.out.le d.num HFIT.out.num (HLN.out 6 (by decide)))
  | (go_at_call 69; (with_reducible refine q6.mono ?_); rintro e wd7 ⟨vd7, rfl, hox, hsx⟩; have HD7 := Lib.hid (HD6.out.call (l' := l ++ ((docB d).take 7).flatten) (by decide) (by simpa [docB] using hox) hsx); clear q6 hox hsx c0 c1 c2 c3 c4 c5 c6 c7 c8; obtain ⟨c0, c1, c2, c3, c4, c5, c6, c7, c8⟩ := HDV.out wd7 HD7.out.blk; have q7 := btext_any HD7.out.own HD7.out.le d.cur HFIT.out.cur (HLN.out 7 (by decide)))
  | (go_at_call 69; (with_reducible refine q7.mono ?_); rintro e wd8 ⟨vd8, rfl, hox, hsx⟩; have HD8 := Lib.hid (HD7.out.call (l' := l ++ ((docB d).take 8).flatten) (by decide) (by simpa [docB] using hox) hsx); clear q7 hox hsx c0 c1 c2 c3 c4 c5 c6 c7 c8; obtain ⟨c0, c1, c2, c3, c4, c5, c6, c7, c8⟩ := HDV.out wd8 HD8.out.blk; have q8 := bnum_any HD8.out.own HD8.out.le (d.ls.length : Int) (by omega) (by have := HFIT.out.many; omega) (HLN.out 8 (by decide)))
  | (go_at_call 68; (with_reducible refine q8.mono ?_); rintro e wd9 ⟨vd9, rfl, hox, hsx⟩; have HD9 := Lib.hid (HD8.out.call (l' := l ++ ((docB d).take 9).flatten) (by decide) (by simpa [docB] using hox) hsx); clear q8 hox hsx c0 c1 c2 c3 c4 c5 c6 c7 c8; obtain ⟨c0, c1, c2, c3, c4, c5, c6, c7, c8⟩ := HDV.out wd9 HD9.out.blk))
 have HE := Lib.hid (show DS w bv base b1 V 25 (l ++ (docB d).flatten) vd9 wd9 by simpa [docB] using HD9.out)
 clear HD0 HD1 HD2 HD3 HD4 HD5 HD6 HD7 HD8 HD9 HLN c0 c1 c2 c3 c4 c5 c6 c7 c8
 go_wp2
 go_loopg [0, 5, 6] d.ls.length (fun gk x0 x5 x6 wr => ∃ k : Nat, gk = d.ls.length - k ∧ k ≤ d.ls.length ∧ x5 = .int .i64 (k : Int) ∧ DS w bv base b1 V 25 (l ++ ((docB d).flatten ++ linesL (d.ls.take k))) x0 wr)
 case atStart => exact ⟨0, rfl, Nat.zero_le _, rfl, by simpa [linesL] using HE.out⟩
 case round =>
  obtain ⟨k, hgk, hk, rfl, hds⟩ := hrel
  generalize u0 = X0 at *
  have HG := Lib.hid hgk
  have HDS := Lib.hid hds
  clear hgk hds HE
  obtain ⟨c0, c1, c2, c3, c4, c5, c6, c7, c8⟩ := HDV.out wr HDS.out.blk
  clear c0 c1 c2 c3 c4 c5 c6 c7
  by_cases h : k < d.ls.length
  ·obtain ⟨ad, c', hv, hadB, hok, hat⟩ := (HLS.out.below (HDS.out.st.low HO.out hB (Nat.le_trans hB hb))).at_ k h
   cases hv
   have hlf := HFIT.out.ls _ (List.getElem_mem h)
   have hnx : linesL (d.ls.take (k + 1)) = linesL (d.ls.take k) ++ lineL d.ls[k] := by
    unfold linesL
    rw [List.take_succ_eq_append_getElem h, List.flatMap_append]
    simp
   have hll : (linesL (d.ls.take k)).length ≤ 60000000 := by
    have h1 := linesL_len (ls := d.ls.take k) (fun x hx => HFIT.out.ls x (List.mem_of_mem_take hx))
    have h2 : (d.ls.take k).length ≤ 100 := Nat.le_trans (List.length_take_le _ _) (Nat.le_trans hk HFIT.out.many)
    have h3 : (d.ls.take k).length * 600000 ≤ 100 * 600000 := Nat.mul_le_mul_right _ h2
    omega
   have i1 : (0 : Int) ≤ (k : Int) := by omega
   have i2 : (k : Int) < (d.ls.length : Int) := by omega
   have i3 : IntKind.i64.wrap ((k : Int) + 1) = (k : Int) + 1 := by rw [IntKind.wrap_i64]; omega
   generalize d.ls[k] = o at *
   have hal := (Below.refl wr.heap.size wr).alloc (Nat.le_refl _) (.cells o.vs 55)
   have HNX := Lib.hid hnx
   have HLF := Lib.hid hlf
   have HB4 := Lib.hid ((hal.block b1 (lt_of_blk HDS.out.blk)).trans HDS.out.blk)
   have HNE := Lib.hid (show b1 < wr.heap.size from lt_of_blk HDS.out.blk)
   have HLA := Lib.hid (show (l ++ ((docB d).flatten ++ linesL (d.ls.take k))).length ≤ 70000000 by rw [List.length_append, List.length_append]; have := HLL.out; have := HDL.out; omega)
   have HO0 := Lib.hid (show DS wr X0 base wr.heap.size o.vs 55 ((l ++ ((docB d).flatten ++ linesL (d.ls.take k))) ++ ((lineB o).take 0).flatten) X0 (wr.alloc (.cells o.vs 55)) from ⟨by simpa using HDS.out.own.below hal, AStep.ofBelow hal, heap_alloc_new wr (.cells o.vs 55 (0, 0)), Nat.le_trans HDS.out.le hal.size⟩)
   have HLV := Lib.hid (show ∀ W, W.heap[wr.heap.size]? = some (.cells o.vs 55 (0, 0)) → LnAt W ⟨wr.heap.size, 0, none⟩ o from fun W hW => LBlk.at_ hW)
   generalize hLE : l ++ ((docB d).flatten ++ linesL (d.ls.take k)) = LL at *
   have HLE := Lib.hid hLE
   have HLN := Lib.hid (show ∀ k, k ≤ 9 → (LL ++ ((lineB o).take k).flatten).length ≤ 900000000 from fun k _ => by
    have h1 := take_len (lineB o) k
    have h2 := flat_len _ _ (lineB_len hlf)
    have h3 : (lineB o).length = 9 := rfl
    rw [h3] at h2
    have := HLA.out
    rw [List.length_append]
    omega)
   obtain ⟨a0, a1, a2, a3, a4, a5, a6, a7, a8⟩ := hat
   clear hok hal hnx hlf hll hLE
   go_upto_region 14 with fail
   rw [show (#[.int .i64 o.sup, .int .i64 o.cat, .string o.fr, .string o.tw, .string o.pl, .int .i64 o.am, .bool o.gr, .int .i64 o.co, .bool o.mx] : Array Value) = o.vs from rfl]
   generalize World.alloc wr _ = w12 at *
   clear a0 a1 a2 a3 a4 a5 a6 a7 a8 c8
   have q0 := bnum_any HO0.out.own HO0.out.le o.sup HLF.out.sup.1 HLF.out.sup.2 (HLN.out 0 (by decide))
   obtain ⟨c0, c1, c2, c3, c4, c5, c6, c7, c8⟩ := HLV.out w12 HO0.out.blk
   go_wp2_with (first
    | (go_at_call 68; (with_reducible refine q0.mono ?_); rintro e wl1 ⟨vl1, rfl, hox, hsx⟩; have HO1 := Lib.hid (HO0.out.call (l' := LL ++ ((lineB o).take 1).flatten) (by decide) (by simpa [lineB] using hox) hsx); clear q0 hox hsx c0 c1 c2 c3 c4 c5 c6 c7 c8; obtain ⟨c0, c1, c2, c3, c4, c5, c6, c7, c8⟩ := HLV.out wl1 HO1.out.blk; have q1 := bnum_any HO1.out.own HO1.out.le o.cat HLF.out.cat.1 HLF.out.cat.2 (HLN.out 1 (by decide)))
    | (go_at_call 68; (with_reducible refine q1.mono ?_); rintro e wl2 ⟨vl2, rfl, hox, hsx⟩; have HO2 := Lib.hid (HO1.out.call (l' := LL ++ ((lineB o).take 2).flatten) (by decide) (by simpa [lineB] using hox) hsx); clear q1 hox hsx c0 c1 c2 c3 c4 c5 c6 c7 c8; obtain ⟨c0, c1, c2, c3, c4, c5, c6, c7, c8⟩ := HLV.out wl2 HO2.out.blk; have q2 := btext_any HO2.out.own HO2.out.le o.fr HLF.out.fr (HLN.out 2 (by decide)))
    | (go_at_call 69; (with_reducible refine q2.mono ?_); rintro e wl3 ⟨vl3, rfl, hox, hsx⟩; have HO3 := Lib.hid (HO2.out.call (l' := LL ++ ((lineB o).take 3).flatten) (by decide) (by simpa [lineB] using hox) hsx); clear q2 hox hsx c0 c1 c2 c3 c4 c5 c6 c7 c8; obtain ⟨c0, c1, c2, c3, c4, c5, c6, c7, c8⟩ := HLV.out wl3 HO3.out.blk; have q3 := btext_any HO3.out.own HO3.out.le o.tw HLF.out.tw (HLN.out 3 (by decide)))
    | (go_at_call 69; (with_reducible refine q3.mono ?_); rintro e wl4 ⟨vl4, rfl, hox, hsx⟩; have HO4 := Lib.hid (HO3.out.call (l' := LL ++ ((lineB o).take 4).flatten) (by decide) (by simpa [lineB] using hox) hsx); clear q3 hox hsx c0 c1 c2 c3 c4 c5 c6 c7 c8; obtain ⟨c0, c1, c2, c3, c4, c5, c6, c7, c8⟩ := HLV.out wl4 HO4.out.blk; have q4 := btext_any HO4.out.own HO4.out.le o.pl HLF.out.pl (HLN.out 4 (by decide)))
    | (go_at_call 69; (with_reducible refine q4.mono ?_); rintro e wl5 ⟨vl5, rfl, hox, hsx⟩; have HO5 := Lib.hid (HO4.out.call (l' := LL ++ ((lineB o).take 5).flatten) (by decide) (by simpa [lineB] using hox) hsx); clear q4 hox hsx c0 c1 c2 c3 c4 c5 c6 c7 c8; obtain ⟨c0, c1, c2, c3, c4, c5, c6, c7, c8⟩ := HLV.out wl5 HO5.out.blk; have q5 := bnum_any HO5.out.own HO5.out.le o.am HLF.out.am.1 HLF.out.am.2 (HLN.out 5 (by decide)))
    | (go_at_call 68; (with_reducible refine q5.mono ?_); rintro e wl6 ⟨vl6, rfl, hox, hsx⟩; have HO6 := Lib.hid (HO5.out.call (l' := LL ++ ((lineB o).take 6).flatten) (by decide) (by simpa [lineB] using hox) hsx); clear q5 hox hsx c0 c1 c2 c3 c4 c5 c6 c7 c8; obtain ⟨c0, c1, c2, c3, c4, c5, c6, c7, c8⟩ := HLV.out wl6 HO6.out.blk; have q6 := bflag_any HO6.out.own HO6.out.le o.gr (HLN.out 6 (by decide)))
    | (go_at_call 99; (with_reducible refine q6.mono ?_); rintro e wl7 ⟨vl7, rfl, hox, hsx⟩; have HO7 := Lib.hid (HO6.out.call (l' := LL ++ ((lineB o).take 7).flatten) (by decide) (by simpa [lineB] using hox) hsx); clear q6 hox hsx c0 c1 c2 c3 c4 c5 c6 c7 c8; obtain ⟨c0, c1, c2, c3, c4, c5, c6, c7, c8⟩ := HLV.out wl7 HO7.out.blk; have q7 := bnum_any HO7.out.own HO7.out.le o.co HLF.out.co.1 HLF.out.co.2 (HLN.out 7 (by decide)))
    | (go_at_call 68; (with_reducible refine q7.mono ?_); rintro e wl8 ⟨vl8, rfl, hox, hsx⟩; have HO8 := Lib.hid (HO7.out.call (l' := LL ++ ((lineB o).take 8).flatten) (by decide) (by simpa [lineB] using hox) hsx); clear q7 hox hsx c0 c1 c2 c3 c4 c5 c6 c7 c8; obtain ⟨c0, c1, c2, c3, c4, c5, c6, c7, c8⟩ := HLV.out wl8 HO8.out.blk; have q8 := bflag_any HO8.out.own HO8.out.le o.mx (HLN.out 8 (by decide)))
    | (go_at_call 99; (with_reducible refine q8.mono ?_); rintro e wl9 ⟨vl9, rfl, hox, hsx⟩; have HO9 := Lib.hid (HO8.out.call (l' := LL ++ ((lineB o).take 9).flatten) (by decide) (by simpa [lineB] using hox) hsx); clear q8 hox hsx c0 c1 c2 c3 c4 c5 c6 c7 c8; obtain ⟨c0, c1, c2, c3, c4, c5, c6, c7, c8⟩ := HLV.out wl9 HO9.out.blk))
   have HF := Lib.hid (show DS w bv base b1 V 25 (LL ++ lineL o) vl9 wl9 from ⟨by simpa [lineL, lineB] using HO9.out.own, HDS.out.st.trans HO9.out.st, HO9.out.st.kept.heap HDS.out.blk (HDS.out.own.apart HDS.out.blk (by decide)), HO9.out.le⟩)
   clear HO0 HO1 HO2 HO3 HO4 HO5 HO6 HO7 HO8 HO9 c0 c1 c2 c3 c4 c5 c6 c7 c8
   go_roundg (d.ls.length - (k + 1))
   case measure => have := HG.out; omega
   case rel => exact ⟨k + 1, rfl, by omega, by simp, by rw [HNX.out]; have h := HF.out; rw [← HLE.out] at h; simpa [List.append_assoc] using h⟩
  ·obtain rfl : k = d.ls.length := by omega
   have h := HDS.out
   rw [List.take_length] at h
   have HH := Lib.hid h
   clear h
   go_wp2
   go_ret
   exact ⟨X0, rfl, HH.out.own, HH.out.st⟩
end Go.Proofs.Ytnfpmobmfcgfnaa

