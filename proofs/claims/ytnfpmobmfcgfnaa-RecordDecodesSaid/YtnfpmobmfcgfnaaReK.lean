/- A DOCUMENT's BYTES; THE WALK OF record.putDoc (printed by gen/genput.py). -/
import Derived.Test.YtnfpmobmfcgfnaaPg
import Derived.Test.YtnfpmobmfcgfnaaPb
import Derived.Test.YtnfpmobmfcgfnaaPm
namespace Go.Proofs.Ytnfpmobmfcgfnaa
open Go.RowKit
def lineB (o : Ln) : List (List UInt8) := [numL o.sup, numL o.cat, textL o.fr, textL o.tw, textL o.pl, numL o.am, flagL o.gr, numL o.co, flagL o.mx]
def lineL (o : Ln) : List UInt8 := (lineB o).flatten
def linesL (ls : List Ln) : List UInt8 := ls.flatMap lineL
def docB (d : Dm) : List (List UInt8) := [textL d.id, flagL d.sale, flagL d.cred, textL d.ref, numL d.day, textL d.cty, textL d.num, textL d.cur, numL d.ls.length]
def docL (d : Dm) : List UInt8 := (docB d).flatten ++ linesL d.ls
/-- what may be written -/
structure Ln.fit (o : Ln) : Prop where
 sup : -9223372036854775808 < o.sup ∧ o.sup ≤ 9223372036854775807
 cat : -9223372036854775808 < o.cat ∧ o.cat ≤ 9223372036854775807
 fr : o.fr.size ≤ 65536
 tw : o.tw.size ≤ 65536
 pl : o.pl.size ≤ 65536
 am : -9223372036854775808 < o.am ∧ o.am ≤ 9223372036854775807
 co : -9223372036854775808 < o.co ∧ o.co ≤ 9223372036854775807
structure Dm.fit (d : Dm) : Prop where
 id : d.id.size ≤ 65536
 ref : d.ref.size ≤ 65536
 day : -9223372036854775808 < d.day ∧ d.day ≤ 9223372036854775807
 cty : d.cty.size ≤ 65536
 num : d.num.size ≤ 65536
 cur : d.cur.size ≤ 65536
 many : d.ls.length ≤ 100
 ls : ∀ l ∈ d.ls, l.fit
theorem textL_len (s : ByteArray) (h : s.size ≤ 65536) : (textL s).length ≤ 65545 := by
 unfold textL
 rw [List.length_append]
 have := numL_len (s.size : Int) (by omega) (by omega)
 have e : s.data.toList.length = s.size := Array.length_toList
 omega
theorem numL_len' (n : Int) (h : -9223372036854775808 < n ∧ n ≤ 9223372036854775807) : (numL n).length ≤ 9 := numL_len n (by omega) h.2
theorem flagL_len (b : Bool) : (flagL b).length = 1 := rfl
theorem flat_len (bs : List (List UInt8)) (N : Nat) (h : ∀ b ∈ bs, b.length ≤ N) : bs.flatten.length ≤ bs.length * N := by
 induction bs with
 | nil => simp
 | cons x r ih =>
  rw [List.flatten_cons, List.length_append, List.length_cons, Nat.succ_mul]
  have h1 := h x (by simp)
  have h2 := ih (fun b hb => h b (List.mem_cons_of_mem _ hb))
  omega
theorem take_len (bs : List (List UInt8)) (k : Nat) : (bs.take k).flatten.length ≤ bs.flatten.length := by
 conv => rhs; rw [← List.take_append_drop k bs]
 rw [List.flatten_append, List.length_append]
 omega
theorem lineB_len {o : Ln} (h : o.fit) : ∀ b ∈ lineB o, b.length ≤ 65545 := by
 intro b hb
 simp only [lineB, List.mem_cons, List.not_mem_nil, or_false] at hb
 rcases hb with rfl | rfl | rfl | rfl | rfl | rfl | rfl | rfl | rfl
 ·exact Nat.le_trans (numL_len' _ h.sup) (by decide)
 ·exact Nat.le_trans (numL_len' _ h.cat) (by decide)
 ·exact textL_len _ h.fr
 ·exact textL_len _ h.tw
 ·exact textL_len _ h.pl
 ·exact Nat.le_trans (numL_len' _ h.am) (by decide)
 ·exact Nat.le_of_lt (by rw [flagL_len]; decide)
 ·exact Nat.le_trans (numL_len' _ h.co) (by decide)
 ·exact Nat.le_of_lt (by rw [flagL_len]; decide)
theorem docB_len {d : Dm} (h : d.fit) : ∀ b ∈ docB d, b.length ≤ 65545 := by
 intro b hb
 simp only [docB, List.mem_cons, List.not_mem_nil, or_false] at hb
 rcases hb with rfl | rfl | rfl | rfl | rfl | rfl | rfl | rfl | rfl
 ·exact textL_len _ h.id
 ·exact Nat.le_of_lt (by rw [flagL_len]; decide)
 ·exact Nat.le_of_lt (by rw [flagL_len]; decide)
 ·exact textL_len _ h.ref
 ·exact Nat.le_trans (numL_len' _ h.day) (by decide)
 ·exact textL_len _ h.cty
 ·exact textL_len _ h.num
 ·exact textL_len _ h.cur
 ·exact Nat.le_trans (numL_len' _ ⟨by omega, by have := h.many; omega⟩) (by decide)
theorem lineL_len {o : Ln} (h : o.fit) : (lineL o).length ≤ 600000 := Nat.le_trans (flat_len _ _ (lineB_len h)) (by simp [lineB])
theorem linesL_len : ∀ {ls : List Ln}, (∀ l ∈ ls, l.fit) → (linesL ls).length ≤ ls.length * 600000
 | [], _ => by simp [linesL]
 | x :: r, h => by
  have h1 := lineL_len (h x (by simp))
  have h2 := linesL_len (ls := r) (fun l hl => h l (List.mem_cons_of_mem _ hl))
  unfold linesL at *
  rw [List.flatMap_cons, List.length_append, List.length_cons]
  omega
/-- a line's block -/
def LBlk (w : World) (b : Nat) (o : Ln) : Prop := w.heap[b]? = some (.cells o.vs 55 (0, 0))
theorem LBlk.below {w w' : World} {b : Nat} {o : Ln} (h : LBlk w b o) (k : Below w.heap.size w w') : LBlk w' b o := (k.block b (lt_of_blk h)).trans h
theorem LBlk.at_ {w : World} {b : Nat} {o : Ln} (h : LBlk w b o) : LnAt w ⟨b, 0, none⟩ o := by
 unfold LBlk Ln.vs at h
 exact ⟨cells_of h 0 _ rfl, by simpa using cells_of h 1 _ rfl, by simpa using cells_of h 2 _ rfl, by simpa using cells_of h 3 _ rfl, by simpa using cells_of h 4 _ rfl, by simpa using cells_of h 5 _ rfl, by simpa using cells_of h 6 _ rfl, by simpa using cells_of h 7 _ rfl, by simpa using cells_of h 8 _ rfl⟩
theorem Step.blk {w w' : World} {g b : Nat} {l : List UInt8} {sp : Bool} {s s' : Value} {cs : Array Value} {t : TypeId} (h : Wr w g l sp s) (k : Step w w' g s s') (hb : w.heap[b]? = some (.cells cs t (0, 0))) (h1 : t ≠ 110) (h2 : t ≠ 5) : w'.heap[b]? = some (.cells cs t (0, 0)) := by
 refine k.kept.heap hb ⟨fun e => ?_, fun e => ?_⟩
 ·subst e; rw [h.heap] at hb; injection hb with hb; injection hb with _ hb _; exact h1 hb.symm
 ·exact h.own.apart hb h2 e
theorem Step.low {w w' : World} {g B : Nat} {l : List UInt8} {sp : Bool} {s s' : Value} (h : Wr w g l sp s) (k : Step w w' g s s') (hB : B ≤ g) : Below B w w' :=
 k.kept.toBelow (by have := h.lt; omega) (fun b hb => ⟨by omega, fun e => by have := h.own.lt b e; omega⟩)
/-- the writer, on its way, beside a block -/
structure WS (w0 : World) (g : Nat) (l0 : List UInt8) (s0 : Value) (b : Nat) (cs : Array Value) (t : TypeId) (l : List UInt8) (w : World) : Prop where
 ex : ∃ s, Wr w g (l0 ++ l) false s ∧ Step w0 w g s0 s
 blk : w.heap[b]? = some (.cells cs t (0, 0))
theorem WS.below {w0 w w' : World} {g b : Nat} {l0 l : List UInt8} {s0 : Value} {cs : Array Value} {t : TypeId} (h : WS w0 g l0 s0 b cs t l w) (k : Below w.heap.size w w') : WS w0 g l0 s0 b cs t l w' := by
 obtain ⟨s, h1, h2⟩ := h.ex
 exact ⟨⟨s, h1.below k, h2.trans (Step.ofBelow k)⟩, (k.block b (lt_of_blk h.blk)).trans h.blk⟩
theorem WS.call {w0 w w' : World} {g b : Nat} {l0 l x l' : List UInt8} {s0 s s' : Value} {cs : Array Value} {t : TypeId} (hw : Wr w g (l0 ++ l) false s) (hst : Step w0 w g s0 s) (hb : w.heap[b]? = some (.cells cs t (0, 0))) (h1 : t ≠ 110) (h2 : t ≠ 5)
  (hw' : Wr w' g (l0 ++ l ++ x) false s') (hs' : Step w w' g s s') (hl : l ++ x = l') : WS w0 g l0 s0 b cs t l' w' :=
 ⟨⟨s', by rw [← hl, ← List.append_assoc]; exact hw', hst.trans hs'⟩, hs'.blk hw hb h1 h2⟩

set_option maxRecDepth 100000 in
set_option maxHeartbeats 16000000 in
theorem putdoc_any {w : World} {g B : Nat} {l : List UInt8} {s : Value} (h : Wr w g l false s) (hl : l.length ≤ 100000) {d : Dm} {lv : Value} (hls : Lns w B lv d.ls) (hB : B ≤ g) (hfit : d.fit) :
  Calls Try.prog 66 #[ptr g, .agg (d.vs lv)] w fun e w' => ∃ s', e = .returned (.tuple #[]) ∧ Wr w' g (l ++ docL d) false s' ∧ Step w w' g s s' := by
 obtain ⟨A0, m0, rfl, hm0, hm1⟩ := hls.form
 have hal := (Below.refl w.heap.size w).alloc (Nat.le_refl _) (.cells (d.vs (.slice A0 d.ls.length m0)) 25)
 have hdb : DBlk (w.alloc (.cells (d.vs (.slice A0 d.ls.length m0)) 25)) w.heap.size d (.slice A0 d.ls.length m0) := heap_alloc_new w (.cells (d.vs (.slice A0 d.ls.length m0)) 25 (0, 0))
 have H := Lib.hid h
 have HW0 := Lib.hid (show WS w g l s w.heap.size (d.vs (.slice A0 d.ls.length m0)) 25 [] (w.alloc (.cells (d.vs (.slice A0 d.ls.length m0)) 25)) from ⟨⟨s, by rw [List.append_nil]; exact h.below hal, Step.ofBelow hal⟩, hdb⟩)
 have HLS := Lib.hid hls
 have HFIT := Lib.hid hfit
 have HLEN := Lib.hid (show ∀ k, k ≤ 9 → (l ++ ([] ++ ((docB d).take k).flatten)).length ≤ 900000000 from fun k _ => by
  have h1 := take_len (docB d) k
  have h2 := flat_len _ _ (docB_len hfit)
  have h3 : (docB d).length = 9 := rfl
  rw [h3] at h2
  rw [List.length_append, List.nil_append]
  omega)
 have HLL := Lib.hid hl
 have HDV := Lib.hid (show ∀ W, W.heap[w.heap.size]? = some (.cells (d.vs (.slice A0 d.ls.length m0)) 25 (0, 0)) → DBox W w.heap.size d (.slice A0 d.ls.length m0) from fun W hW => DBlk.box hW)
 clear h hls hfit hl hal hdb
 generalize hV : d.vs (.slice A0 d.ls.length m0) = V at *
 generalize hb : w.heap.size = b1 at HW0 HDV ⊢
 clear hV
 go_enter Try.func66, Try.ntmps66
 unfold ptr
 go_upto_region 1 with fail
 generalize World.alloc w _ = w1 at *
 refine wp_region_chain (by kernel_rfl) [ptr g, .pointer (some ⟨b1, 0, none⟩), .string d.id, ptr g, .pointer (some ⟨b1, 1, none⟩), .bool d.sale, ptr g, .pointer (some ⟨b1, 2, none⟩), .bool d.cred, ptr g, .pointer (some ⟨b1, 3, none⟩), .string d.ref, ptr g, .pointer (some ⟨b1, 4, none⟩), .int .i64 d.day, ptr g] [3, 6, 9, 12, 15] (fun k W => WS w g l s b1 V 25 ([] ++ ((docB d).take k).flatten) W) (by kernel_rfl) (by kernel_rfl) (by kernel_rfl) (fun m W W' h hb => h.below hb) HW0.out (fun i hi hn m a W hc hI hd => ?_) (fun k hk a W hc hI hd => ?_) (fun a w8 hc hI hs => ?_)
 ·match i, hi, hn with
  | 0, _, _ =>
   have z0 := hc.same 0 (by kernel_rfl)
   simp only [List.getElem?_toArray, List.getElem?_cons_zero, Option.getD_some] at z0
   refine obl_val rfl (wanted_none rfl) ?_ rfl
   go_simp
  | 1, _, _ =>
   have z3 := hc.same 3 (by kernel_rfl)
   simp only [List.getElem?_toArray, List.getElem?_cons_succ, List.getElem?_cons_zero, Option.getD_some] at z3
   refine obl_val rfl (wanted_none rfl) ?_ rfl
   go_simp
  | 2, _, _ =>
   have s1 : a.tmps[7]?.getD undef = (.pointer (some ⟨b1, 0, none⟩)) := hd 1 (by kernel_rfl)
   obtain ⟨q0, q1, q2, q3, q4, q5, q6, q7, q8⟩ := HDV.out W hI.blk
   refine obl_val rfl (wanted_none rfl) ?_ rfl
   go_simp
  | 3, _, hn => exact absurd hn (by decide)
  | 4, _, _ =>
   have z3 := hc.same 3 (by kernel_rfl)
   simp only [List.getElem?_toArray, List.getElem?_cons_succ, List.getElem?_cons_zero, Option.getD_some] at z3
   refine obl_val rfl (wanted_none rfl) ?_ rfl
   go_simp
  | 5, _, _ =>
   have s4 : a.tmps[10]?.getD undef = (.pointer (some ⟨b1, 1, none⟩)) := hd 4 (by kernel_rfl)
   obtain ⟨q0, q1, q2, q3, q4, q5, q6, q7, q8⟩ := HDV.out W hI.blk
   refine obl_val rfl (wanted_none rfl) ?_ rfl
   go_simp
  | 6, _, hn => exact absurd hn (by decide)
  | 7, _, _ =>
   have z3 := hc.same 3 (by kernel_rfl)
   simp only [List.getElem?_toArray, List.getElem?_cons_succ, List.getElem?_cons_zero, Option.getD_some] at z3
   refine obl_val rfl (wanted_none rfl) ?_ rfl
   go_simp
  | 8, _, _ =>
   have s7 : a.tmps[13]?.getD undef = (.pointer (some ⟨b1, 2, none⟩)) := hd 7 (by kernel_rfl)
   obtain ⟨q0, q1, q2, q3, q4, q5, q6, q7, q8⟩ := HDV.out W hI.blk
   refine obl_val rfl (wanted_none rfl) ?_ rfl
   go_simp
  | 9, _, hn => exact absurd hn (by decide)
  | 10, _, _ =>
   have z3 := hc.same 3 (by kernel_rfl)
   simp only [List.getElem?_toArray, List.getElem?_cons_succ, List.getElem?_cons_zero, Option.getD_some] at z3
   refine obl_val rfl (wanted_none rfl) ?_ rfl
   go_simp
  | 11, _, _ =>
   have s10 : a.tmps[16]?.getD undef = (.pointer (some ⟨b1, 3, none⟩)) := hd 10 (by kernel_rfl)
   obtain ⟨q0, q1, q2, q3, q4, q5, q6, q7, q8⟩ := HDV.out W hI.blk
   refine obl_val rfl (wanted_none rfl) ?_ rfl
   go_simp
  | 12, _, hn => exact absurd hn (by decide)
  | 13, _, _ =>
   have z3 := hc.same 3 (by kernel_rfl)
   simp only [List.getElem?_toArray, List.getElem?_cons_succ, List.getElem?_cons_zero, Option.getD_some] at z3
   refine obl_val rfl (wanted_none rfl) ?_ rfl
   go_simp
  | 14, _, _ =>
   have s13 : a.tmps[19]?.getD undef = (.pointer (some ⟨b1, 4, none⟩)) := hd 13 (by kernel_rfl)
   obtain ⟨q0, q1, q2, q3, q4, q5, q6, q7, q8⟩ := HDV.out W hI.blk
   refine obl_val rfl (wanted_none rfl) ?_ rfl
   go_simp
  | 15, _, hn => exact absurd hn (by decide)
  | n + 16, h, _ => exact absurd h (by simp)
 ·match k, hk with
  | 0, _ =>
   have s0 : a.tmps[6]?.getD undef = (ptr g) := hd 0 (by kernel_rfl)
   have s2 : a.tmps[8]?.getD undef = (.string d.id) := hd 2 (by kernel_rfl)
   obtain ⟨⟨sq, hw, hst⟩, hbk⟩ := hI
   refine obl_callK rfl (wanted_none rfl) (by go_simp) (text_any d.id HFIT.out.id hw (HLEN.out 0 (by decide))) ?_
   rintro e w9 ⟨s9, rfl, hw9, hs9⟩
   exact ⟨_, rfl, _, rfl, rfl, WS.call hw hst hbk (by decide) (by decide) hw9 hs9 (by simp [List.take, docB])⟩
  | 1, _ =>
   have s3 : a.tmps[9]?.getD undef = (ptr g) := hd 3 (by kernel_rfl)
   have s5 : a.tmps[11]?.getD undef = (.bool d.sale) := hd 5 (by kernel_rfl)
   obtain ⟨⟨sq, hw, hst⟩, hbk⟩ := hI
   refine obl_callK rfl (wanted_none rfl) (by go_simp) (flag_any d.sale hw (Nat.le_trans (HLEN.out 1 (by decide)) (by decide))) ?_
   rintro e w9 ⟨s9, rfl, hw9, hs9⟩
   exact ⟨_, rfl, _, rfl, rfl, WS.call hw hst hbk (by decide) (by decide) hw9 hs9 (by simp [List.take, docB])⟩
  | 2, _ =>
   have s6 : a.tmps[12]?.getD undef = (ptr g) := hd 6 (by kernel_rfl)
   have s8 : a.tmps[14]?.getD undef = (.bool d.cred) := hd 8 (by kernel_rfl)
   obtain ⟨⟨sq, hw, hst⟩, hbk⟩ := hI
   refine obl_callK rfl (wanted_none rfl) (by go_simp) (flag_any d.cred hw (Nat.le_trans (HLEN.out 2 (by decide)) (by decide))) ?_
   rintro e w9 ⟨s9, rfl, hw9, hs9⟩
   exact ⟨_, rfl, _, rfl, rfl, WS.call hw hst hbk (by decide) (by decide) hw9 hs9 (by simp [List.take, docB])⟩
  | 3, _ =>
   have s9 : a.tmps[15]?.getD undef = (ptr g) := hd 9 (by kernel_rfl)
   have s11 : a.tmps[17]?.getD undef = (.string d.ref) := hd 11 (by kernel_rfl)
   obtain ⟨⟨sq, hw, hst⟩, hbk⟩ := hI
   refine obl_callK rfl (wanted_none rfl) (by go_simp) (text_any d.ref HFIT.out.ref hw (HLEN.out 3 (by decide))) ?_
   rintro e w9 ⟨s9, rfl, hw9, hs9⟩
   exact ⟨_, rfl, _, rfl, rfl, WS.call hw hst hbk (by decide) (by decide) hw9 hs9 (by simp [List.take, docB])⟩
  | 4, _ =>
   have s12 : a.tmps[18]?.getD undef = (ptr g) := hd 12 (by kernel_rfl)
   have s14 : a.tmps[20]?.getD undef = (.int .i64 d.day) := hd 14 (by kernel_rfl)
   obtain ⟨⟨sq, hw, hst⟩, hbk⟩ := hI
   refine obl_callK rfl (wanted_none rfl) (by go_simp) (num_any d.day HFIT.out.day.1 HFIT.out.day.2 hw (Nat.le_trans (HLEN.out 4 (by decide)) (by decide))) ?_
   rintro e w9 ⟨s9, rfl, hw9, hs9⟩
   exact ⟨_, rfl, _, rfl, rfl, WS.call hw hst hbk (by decide) (by decide) hw9 hs9 (by simp [List.take, docB])⟩
  | n + 5, h => exact absurd h (by simp)
 ·skip
  have hfr := grow_frame hc [(6, (ptr g)), (7, (.pointer (some ⟨b1, 0, none⟩))), (8, (.string d.id)), (9, (ptr g)), (10, (.pointer (some ⟨b1, 1, none⟩))), (11, (.bool d.sale)), (12, (ptr g)), (13, (.pointer (some ⟨b1, 2, none⟩))), (14, (.bool d.cred)), (15, (ptr g)), (16, (.pointer (some ⟨b1, 3, none⟩))), (17, (.string d.ref)), (18, (ptr g)), (19, (.pointer (some ⟨b1, 4, none⟩))), (20, (.int .i64 d.day)), (21, (ptr g))] (by kernel_rfl) (fun p hp => by
    simp only [List.mem_cons, List.not_mem_nil, or_false] at hp
    rcases hp with rfl | rfl | rfl | rfl | rfl | rfl | rfl | rfl | rfl | rfl | rfl | rfl | rfl | rfl | rfl | rfl
    ·exact hs 0 6 (by decide) (by kernel_rfl)
    ·exact hs 1 7 (by decide) (by kernel_rfl)
    ·exact hs 2 8 (by decide) (by kernel_rfl)
    ·exact hs 3 9 (by decide) (by kernel_rfl)
    ·exact hs 4 10 (by decide) (by kernel_rfl)
    ·exact hs 5 11 (by decide) (by kernel_rfl)
    ·exact hs 6 12 (by decide) (by kernel_rfl)
    ·exact hs 7 13 (by decide) (by kernel_rfl)
    ·exact hs 8 14 (by decide) (by kernel_rfl)
    ·exact hs 9 15 (by decide) (by kernel_rfl)
    ·exact hs 10 16 (by decide) (by kernel_rfl)
    ·exact hs 11 17 (by decide) (by kernel_rfl)
    ·exact hs 12 18 (by decide) (by kernel_rfl)
    ·exact hs 13 19 (by decide) (by kernel_rfl)
    ·exact hs 14 20 (by decide) (by kernel_rfl)
    ·exact hs 15 21 (by decide) (by kernel_rfl)
    )
  simp only [List.range, List.range.loop, List.size_toArray, List.length_cons, List.length_nil, List.map_cons, List.map_nil, List.lookup_cons, List.lookup_nil, Nat.reduceAdd, Nat.reduceBEq, Option.getD_some, Option.getD_none, List.getElem?_toArray, List.getElem?_cons_succ, List.getElem?_cons_zero] at hfr
  subst hfr
  have HW2 := Lib.hid (show WS w g l s b1 V 25 (((docB d).take 5).flatten ++ (((docB d).drop 5).take 0).flatten) w8 by simpa [docB] using hI)
  have HLEN2 := Lib.hid (show ∀ k, k ≤ 4 → (l ++ (((docB d).take 5).flatten ++ (((docB d).drop 5).take k).flatten)).length ≤ 900000000 from fun k hk => by
   have h1 := HLEN.out 5 (by decide)
   have h2 := take_len ((docB d).drop 5) k
   have h3 := flat_len ((docB d).drop 5) 65545 (fun b hb => docB_len HFIT.out b (List.mem_of_mem_drop hb))
   have h4 : ((docB d).drop 5).length = 4 := rfl
   rw [h4] at h3
   rw [List.length_append, List.nil_append] at h1
   rw [List.length_append, List.length_append]
   have h5 := flat_len _ _ (docB_len HFIT.out)
   have h6 := take_len (docB d) 5
   have h7 : (docB d).length = 9 := rfl
   rw [h7] at h5
   have := HLL.out
   omega)
  clear hc hs hI HW0
  go_upto_region 2 with fail
  refine wp_region_chain (by kernel_rfl) [ptr g, .pointer (some ⟨b1, 5, none⟩), .string d.cty, ptr g, .pointer (some ⟨b1, 6, none⟩), .string d.num, ptr g, .pointer (some ⟨b1, 7, none⟩), .string d.cur, ptr g, .pointer (some ⟨b1, 8, none⟩), .slice A0 d.ls.length m0, .int .i64 (d.ls.length : Int), ptr g] [3, 6, 9, 13] (fun k W => WS w g l s b1 V 25 (((docB d).take 5).flatten ++ (((docB d).drop 5).take k).flatten) W) (by kernel_rfl) (by kernel_rfl) (by kernel_rfl) (fun m W W' h hb => h.below hb) HW2.out (fun i hi hn m a W hc hI hd => ?_) (fun k hk a W hc hI hd => ?_) (fun a w11 hc hI hs => ?_)
  ·match i, hi, hn with
   | 0, _, _ =>
    have z0 := hc.same 0 (by kernel_rfl)
    simp only [List.getElem?_toArray, List.getElem?_cons_zero, Option.getD_some] at z0
    refine obl_val rfl (wanted_none rfl) ?_ rfl
    go_simp
   | 1, _, _ =>
    have z3 := hc.same 3 (by kernel_rfl)
    simp only [List.getElem?_toArray, List.getElem?_cons_succ, List.getElem?_cons_zero, Option.getD_some] at z3
    refine obl_val rfl (wanted_none rfl) ?_ rfl
    go_simp
   | 2, _, _ =>
    have s1 : a.tmps[23]?.getD undef = (.pointer (some ⟨b1, 5, none⟩)) := hd 1 (by kernel_rfl)
    obtain ⟨q0, q1, q2, q3, q4, q5, q6, q7, q8⟩ := HDV.out W hI.blk
    refine obl_val rfl (wanted_none rfl) ?_ rfl
    go_simp
   | 3, _, hn => exact absurd hn (by decide)
   | 4, _, _ =>
    have z3 := hc.same 3 (by kernel_rfl)
    simp only [List.getElem?_toArray, List.getElem?_cons_succ, List.getElem?_cons_zero, Option.getD_some] at z3
    refine obl_val rfl (wanted_none rfl) ?_ rfl
    go_simp
   | 5, _, _ =>
    have s4 : a.tmps[26]?.getD undef = (.pointer (some ⟨b1, 6, none⟩)) := hd 4 (by kernel_rfl)
    obtain ⟨q0, q1, q2, q3, q4, q5, q6, q7, q8⟩ := HDV.out W hI.blk
    refine obl_val rfl (wanted_none rfl) ?_ rfl
    go_simp
   | 6, _, hn => exact absurd hn (by decide)
   | 7, _, _ =>
    have z3 := hc.same 3 (by kernel_rfl)
    simp only [List.getElem?_toArray, List.getElem?_cons_succ, List.getElem?_cons_zero, Option.getD_some] at z3
    refine obl_val rfl (wanted_none rfl) ?_ rfl
    go_simp
   | 8, _, _ =>
    have s7 : a.tmps[29]?.getD undef = (.pointer (some ⟨b1, 7, none⟩)) := hd 7 (by kernel_rfl)
    obtain ⟨q0, q1, q2, q3, q4, q5, q6, q7, q8⟩ := HDV.out W hI.blk
    refine obl_val rfl (wanted_none rfl) ?_ rfl
    go_simp
   | 9, _, hn => exact absurd hn (by decide)
   | 10, _, _ =>
    have z3 := hc.same 3 (by kernel_rfl)
    simp only [List.getElem?_toArray, List.getElem?_cons_succ, List.getElem?_cons_zero, Option.getD_some] at z3
    refine obl_val rfl (wanted_none rfl) ?_ rfl
    go_simp
   | 11, _, _ =>
    have s10 : a.tmps[32]?.getD undef = (.pointer (some ⟨b1, 8, none⟩)) := hd 10 (by kernel_rfl)
    obtain ⟨q0, q1, q2, q3, q4, q5, q6, q7, q8⟩ := HDV.out W hI.blk
    refine obl_val rfl (wanted_none rfl) ?_ rfl
    go_simp
   | 12, _, _ =>
    have s11 : a.tmps[33]?.getD undef = (.slice A0 d.ls.length m0) := hd 11 (by kernel_rfl)
    refine obl_val rfl (wanted_none rfl) ?_ rfl
    go_simp
   | 13, _, hn => exact absurd hn (by decide)
   | n + 14, h, _ => exact absurd h (by simp)
  ·match k, hk with
   | 0, _ =>
    have s0 : a.tmps[22]?.getD undef = (ptr g) := hd 0 (by kernel_rfl)
    have s2 : a.tmps[24]?.getD undef = (.string d.cty) := hd 2 (by kernel_rfl)
    obtain ⟨⟨sq, hw, hst⟩, hbk⟩ := hI
    refine obl_callK rfl (wanted_none rfl) (by go_simp) (text_any d.cty HFIT.out.cty hw (HLEN2.out 0 (by decide))) ?_
    rintro e w9 ⟨s9, rfl, hw9, hs9⟩
    exact ⟨_, rfl, _, rfl, rfl, WS.call hw hst hbk (by decide) (by decide) hw9 hs9 (by simp [List.take, docB, List.drop])⟩
   | 1, _ =>
    have s3 : a.tmps[25]?.getD undef = (ptr g) := hd 3 (by kernel_rfl)
    have s5 : a.tmps[27]?.getD undef = (.string d.num) := hd 5 (by kernel_rfl)
    obtain ⟨⟨sq, hw, hst⟩, hbk⟩ := hI
    refine obl_callK rfl (wanted_none rfl) (by go_simp) (text_any d.num HFIT.out.num hw (HLEN2.out 1 (by decide))) ?_
    rintro e w9 ⟨s9, rfl, hw9, hs9⟩
    exact ⟨_, rfl, _, rfl, rfl, WS.call hw hst hbk (by decide) (by decide) hw9 hs9 (by simp [List.take, docB, List.drop])⟩
   | 2, _ =>
    have s6 : a.tmps[28]?.getD undef = (ptr g) := hd 6 (by kernel_rfl)
    have s8 : a.tmps[30]?.getD undef = (.string d.cur) := hd 8 (by kernel_rfl)
    obtain ⟨⟨sq, hw, hst⟩, hbk⟩ := hI
    refine obl_callK rfl (wanted_none rfl) (by go_simp) (text_any d.cur HFIT.out.cur hw (HLEN2.out 2 (by decide))) ?_
    rintro e w9 ⟨s9, rfl, hw9, hs9⟩
    exact ⟨_, rfl, _, rfl, rfl, WS.call hw hst hbk (by decide) (by decide) hw9 hs9 (by simp [List.take, docB, List.drop])⟩
   | 3, _ =>
    have s9 : a.tmps[31]?.getD undef = (ptr g) := hd 9 (by kernel_rfl)
    have s12 : a.tmps[34]?.getD undef = (.int .i64 (d.ls.length : Int)) := hd 12 (by kernel_rfl)
    obtain ⟨⟨sq, hw, hst⟩, hbk⟩ := hI
    refine obl_callK rfl (wanted_none rfl) (by go_simp) (num_any (d.ls.length : Int) (by omega) (by have := HFIT.out.many; omega) hw (Nat.le_trans (HLEN2.out 3 (by decide)) (by decide))) ?_
    rintro e w9 ⟨s9, rfl, hw9, hs9⟩
    exact ⟨_, rfl, _, rfl, rfl, WS.call hw hst hbk (by decide) (by decide) hw9 hs9 (by simp [List.take, docB, List.drop])⟩
   | n + 4, h => exact absurd h (by simp)
  ·skip
   have hfr := grow_frame hc [(22, (ptr g)), (23, (.pointer (some ⟨b1, 5, none⟩))), (24, (.string d.cty)), (25, (ptr g)), (26, (.pointer (some ⟨b1, 6, none⟩))), (27, (.string d.num)), (28, (ptr g)), (29, (.pointer (some ⟨b1, 7, none⟩))), (30, (.string d.cur)), (31, (ptr g)), (32, (.pointer (some ⟨b1, 8, none⟩))), (33, (.slice A0 d.ls.length m0)), (34, (.int .i64 (d.ls.length : Int))), (35, (ptr g))] (by kernel_rfl) (fun p hp => by
     simp only [List.mem_cons, List.not_mem_nil, or_false] at hp
     rcases hp with rfl | rfl | rfl | rfl | rfl | rfl | rfl | rfl | rfl | rfl | rfl | rfl | rfl | rfl
     ·exact hs 0 22 (by decide) (by kernel_rfl)
     ·exact hs 1 23 (by decide) (by kernel_rfl)
     ·exact hs 2 24 (by decide) (by kernel_rfl)
     ·exact hs 3 25 (by decide) (by kernel_rfl)
     ·exact hs 4 26 (by decide) (by kernel_rfl)
     ·exact hs 5 27 (by decide) (by kernel_rfl)
     ·exact hs 6 28 (by decide) (by kernel_rfl)
     ·exact hs 7 29 (by decide) (by kernel_rfl)
     ·exact hs 8 30 (by decide) (by kernel_rfl)
     ·exact hs 9 31 (by decide) (by kernel_rfl)
     ·exact hs 10 32 (by decide) (by kernel_rfl)
     ·exact hs 11 33 (by decide) (by kernel_rfl)
     ·exact hs 12 34 (by decide) (by kernel_rfl)
     ·exact hs 13 35 (by decide) (by kernel_rfl)
     )
   simp only [List.range, List.range.loop, List.size_toArray, List.length_cons, List.length_nil, List.map_cons, List.map_nil, List.lookup_cons, List.lookup_nil, Nat.reduceAdd, Nat.reduceBEq, Option.getD_some, Option.getD_none, List.getElem?_toArray, List.getElem?_cons_succ, List.getElem?_cons_zero] at hfr
   subst hfr
   have HW3 := Lib.hid (show WS w g l s b1 V 25 ((docB d).flatten) w11 by simpa [docB] using hI)
   clear hc hs hI HW2
   obtain ⟨q0, q1, q2, q3, q4, q5, q6, q7, q8⟩ := HDV.out w11 HW3.out.blk
   clear q0 q1 q2 q3 q4 q5 q6 q7
   go_wp2
   clear q8
   go_loopg [5, 39] d.ls.length (fun gk x5 x39 wr => ∃ k : Nat, gk = d.ls.length - k ∧ k ≤ d.ls.length ∧ x39 = .int .i64 (k : Int) ∧ ∃ sr, Wr wr g (l ++ ((docB d).flatten ++ linesL (d.ls.take k))) false sr ∧ Step w wr g s sr)
   case atStart =>
    obtain ⟨s3, h1, h2⟩ := HW3.out.ex
    exact ⟨0, rfl, Nat.zero_le _, rfl, s3, by simpa [linesL] using h1, h2⟩
   case round =>
    obtain ⟨k, hgk, hk, rfl, sr, hwr, hsr⟩ := hrel
    have HG := Lib.hid hgk
    have HWR := Lib.hid hwr
    have HSR := Lib.hid hsr
    clear hgk hwr hsr
    by_cases h : k < d.ls.length
    ·obtain ⟨ad, c', hv, hadB, hok, hat⟩ := (HLS.out.below (HSR.out.low H.out hB)).at_ k h
     cases hv
     have hlf := HFIT.out.ls _ (List.getElem_mem h)
     have hnx : linesL (d.ls.take (k + 1)) = linesL (d.ls.take k) ++ lineL d.ls[k] := by
      unfold linesL
      rw [List.take_succ_eq_append_getElem h, List.flatMap_append]
      simp
     have hll : (linesL (d.ls.take k)).length ≤ 60000000 := by
      have h1 := linesL_len (ls := d.ls.take k) (fun x hx => HFIT.out.ls x (List.mem_of_mem_take hx))
      have h2 : (d.ls.take k).length ≤ 100 := Nat.le_trans (List.length_take_le _ _) (Nat.le_trans hk HFIT.out.many)
      have h3 : (d.ls.take k).length * 600000 ≤ 100 * 600000 := Nat.mul_le_mul_right _ h2
      omega
     have hdl : ((docB d).flatten).length ≤ 600000 := Nat.le_trans (flat_len _ _ (docB_len HFIT.out)) (by simp [docB])
     have i1 : (0 : Int) ≤ (k : Int) := by omega
     have i2 : (k : Int) < (d.ls.length : Int) := by omega
     have i3 : IntKind.i64.wrap ((k : Int) + 1) = (k : Int) + 1 := by rw [IntKind.wrap_i64]; omega
     generalize d.ls[k] = o at *
     have hal := (Below.refl wr.heap.size wr).alloc (Nat.le_refl _) (.cells o.vs 55)
     have hlb : LBlk (wr.alloc (.cells o.vs 55)) wr.heap.size o := heap_alloc_new wr (.cells o.vs 55 (0, 0))
     have HNX := Lib.hid hnx
     have HLF := Lib.hid hlf
     have HW4 := Lib.hid (show WS wr g (l ++ ((docB d).flatten ++ linesL (d.ls.take k))) sr wr.heap.size o.vs 55 ([] ++ ((lineB o).take 0).flatten) (wr.alloc (.cells o.vs 55)) from ⟨⟨sr, by simpa using HWR.out.below hal, Step.ofBelow hal⟩, hlb⟩)
     have HLA := Lib.hid (show (l ++ ((docB d).flatten ++ linesL (d.ls.take k))).length ≤ 70000000 by rw [List.length_append, List.length_append]; have := HLL.out; omega)
     have HLV := Lib.hid (show ∀ W, W.heap[wr.heap.size]? = some (.cells o.vs 55 (0, 0)) → LnAt W ⟨wr.heap.size, 0, none⟩ o from fun W hW => LBlk.at_ hW)
     generalize hLL : l ++ ((docB d).flatten ++ linesL (d.ls.take k)) = LL at *
     have HLE := Lib.hid hLL
     have HLEN3 := Lib.hid (show ∀ k, k ≤ 9 → (LL ++ ([] ++ ((lineB o).take k).flatten)).length ≤ 900000000 from fun k _ => by
      have h1 := take_len (lineB o) k
      have h2 := flat_len _ _ (lineB_len hlf)
      have h3 : (lineB o).length = 9 := rfl
      rw [h3] at h2
      rw [List.length_append, List.nil_append]
      have := HLA.out
      omega)
     have HLEN4 := Lib.hid (show ∀ k, k ≤ 4 → (LL ++ (((lineB o).take 5).flatten ++ (((lineB o).drop 5).take k).flatten)).length ≤ 900000000 from fun k _ => by
      have h1 := take_len ((lineB o).drop 5) k
      have h2 := flat_len ((lineB o).drop 5) 65545 (fun b hb => lineB_len hlf b (List.mem_of_mem_drop hb))
      have h3 : ((lineB o).drop 5).length = 4 := rfl
      have h4 := take_len (lineB o) 5
      have h5 := flat_len _ _ (lineB_len hlf)
      have h6 : (lineB o).length = 9 := rfl
      rw [h3] at h2
      rw [h6] at h5
      rw [List.length_append, List.length_append]
      have := HLA.out
      omega)
     obtain ⟨c0, c1, c2, c3, c4, c5, c6, c7, c8⟩ := hat
     clear hok hal hlb hnx hlf hll hdl hLL HWR
     go_upto_region 6 with fail
     rw [show (#[.int .i64 o.sup, .int .i64 o.cat, .string o.fr, .string o.tw, .string o.pl, .int .i64 o.am, .bool o.gr, .int .i64 o.co, .bool o.mx] : Array Value) = o.vs from rfl]
     generalize World.alloc wr _ = w12 at *
     clear c0 c1 c2 c3 c4 c5 c6 c7 c8
     refine wp_region_chain (by kernel_rfl) [ptr g, .pointer (some ⟨wr.heap.size, 0, none⟩), .int .i64 o.sup, ptr g, .pointer (some ⟨wr.heap.size, 1, none⟩), .int .i64 o.cat, ptr g, .pointer (some ⟨wr.heap.size, 2, none⟩), .string o.fr, ptr g, .pointer (some ⟨wr.heap.size, 3, none⟩), .string o.tw, ptr g, .pointer (some ⟨wr.heap.size, 4, none⟩), .string o.pl, ptr g] [3, 6, 9, 12, 15] (fun k W => WS wr g LL sr wr.heap.size o.vs 55 ([] ++ ((lineB o).take k).flatten) W) (by kernel_rfl) (by kernel_rfl) (by kernel_rfl) (fun m W W' h hb => h.below hb) HW4.out (fun i hi hn m a W hc hI hd => ?_) (fun k hk a W hc hI hd => ?_) (fun a w13 hc hI hs => ?_)
     ·match i, hi, hn with
      | 0, _, _ =>
       have z0 := hc.same 0 (by kernel_rfl)
       simp only [List.getElem?_toArray, List.getElem?_cons_zero, Option.getD_some] at z0
       refine obl_val rfl (wanted_none rfl) ?_ rfl
       go_simp
      | 1, _, _ =>
       have z5 := hc.same 5 (by kernel_rfl)
       simp only [List.getElem?_toArray, List.getElem?_cons_succ, List.getElem?_cons_zero, Option.getD_some] at z5
       refine obl_val rfl (wanted_none rfl) ?_ rfl
       go_simp
      | 2, _, _ =>
       have s1 : a.tmps[44]?.getD undef = (.pointer (some ⟨wr.heap.size, 0, none⟩)) := hd 1 (by kernel_rfl)
       obtain ⟨q0, q1, q2, q3, q4, q5, q6, q7, q8⟩ := HLV.out W hI.blk
       refine obl_val rfl (wanted_none rfl) ?_ rfl
       go_simp
      | 3, _, hn => exact absurd hn (by decide)
      | 4, _, _ =>
       have z5 := hc.same 5 (by kernel_rfl)
       simp only [List.getElem?_toArray, List.getElem?_cons_succ, List.getElem?_cons_zero, Option.getD_some] at z5
       refine obl_val rfl (wanted_none rfl) ?_ rfl
       go_simp
      | 5, _, _ =>
       have s4 : a.tmps[47]?.getD undef = (.pointer (some ⟨wr.heap.size, 1, none⟩)) := hd 4 (by kernel_rfl)
       obtain ⟨q0, q1, q2, q3, q4, q5, q6, q7, q8⟩ := HLV.out W hI.blk
       refine obl_val rfl (wanted_none rfl) ?_ rfl
       go_simp
      | 6, _, hn => exact absurd hn (by decide)
      | 7, _, _ =>
       have z5 := hc.same 5 (by kernel_rfl)
       simp only [List.getElem?_toArray, List.getElem?_cons_succ, List.getElem?_cons_zero, Option.getD_some] at z5
       refine obl_val rfl (wanted_none rfl) ?_ rfl
       go_simp
      | 8, _, _ =>
       have s7 : a.tmps[50]?.getD undef = (.pointer (some ⟨wr.heap.size, 2, none⟩)) := hd 7 (by kernel_rfl)
       obtain ⟨q0, q1, q2, q3, q4, q5, q6, q7, q8⟩ := HLV.out W hI.blk
       refine obl_val rfl (wanted_none rfl) ?_ rfl
       go_simp
      | 9, _, hn => exact absurd hn (by decide)
      | 10, _, _ =>
       have z5 := hc.same 5 (by kernel_rfl)
       simp only [List.getElem?_toArray, List.getElem?_cons_succ, List.getElem?_cons_zero, Option.getD_some] at z5
       refine obl_val rfl (wanted_none rfl) ?_ rfl
       go_simp
      | 11, _, _ =>
       have s10 : a.tmps[53]?.getD undef = (.pointer (some ⟨wr.heap.size, 3, none⟩)) := hd 10 (by kernel_rfl)
       obtain ⟨q0, q1, q2, q3, q4, q5, q6, q7, q8⟩ := HLV.out W hI.blk
       refine obl_val rfl (wanted_none rfl) ?_ rfl
       go_simp
      | 12, _, hn => exact absurd hn (by decide)
      | 13, _, _ =>
       have z5 := hc.same 5 (by kernel_rfl)
       simp only [List.getElem?_toArray, List.getElem?_cons_succ, List.getElem?_cons_zero, Option.getD_some] at z5
       refine obl_val rfl (wanted_none rfl) ?_ rfl
       go_simp
      | 14, _, _ =>
       have s13 : a.tmps[56]?.getD undef = (.pointer (some ⟨wr.heap.size, 4, none⟩)) := hd 13 (by kernel_rfl)
       obtain ⟨q0, q1, q2, q3, q4, q5, q6, q7, q8⟩ := HLV.out W hI.blk
       refine obl_val rfl (wanted_none rfl) ?_ rfl
       go_simp
      | 15, _, hn => exact absurd hn (by decide)
      | n + 16, h, _ => exact absurd h (by simp)
     ·match k, hk with
      | 0, _ =>
       have s0 : a.tmps[43]?.getD undef = (ptr g) := hd 0 (by kernel_rfl)
       have s2 : a.tmps[45]?.getD undef = (.int .i64 o.sup) := hd 2 (by kernel_rfl)
       obtain ⟨⟨sq, hw, hst⟩, hbk⟩ := hI
       refine obl_callK rfl (wanted_none rfl) (by go_simp) (num_any o.sup HLF.out.sup.1 HLF.out.sup.2 hw (Nat.le_trans (HLEN3.out 0 (by decide)) (by decide))) ?_
       rintro e w9 ⟨s9, rfl, hw9, hs9⟩
       exact ⟨_, rfl, _, rfl, rfl, WS.call hw hst hbk (by decide) (by decide) hw9 hs9 (by simp [List.take, lineB])⟩
      | 1, _ =>
       have s3 : a.tmps[46]?.getD undef = (ptr g) := hd 3 (by kernel_rfl)
       have s5 : a.tmps[48]?.getD undef = (.int .i64 o.cat) := hd 5 (by kernel_rfl)
       obtain ⟨⟨sq, hw, hst⟩, hbk⟩ := hI
       refine obl_callK rfl (wanted_none rfl) (by go_simp) (num_any o.cat HLF.out.cat.1 HLF.out.cat.2 hw (Nat.le_trans (HLEN3.out 1 (by decide)) (by decide))) ?_
       rintro e w9 ⟨s9, rfl, hw9, hs9⟩
       exact ⟨_, rfl, _, rfl, rfl, WS.call hw hst hbk (by decide) (by decide) hw9 hs9 (by simp [List.take, lineB])⟩
      | 2, _ =>
       have s6 : a.tmps[49]?.getD undef = (ptr g) := hd 6 (by kernel_rfl)
       have s8 : a.tmps[51]?.getD undef = (.string o.fr) := hd 8 (by kernel_rfl)
       obtain ⟨⟨sq, hw, hst⟩, hbk⟩ := hI
       refine obl_callK rfl (wanted_none rfl) (by go_simp) (text_any o.fr HLF.out.fr hw (HLEN3.out 2 (by decide))) ?_
       rintro e w9 ⟨s9, rfl, hw9, hs9⟩
       exact ⟨_, rfl, _, rfl, rfl, WS.call hw hst hbk (by decide) (by decide) hw9 hs9 (by simp [List.take, lineB])⟩
      | 3, _ =>
       have s9 : a.tmps[52]?.getD undef = (ptr g) := hd 9 (by kernel_rfl)
       have s11 : a.tmps[54]?.getD undef = (.string o.tw) := hd 11 (by kernel_rfl)
       obtain ⟨⟨sq, hw, hst⟩, hbk⟩ := hI
       refine obl_callK rfl (wanted_none rfl) (by go_simp) (text_any o.tw HLF.out.tw hw (HLEN3.out 3 (by decide))) ?_
       rintro e w9 ⟨s9, rfl, hw9, hs9⟩
       exact ⟨_, rfl, _, rfl, rfl, WS.call hw hst hbk (by decide) (by decide) hw9 hs9 (by simp [List.take, lineB])⟩
      | 4, _ =>
       have s12 : a.tmps[55]?.getD undef = (ptr g) := hd 12 (by kernel_rfl)
       have s14 : a.tmps[57]?.getD undef = (.string o.pl) := hd 14 (by kernel_rfl)
       obtain ⟨⟨sq, hw, hst⟩, hbk⟩ := hI
       refine obl_callK rfl (wanted_none rfl) (by go_simp) (text_any o.pl HLF.out.pl hw (HLEN3.out 4 (by decide))) ?_
       rintro e w9 ⟨s9, rfl, hw9, hs9⟩
       exact ⟨_, rfl, _, rfl, rfl, WS.call hw hst hbk (by decide) (by decide) hw9 hs9 (by simp [List.take, lineB])⟩
      | n + 5, h => exact absurd h (by simp)
     ·skip
      have hfr := grow_frame hc [(43, (ptr g)), (44, (.pointer (some ⟨wr.heap.size, 0, none⟩))), (45, (.int .i64 o.sup)), (46, (ptr g)), (47, (.pointer (some ⟨wr.heap.size, 1, none⟩))), (48, (.int .i64 o.cat)), (49, (ptr g)), (50, (.pointer (some ⟨wr.heap.size, 2, none⟩))), (51, (.string o.fr)), (52, (ptr g)), (53, (.pointer (some ⟨wr.heap.size, 3, none⟩))), (54, (.string o.tw)), (55, (ptr g)), (56, (.pointer (some ⟨wr.heap.size, 4, none⟩))), (57, (.string o.pl)), (58, (ptr g))] (by kernel_rfl) (fun p hp => by
        simp only [List.mem_cons, List.not_mem_nil, or_false] at hp
        rcases hp with rfl | rfl | rfl | rfl | rfl | rfl | rfl | rfl | rfl | rfl | rfl | rfl | rfl | rfl | rfl | rfl
        ·exact hs 0 43 (by decide) (by kernel_rfl)
        ·exact hs 1 44 (by decide) (by kernel_rfl)
        ·exact hs 2 45 (by decide) (by kernel_rfl)
        ·exact hs 3 46 (by decide) (by kernel_rfl)
        ·exact hs 4 47 (by decide) (by kernel_rfl)
        ·exact hs 5 48 (by decide) (by kernel_rfl)
        ·exact hs 6 49 (by decide) (by kernel_rfl)
        ·exact hs 7 50 (by decide) (by kernel_rfl)
        ·exact hs 8 51 (by decide) (by kernel_rfl)
        ·exact hs 9 52 (by decide) (by kernel_rfl)
        ·exact hs 10 53 (by decide) (by kernel_rfl)
        ·exact hs 11 54 (by decide) (by kernel_rfl)
        ·exact hs 12 55 (by decide) (by kernel_rfl)
        ·exact hs 13 56 (by decide) (by kernel_rfl)
        ·exact hs 14 57 (by decide) (by kernel_rfl)
        ·exact hs 15 58 (by decide) (by kernel_rfl)
        )
      simp only [List.range, List.range.loop, List.size_toArray, List.length_cons, List.length_nil, List.map_cons, List.map_nil, List.lookup_cons, List.lookup_nil, Nat.reduceAdd, Nat.reduceBEq, Option.getD_some, Option.getD_none, List.getElem?_toArray, List.getElem?_cons_succ, List.getElem?_cons_zero] at hfr
      subst hfr
      have HW5 := Lib.hid (show WS wr g LL sr wr.heap.size o.vs 55 (((lineB o).take 5).flatten ++ (((lineB o).drop 5).take 0).flatten) w13 by simpa [lineB] using hI)
      clear hc hs hI HW4
      go_upto_region 7 with fail
      refine wp_region_chain (by kernel_rfl) [ptr g, .pointer (some ⟨wr.heap.size, 5, none⟩), .int .i64 o.am, ptr g, .pointer (some ⟨wr.heap.size, 6, none⟩), .bool o.gr, ptr g, .pointer (some ⟨wr.heap.size, 7, none⟩), .int .i64 o.co, ptr g, .pointer (some ⟨wr.heap.size, 8, none⟩), .bool o.mx, ptr g] [3, 6, 9, 12] (fun k W => WS wr g LL sr wr.heap.size o.vs 55 (((lineB o).take 5).flatten ++ (((lineB o).drop 5).take k).flatten) W) (by kernel_rfl) (by kernel_rfl) (by kernel_rfl) (fun m W W' h hb => h.below hb) HW5.out (fun i hi hn m a W hc hI hd => ?_) (fun k hk a W hc hI hd => ?_) (fun a w14 hc hI hs => ?_)
      ·match i, hi, hn with
       | 0, _, _ =>
        have z0 := hc.same 0 (by kernel_rfl)
        simp only [List.getElem?_toArray, List.getElem?_cons_zero, Option.getD_some] at z0
        refine obl_val rfl (wanted_none rfl) ?_ rfl
        go_simp
       | 1, _, _ =>
        have z5 := hc.same 5 (by kernel_rfl)
        simp only [List.getElem?_toArray, List.getElem?_cons_succ, List.getElem?_cons_zero, Option.getD_some] at z5
        refine obl_val rfl (wanted_none rfl) ?_ rfl
        go_simp
       | 2, _, _ =>
        have s1 : a.tmps[60]?.getD undef = (.pointer (some ⟨wr.heap.size, 5, none⟩)) := hd 1 (by kernel_rfl)
        obtain ⟨q0, q1, q2, q3, q4, q5, q6, q7, q8⟩ := HLV.out W hI.blk
        refine obl_val rfl (wanted_none rfl) ?_ rfl
        go_simp
       | 3, _, hn => exact absurd hn (by decide)
       | 4, _, _ =>
        have z5 := hc.same 5 (by kernel_rfl)
        simp only [List.getElem?_toArray, List.getElem?_cons_succ, List.getElem?_cons_zero, Option.getD_some] at z5
        refine obl_val rfl (wanted_none rfl) ?_ rfl
        go_simp
       | 5, _, _ =>
        have s4 : a.tmps[63]?.getD undef = (.pointer (some ⟨wr.heap.size, 6, none⟩)) := hd 4 (by kernel_rfl)
        obtain ⟨q0, q1, q2, q3, q4, q5, q6, q7, q8⟩ := HLV.out W hI.blk
        refine obl_val rfl (wanted_none rfl) ?_ rfl
        go_simp
       | 6, _, hn => exact absurd hn (by decide)
       | 7, _, _ =>
        have z5 := hc.same 5 (by kernel_rfl)
        simp only [List.getElem?_toArray, List.getElem?_cons_succ, List.getElem?_cons_zero, Option.getD_some] at z5
        refine obl_val rfl (wanted_none rfl) ?_ rfl
        go_simp
       | 8, _, _ =>
        have s7 : a.tmps[66]?.getD undef = (.pointer (some ⟨wr.heap.size, 7, none⟩)) := hd 7 (by kernel_rfl)
        obtain ⟨q0, q1, q2, q3, q4, q5, q6, q7, q8⟩ := HLV.out W hI.blk
        refine obl_val rfl (wanted_none rfl) ?_ rfl
        go_simp
       | 9, _, hn => exact absurd hn (by decide)
       | 10, _, _ =>
        have z5 := hc.same 5 (by kernel_rfl)
        simp only [List.getElem?_toArray, List.getElem?_cons_succ, List.getElem?_cons_zero, Option.getD_some] at z5
        refine obl_val rfl (wanted_none rfl) ?_ rfl
        go_simp
       | 11, _, _ =>
        have s10 : a.tmps[69]?.getD undef = (.pointer (some ⟨wr.heap.size, 8, none⟩)) := hd 10 (by kernel_rfl)
        obtain ⟨q0, q1, q2, q3, q4, q5, q6, q7, q8⟩ := HLV.out W hI.blk
        refine obl_val rfl (wanted_none rfl) ?_ rfl
        go_simp
       | 12, _, hn => exact absurd hn (by decide)
       | n + 13, h, _ => exact absurd h (by simp)
      ·match k, hk with
       | 0, _ =>
        have s0 : a.tmps[59]?.getD undef = (ptr g) := hd 0 (by kernel_rfl)
        have s2 : a.tmps[61]?.getD undef = (.int .i64 o.am) := hd 2 (by kernel_rfl)
        obtain ⟨⟨sq, hw, hst⟩, hbk⟩ := hI
        refine obl_callK rfl (wanted_none rfl) (by go_simp) (num_any o.am HLF.out.am.1 HLF.out.am.2 hw (Nat.le_trans (HLEN4.out 0 (by decide)) (by decide))) ?_
        rintro e w9 ⟨s9, rfl, hw9, hs9⟩
        exact ⟨_, rfl, _, rfl, rfl, WS.call hw hst hbk (by decide) (by decide) hw9 hs9 (by simp [List.take, lineB, List.drop])⟩
       | 1, _ =>
        have s3 : a.tmps[62]?.getD undef = (ptr g) := hd 3 (by kernel_rfl)
        have s5 : a.tmps[64]?.getD undef = (.bool o.gr) := hd 5 (by kernel_rfl)
        obtain ⟨⟨sq, hw, hst⟩, hbk⟩ := hI
        refine obl_callK rfl (wanted_none rfl) (by go_simp) (flag_any o.gr hw (Nat.le_trans (HLEN4.out 1 (by decide)) (by decide))) ?_
        rintro e w9 ⟨s9, rfl, hw9, hs9⟩
        exact ⟨_, rfl, _, rfl, rfl, WS.call hw hst hbk (by decide) (by decide) hw9 hs9 (by simp [List.take, lineB, List.drop])⟩
       | 2, _ =>
        have s6 : a.tmps[65]?.getD undef = (ptr g) := hd 6 (by kernel_rfl)
        have s8 : a.tmps[67]?.getD undef = (.int .i64 o.co) := hd 8 (by kernel_rfl)
        obtain ⟨⟨sq, hw, hst⟩, hbk⟩ := hI
        refine obl_callK rfl (wanted_none rfl) (by go_simp) (num_any o.co HLF.out.co.1 HLF.out.co.2 hw (Nat.le_trans (HLEN4.out 2 (by decide)) (by decide))) ?_
        rintro e w9 ⟨s9, rfl, hw9, hs9⟩
        exact ⟨_, rfl, _, rfl, rfl, WS.call hw hst hbk (by decide) (by decide) hw9 hs9 (by simp [List.take, lineB, List.drop])⟩
       | 3, _ =>
        have s9 : a.tmps[68]?.getD undef = (ptr g) := hd 9 (by kernel_rfl)
        have s11 : a.tmps[70]?.getD undef = (.bool o.mx) := hd 11 (by kernel_rfl)
        obtain ⟨⟨sq, hw, hst⟩, hbk⟩ := hI
        refine obl_callK rfl (wanted_none rfl) (by go_simp) (flag_any o.mx hw (Nat.le_trans (HLEN4.out 3 (by decide)) (by decide))) ?_
        rintro e w9 ⟨s9, rfl, hw9, hs9⟩
        exact ⟨_, rfl, _, rfl, rfl, WS.call hw hst hbk (by decide) (by decide) hw9 hs9 (by simp [List.take, lineB, List.drop])⟩
       | n + 4, h => exact absurd h (by simp)
      ·skip
       have hfr := grow_frame hc [(59, (ptr g)), (60, (.pointer (some ⟨wr.heap.size, 5, none⟩))), (61, (.int .i64 o.am)), (62, (ptr g)), (63, (.pointer (some ⟨wr.heap.size, 6, none⟩))), (64, (.bool o.gr)), (65, (ptr g)), (66, (.pointer (some ⟨wr.heap.size, 7, none⟩))), (67, (.int .i64 o.co)), (68, (ptr g)), (69, (.pointer (some ⟨wr.heap.size, 8, none⟩))), (70, (.bool o.mx)), (71, (ptr g))] (by kernel_rfl) (fun p hp => by
         simp only [List.mem_cons, List.not_mem_nil, or_false] at hp
         rcases hp with rfl | rfl | rfl | rfl | rfl | rfl | rfl | rfl | rfl | rfl | rfl | rfl | rfl
         ·exact hs 0 59 (by decide) (by kernel_rfl)
         ·exact hs 1 60 (by decide) (by kernel_rfl)
         ·exact hs 2 61 (by decide) (by kernel_rfl)
         ·exact hs 3 62 (by decide) (by kernel_rfl)
         ·exact hs 4 63 (by decide) (by kernel_rfl)
         ·exact hs 5 64 (by decide) (by kernel_rfl)
         ·exact hs 6 65 (by decide) (by kernel_rfl)
         ·exact hs 7 66 (by decide) (by kernel_rfl)
         ·exact hs 8 67 (by decide) (by kernel_rfl)
         ·exact hs 9 68 (by decide) (by kernel_rfl)
         ·exact hs 10 69 (by decide) (by kernel_rfl)
         ·exact hs 11 70 (by decide) (by kernel_rfl)
         ·exact hs 12 71 (by decide) (by kernel_rfl)
         )
       simp only [List.range, List.range.loop, List.size_toArray, List.length_cons, List.length_nil, List.map_cons, List.map_nil, List.lookup_cons, List.lookup_nil, Nat.reduceAdd, Nat.reduceBEq, Option.getD_some, Option.getD_none, List.getElem?_toArray, List.getElem?_cons_succ, List.getElem?_cons_zero] at hfr
       subst hfr
       have hI' : WS wr g LL sr wr.heap.size o.vs 55 (lineL o) w14 := by simpa [lineL, lineB] using hI
       obtain ⟨s14, hw14, hs14⟩ := hI'.ex
       have HW6 := Lib.hid hw14
       have HS6 := Lib.hid (HSR.out.trans hs14)
       clear hc hs hI hI' HW5 hw14 hs14
       go_wp2
       go_roundg (d.ls.length - (k + 1))
       case measure => have := HG.out; omega
       case rel => exact ⟨k + 1, rfl, by omega, by simp, s14, by rw [HNX.out]; have h := HW6.out; rw [← HLE.out] at h; simpa [List.append_assoc] using h, HS6.out⟩
    ·obtain rfl : k = d.ls.length := by omega
     go_wp2
     go_end0
     refine ⟨sr, rfl, ?_, HSR.out⟩
     have h := HWR.out
     rw [List.take_length] at h
     exact h
end Go.Proofs.Ytnfpmobmfcgfnaa

