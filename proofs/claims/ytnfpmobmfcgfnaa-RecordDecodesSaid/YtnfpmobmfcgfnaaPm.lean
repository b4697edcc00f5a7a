/- THE WALKS OF ids.common AND OF Check's CLOSURE (printed by gen/genidb.py). -/
import Derived.Test.YtnfpmobmfcgfnaaPl
import Derived.Test.YtnfpmobmfcgfnaaPa
import Derived.Test.YtnfpmobmfcgfnaaPh
import Derived.Test.YtnfpmobmfcgfnaaPg
import Derived.WalkSpells
import Derived.Carry
import Derived.Deep.QuietTactic
import Derived.BigQuiet
import Derived.OrdersIn
import Derived.TacticsIn
import Derived.RangeFuncNested
import Derived.Deep.DeepCutAuto
import Derived.StillTailTactics
namespace Go.Proofs.Ytnfpmobmfcgfnaa
open Go.RowKit
theorem lt_of_blk {w : World} {b : Nat} {o : Obj} (h : w.heap[b]? = some o) : b < w.heap.size := (Array.getElem?_eq_some_iff.1 h).1
theorem free_of {w : World} {b : Nat} {cs : Array Value} {t : TypeId} (h : w.heap[b]? = some (.cells cs t (0, 0))) (i : Nat) : w.frozen? ⟨b, i, none⟩ = false := by
 simp [World.frozen?, h]
theorem wanted_not {ops : Array Oper} {o : Oper} {a : Act} {g : Nat} {b : Bool} {d : Nat} (h : o.guard = some (g, b)) (hd : dstOf ops g = some d) (hv : a.tmps[d]?.getD undef = .bool (!b)) : Region.wanted o (yielded ops a.tmps) = false := by
 unfold Region.wanted
 rw [h]
 have : yielded ops a.tmps g = some (!b) := by
  unfold yielded
  unfold dstOf at hd
  rw [hd]
  cases hx : a.tmps[d]? with
  | none => rw [hx] at hv; cases hv
  | some x =>
   rw [hx] at hv
   simp only [Option.getD_some] at hv
   subst hv
   simp [hx]
 simp [this]
theorem obl_grow {P : Program} {ops : Array Oper} {Q : Exit → Act → World → Prop} {sp : Nat → Value → World → Prop} {i : Nat} {o : Oper} {a : Act} {w w' : World} {v : Value} (ho : ops[i]? = some o) (hw : Region.wanted o (yielded ops a.tmps) = true) (hr : (execOp a.eval o).run P w = .ok (.value v) w') (hv : sp i v w') (hb : Below w.heap.size w w') :
  wpOp P ops Q i (fun a' w' => ∃ v, a' = a.put (dstOf ops i) v ∧ sp i v w' ∧ Below w.heap.size w w') a w := by
 unfold wpOp
 simp only [ho, hw, if_true]
 refine .inl ?_
 unfold Oper.wp
 rw [hr]
 exact ⟨v, by unfold dstOf; rw [ho]; rfl, hv, hb⟩
/-- a document's block -/
def DBlk (w : World) (b : Nat) (o : Dm) (lv : Value) : Prop := w.heap[b]? = some (.cells (o.vs lv) 25 (0, 0))
section
variable {w w' : World} {b : Nat} {o o' : Dm} {lv lv' : Value}
theorem DBlk.box (h : DBlk w b o lv) : DBox w b o lv :=
 ⟨cells_of h 0 _ rfl, cells_of h 1 _ rfl, cells_of h 2 _ rfl, cells_of h 3 _ rfl, cells_of h 4 _ rfl, cells_of h 5 _ rfl, cells_of h 6 _ rfl, cells_of h 7 _ rfl, cells_of h 8 _ rfl⟩
theorem DBlk.below (h : DBlk w b o lv) (k : Below w.heap.size w w') : DBlk w' b o lv := (k.block b (lt_of_blk h)).trans h
theorem DBlk.free (h : DBlk w b o lv) : w.frozen? ⟨b, 0, none⟩ = false ∧ w.frozen? ⟨b, 1, none⟩ = false ∧ w.frozen? ⟨b, 2, none⟩ = false ∧ w.frozen? ⟨b, 3, none⟩ = false ∧ w.frozen? ⟨b, 4, none⟩ = false ∧ w.frozen? ⟨b, 5, none⟩ = false ∧ w.frozen? ⟨b, 6, none⟩ = false ∧ w.frozen? ⟨b, 7, none⟩ = false ∧ w.frozen? ⟨b, 8, none⟩ = false :=
 ⟨free_of h 0, free_of h 1, free_of h 2, free_of h 3, free_of h 4, free_of h 5, free_of h 6, free_of h 7, free_of h 8⟩
/-- a document is stored -/
abbrev setD (w : World) (b : Nat) (o : Dm) (lv : Value) : World := ((((((((w.setCell ⟨b, 0, none⟩ (.string o.id)).setCell ⟨b, 1, none⟩ (.bool o.sale)).setCell ⟨b, 2, none⟩ (.bool o.cred)).setCell ⟨b, 3, none⟩ (.string o.ref)).setCell ⟨b, 4, none⟩ (.int .i64 o.day)).setCell ⟨b, 5, none⟩ (.string o.cty)).setCell ⟨b, 6, none⟩ (.string o.num)).setCell ⟨b, 7, none⟩ (.string o.cur)).setCell ⟨b, 8, none⟩ lv
theorem DBlk.set (h : DBlk w b o' lv') (o : Dm) (lv : Value) : DBlk (setD w b o lv) b o lv ∧ Kept (fun x => x ≠ b) w (setD w b o lv) := by
 unfold DBlk Dm.vs at h
 have s0 := Lib.heap_setCell_same (i := 0) h (.string o.id)
 have s1 := Lib.heap_setCell_same (i := 1) s0 (.bool o.sale)
 have s2 := Lib.heap_setCell_same (i := 2) s1 (.bool o.cred)
 have s3 := Lib.heap_setCell_same (i := 3) s2 (.string o.ref)
 have s4 := Lib.heap_setCell_same (i := 4) s3 (.int .i64 o.day)
 have s5 := Lib.heap_setCell_same (i := 5) s4 (.string o.cty)
 have s6 := Lib.heap_setCell_same (i := 6) s5 (.string o.num)
 have s7 := Lib.heap_setCell_same (i := 7) s6 (.string o.cur)
 have s8 := Lib.heap_setCell_same (i := 8) s7 lv
 refine ⟨by unfold DBlk Dm.vs; simpa using s8, ?_⟩
 exact (((((((((Kept.refl _ w).setCell _ _ (fun _ h => h rfl)).setCell _ _ (fun _ h => h rfl)).setCell _ _ (fun _ h => h rfl)).setCell _ _ (fun _ h => h rfl)).setCell _ _ (fun _ h => h rfl)).setCell _ _ (fun _ h => h rfl)).setCell _ _ (fun _ h => h rfl)).setCell _ _ (fun _ h => h rfl)).setCell _ _ (fun _ h => h rfl)
end
def ofEq (a b : Dm) : Prop := a.sale = b.sale ∧ a.cty = b.cty ∧ a.num = b.num ∧ a.cur = b.cur
instance (a b : Dm) : Decidable (ofEq a b) := by unfold ofEq; exact inferInstance
end Go.Proofs.Ytnfpmobmfcgfnaa

/- THE WALK OF octroilaw08.Light: what a light command is sure to be (the sums of lengths may wrap: nothing is said of them). -/
namespace Go.Proofs.Ytnfpmobmfcgfnaa
open Go.RowKit
def LightPost (o : Cm) (w : World) (e : Ending) (w' : World) : Prop :=
 ∃ b, e = .returned (.bool b) ∧ (b = true → o.txt.size ≤ 5000 ∧ o.cty.size ≤ 200 ∧ o.doc.ls.length ≤ 70) ∧ Below w.heap.size w w'
theorem LightPost.no {o : Cm} {w w' : World} (h : Below w.heap.size w w') : LightPost o w (.returned (.bool false)) w' := ⟨false, rfl, fun h => by simp at h, h⟩
set_option maxRecDepth 100000 in
set_option maxHeartbeats 4000000 in
theorem light8_any {w : World} {B : Nat} {v : Value} {o : Cm} (hs : CmV w B v o) (hB : B ≤ w.heap.size) : Calls Try.prog 24 #[v] w (LightPost o w) := by
 obtain ⟨lv, rfl, hls, hok⟩ := hs
 have hls2 := hls
 have hno : ∀ w', Below w.heap.size w w' → LightPost o w (.returned (.bool false)) w' := fun w' h => LightPost.no h
 have hyes : ∀ w', o.txt.size ≤ 5000 → o.cty.size ≤ 200 → o.doc.ls.length ≤ 70 → Below w.heap.size w w' → LightPost o w (.returned (.bool true)) w' := fun w' h1 h2 h3 h4 => ⟨true, rfl, fun _ => ⟨h1, h2, h3⟩, h4⟩
 clear hok
 obtain ⟨A, c, rfl, hcl, hcm⟩ := hls.form
 obtain ⟨kind, cty, txt, cat, bp, day, til, nm, dn, ix, pk, py, px, ⟨id, sale, cred, ref, dday, dcty, num, cur, ls⟩⟩ := o
 simp only [Cm.vs] at *
 have hal := (Below.refl w.heap.size w).alloc (Nat.le_refl _) (.cells #[.int .i64 kind, .string cty, .string txt, .int .i64 cat, .int .i64 bp, .int .i64 day, .int .i64 til, .int .i64 nm, .int .i64 dn, .int .i64 ix, .int .i64 pk, .int .i64 py, .int .i64 px, .string id, .bool sale, .bool cred, .string ref, .int .i64 dday, .string dcty, .string num, .string cur, .slice A ls.length c] 53)
 obtain ⟨S1, hS1⟩ : ∃ S, IntKind.i64.wrap ((id.size : Int) + (ref.size : Int)) = S := ⟨_, rfl⟩
 obtain ⟨S2, hS2⟩ : ∃ S, IntKind.i64.wrap ((dcty.size : Int) + (num.size : Int)) = S := ⟨_, rfl⟩
 obtain ⟨S3, hS3⟩ : ∃ S, IntKind.i64.wrap (S2 + (cur.size : Int)) = S := ⟨_, rfl⟩
 have HLS := Lib.hid hls2
 have HAL := Lib.hid hal
 have HNO := Lib.hid hno
 have HYES := Lib.hid hyes
 clear hls hls2 hal hno hyes
 by_cases h1 : 5000 < txt.size
 ·have e1 : decide ((5000 : Int) < (txt.size : Int)) = true := decide_eq_true (by omega)
  go_enter Try.func24, Try.ntmps24
  go_wp2
  go_ret
  exact HNO.out _ HAL.out
 have e1 : decide ((5000 : Int) < (txt.size : Int)) = false := decide_eq_false (by omega)
 by_cases h2 : 200 < cty.size
 ·have e2 : decide ((200 : Int) < (cty.size : Int)) = true := decide_eq_true (by omega)
  go_enter Try.func24, Try.ntmps24
  go_wp2
  go_ret
  exact HNO.out _ HAL.out
 have e2 : decide ((200 : Int) < (cty.size : Int)) = false := decide_eq_false (by omega)
 by_cases h3 : 500 < S1
 ·have e3 : decide ((500 : Int) < S1) = true := decide_eq_true h3
  go_enter Try.func24, Try.ntmps24
  go_wp2
  go_ret
  exact HNO.out _ HAL.out
 have e3 : decide ((500 : Int) < S1) = false := decide_eq_false h3
 by_cases h4 : 500 < S3
 ·have e4 : decide ((500 : Int) < S3) = true := decide_eq_true h4
  go_enter Try.func24, Try.ntmps24
  go_wp2
  go_ret
  exact HNO.out _ HAL.out
 have e4 : decide ((500 : Int) < S3) = false := decide_eq_false h4
 by_cases h5 : 70 < ls.length
 ·have e5 : decide ((70 : Int) < (ls.length : Int)) = true := decide_eq_true (by omega)
  go_enter Try.func24, Try.ntmps24
  go_wp2
  go_ret
  exact HNO.out _ HAL.out
 have e5 : decide ((70 : Int) < (ls.length : Int)) = false := decide_eq_false (by omega)
 have HY := Lib.hid (fun w' h => HYES.out w' (by omega) (by omega) (by omega) h)
 clear HYES
 go_enter Try.func24, Try.ntmps24
 go_wp2
 go_loopg [4, 55] ls.length (fun gk x4 x55 wr => ∃ k : Nat, gk = ls.length - k ∧ k ≤ ls.length ∧ x55 = .int .i64 (k : Int) ∧ Below w.heap.size w wr)
 case atStart => exact ⟨0, rfl, Nat.zero_le _, rfl, HAL.out⟩
 case round =>
  obtain ⟨k, hgk, hk, rfl, hbel⟩ := hrel
  have HG := Lib.hid hgk
  have hwr := hbel.size
  clear hgk
  by_cases h : k < ls.length
  ·obtain ⟨ad, c', hv, hadB, hok, hat⟩ := (HLS.out.below (hbel.mono hB)).at_ k h
   cases hv
   have i1 : (0 : Int) ≤ (k : Int) := by omega
   have i2 : (k : Int) < (ls.length : Int) := by omega
   have i3 : IntKind.i64.wrap ((k : Int) + 1) = (k : Int) + 1 := by rw [IntKind.wrap_i64]; omega
   generalize ls[k] = o at *
   obtain ⟨sup, lcat, fr, tw, pl, am, gr, co, mx⟩ := o
   obtain ⟨c0, c1, c2, c3, c4, c5, c6, c7, c8⟩ := hat
   simp only at c0 c1 c2 c3 c4 c5 c6 c7 c8
   have HB2 := Lib.hid (hbel.alloc hwr (.cells #[.int .i64 sup, .int .i64 lcat, .string fr, .string tw, .string pl, .int .i64 am, .bool gr, .int .i64 co, .bool mx] 55))
   obtain ⟨S4, hS4⟩ : ∃ S, IntKind.i64.wrap ((fr.size : Int) + (tw.size : Int)) = S := ⟨_, rfl⟩
   obtain ⟨S5, hS5⟩ : ∃ S, IntKind.i64.wrap (S4 + (pl.size : Int)) = S := ⟨_, rfl⟩
   clear hok hbel
   by_cases h6 : 300 < S5
   ·have e6 : decide ((300 : Int) < S5) = true := decide_eq_true h6
    go_wp2
    go_ret
    exact HNO.out _ HB2.out
   ·have e6 : decide ((300 : Int) < S5) = false := decide_eq_false h6
    go_wp2
    go_roundg (ls.length - (k + 1))
    case measure => have := HG.out; omega
    case rel => exact ⟨k + 1, rfl, by omega, by simp, HB2.out⟩
  ·obtain rfl : k = ls.length := by omega
   go_wp2
   go_ret
   exact HY.out _ hbel
end Go.Proofs.Ytnfpmobmfcgfnaa

/- A DOCUMENT IS PUT INTO A SET, PLAINLY. -/
namespace Go.Proofs.Ytnfpmobmfcgfnaa
open Go.RowKit
theorem MapV.kind {w : World} {b n m : Nat} {f : List UInt8 → Option Value} (h : MapV w b n m f) : ∃ es cl, w.heap[b]? = some (.map es cl) := by
 obtain ⟨D, ⟨es, cl, hb, _⟩, _⟩ := h
 exact ⟨es, cl, hb⟩
section
variable {w w' : World} {base g : Nat} {Z : Nat → Prop} {dD dC docs : List Dm} {bd bc nc m : Nat} {fd fc fd' fc' : List UInt8 → Option Value} {d : Dm} {t : TriD}
end
end Go.Proofs.Ytnfpmobmfcgfnaa

/- THE WALK OF octroilaw08.Simple. -/
namespace Go.Proofs.Ytnfpmobmfcgfnaa
open Go.RowKit
theorem below_row {B g : Nat} {w0 w : World} (hb : Below B w0 w) (hBg : B ≤ g) (cs : Array Value) : Below B w0 (w.setRow g cs) :=
 hb.trans ⟨rfl, rfl, rfl, by simp [World.setRow], fun k hk => setRow_other w g k cs (by omega)⟩
def simL : Ln := ⟨2, 1, ⟨#[]⟩, ⟨#[]⟩, ⟨#[]⟩, 1000, false, 0, false⟩
def simD : Dm := ⟨⟨#[97]⟩, true, false, ⟨#[]⟩, 19000, ⟨#[68, 69]⟩, ⟨#[]⟩, ⟨#[]⟩, [simL]⟩
def simC : Cm := ⟨8, ⟨#[]⟩, ⟨#[]⟩, 0, 0, 0, 0, 0, 0, 0, 0, 0, 0, simD⟩
theorem simL_ok : simL.ok := ⟨⟨by decide, by decide⟩, ⟨by decide, by decide⟩, len_zero, len_zero, len_zero, ⟨by decide, by decide⟩, i64_zero⟩
theorem simD_ok : simD.ok := ⟨by show 1 ≤ maxLen; simp [maxLen], len_zero, ⟨by decide, by decide⟩, by show 2 ≤ maxLen; simp [maxLen], len_zero, len_zero, fun l hl => by
 have : l = simL := by simpa [simD] using hl
 subst this
 exact simL_ok⟩
theorem simC_ok : simC.ok := ⟨⟨by decide, by decide⟩, len_zero, len_zero, i64_zero, i64_zero, i64_zero, i64_zero, i64_zero, i64_zero, i64_zero, i64_zero, i64_zero, i64_zero, simD_ok⟩
theorem simD_lns {w : World} {b : Nat} (h : w.heap[b]? = some (.cells simL.vs 55 (0, 0))) : Lns w w.heap.size (.slice (some ⟨b, 0, none⟩) 1 1) [simL] :=
 ⟨_, 1, rfl, Nat.le_refl _, by simp [maxLen], fun _ => ⟨_, rfl, lt_of_blk h, fun j x hj => by
  match j, hj with
  | 0, hj =>
   cases hj
   exact ⟨simL_ok, cells_of h 0 _ rfl, cells_of h 1 _ rfl, cells_of h 2 _ rfl, cells_of h 3 _ rfl, cells_of h 4 _ rfl, cells_of h 5 _ rfl, cells_of h 6 _ rfl, cells_of h 7 _ rfl, cells_of h 8 _ rfl⟩
  | n + 1, hj => simp at hj⟩⟩
set_option maxRecDepth 100000 in
theorem sim_b1 (W : World) : (Instr.build 55 #[(0, .int .i64 2), (1, .int .i64 1), (5, .int .i64 1000)]).run Try.prog W = .ok (.agg simL.vs) W := run_build W 55 _ _ (by kernel_rfl)
set_option maxRecDepth 100000 in
theorem sim_b2 (W : World) (A : Addr) : (Instr.build 25 #[(0, .string ⟨#[97]⟩), (1, .bool true), (4, .int .i64 19000), (5, .string ⟨#[68, 69]⟩), (8, .slice (some A) 1 1)]).run Try.prog W = .ok (.agg (simD.vs (.slice (some A) 1 1))) W := run_build W 25 _ _ (by kernel_rfl)
set_option maxRecDepth 100000 in
theorem sim_b3 (W : World) (A : Addr) : (Instr.build 53 #[(0, .int .i64 8), (11, .agg (simD.vs (.slice (some A) 1 1)))]).run Try.prog W = .ok (.agg (simC.vs (.slice (some A) 1 1))) W := run_build W 53 _ _ (by kernel_rfl)
def SimplePost (w : World) (e : Ending) (w' : World) : Prop := ∃ b, e = .returned (.agg (simC.vs (.slice (some ⟨b, 0, none⟩) 1 1))) ∧ w'.heap[b]? = some (.cells simL.vs 55 (0, 0)) ∧ Below w.heap.size w w'
set_option maxRecDepth 100000 in
set_option maxHeartbeats 4000000 in
theorem simple_any (w : World) : Calls Try.prog 38 #[] w (SimplePost w) := by
 have b1 := fun W => sim_b1 W
 have b2 := fun W A => sim_b2 W A
 have b3 := fun W A => sim_b3 W A
 simp only [simL, simD, simC, Ln.vs, Dm.vs, Cm.vs] at b1 b2 b3
 unfold SimplePost
 simp only [simC, simD, Cm.vs]
 go_enter Try.func38, Try.ntmps38
 go_upto_region 1 with fail
 have hi : (Try.prog.info? 53).map (·.size) = some 22 := by kernel_rfl
 have HI := Lib.hid hi
 clear hi
 have hzs : (#[.int .i64 0, .string ⟨#[]⟩, .string ⟨#[]⟩, .int .i64 0, .int .i64 0, .int .i64 0, .int .i64 0, .int .i64 0, .int .i64 0, .int .i64 0, .int .i64 0, .int .i64 0, .int .i64 0, .string ⟨#[]⟩, .bool false, .bool false, .string ⟨#[]⟩, .int .i64 0, .string ⟨#[]⟩, .string ⟨#[]⟩, .string ⟨#[]⟩, .slice none 0 0] : Array Value).size = 22 := rfl
 generalize (#[.int .i64 0, .string ⟨#[]⟩, .string ⟨#[]⟩, .int .i64 0, .int .i64 0, .int .i64 0, .int .i64 0, .int .i64 0, .int .i64 0, .int .i64 0, .int .i64 0, .int .i64 0, .int .i64 0, .string ⟨#[]⟩, .bool false, .bool false, .string ⟨#[]⟩, .int .i64 0, .string ⟨#[]⟩, .string ⟨#[]⟩, .string ⟨#[]⟩, .slice none 0 0] : Array Value) = ZC at *
 have hcs : (#[.int .i64 8, .string ⟨#[]⟩, .string ⟨#[]⟩, .int .i64 0, .int .i64 0, .int .i64 0, .int .i64 0, .int .i64 0, .int .i64 0, .int .i64 0, .int .i64 0, .int .i64 0, .int .i64 0, .string ⟨#[97]⟩, .bool true, .bool false, .string ⟨#[]⟩, .int .i64 19000, .string ⟨#[68, 69]⟩, .string ⟨#[]⟩, .string ⟨#[]⟩, .slice (some ⟨w.heap.size + 1, 0, none⟩) 1 1] : Array Value).size = 22 := rfl
 have hone : (#[.int .i64 8, .string ⟨#[]⟩, .string ⟨#[]⟩, .int .i64 0, .int .i64 0, .int .i64 0, .int .i64 0, .int .i64 0, .int .i64 0, .int .i64 0, .int .i64 0, .int .i64 0, .int .i64 0, .string ⟨#[97]⟩, .bool true, .bool false, .string ⟨#[]⟩, .int .i64 19000, .string ⟨#[68, 69]⟩, .string ⟨#[]⟩, .string ⟨#[]⟩, .slice (some ⟨w.heap.size + 1, 0, none⟩) 1 1] : Array Value).all (·.oneCell') = true := by kernel_rfl
 have hzh : ((w.alloc (.cells ZC 53)).alloc (.cells simL.vs 55)).heap[w.heap.size]? = some (.cells ZC 53 (0, 0)) := by rw [heap_alloc_old _ _ (by simp), heap_alloc_new]
 have hlh : ∀ cs, (((w.alloc (.cells ZC 53)).alloc (.cells simL.vs 55)).setRow w.heap.size cs).heap[w.heap.size + 1]? = some (.cells simL.vs 55 (0, 0)) := fun cs => by
  rw [setRow_other _ _ _ _ (by omega)]
  have := heap_alloc_new (w.alloc (.cells ZC 53)) (.cells simL.vs 55 (0, 0))
  simpa using this
 have hb2 := ((Below.refl w.heap.size w).alloc (Nat.le_refl _) (.cells ZC 53)).alloc (by simp) (.cells simL.vs 55)
 simp only [simL, Ln.vs] at hzh hlh hb2
 have HZH := Lib.hid hzh
 have HLN := Lib.hid hlh
 have HB2 := Lib.hid hb2
 clear hzh hlh hb2
 have HZS := Lib.hid hzs
 have HCS := Lib.hid hcs
 have HON := Lib.hid hone
 clear hzs hcs hone
 go_wp2_with ((with_reducible refine wpList_store_row rfl 53 _ _ rfl w.heap.size _ rfl rfl 53 ZC HZH.out (by rw [HI.out, HCS.out]) (by rw [HZS.out, HCS.out]) HON.out ?_))
 exact bodyPost_ret (results_cell_row rfl _ _ w.heap.size 53 _ (0, 0) _ rfl (setRow_heap _ _ _ _ _ _ HZH.out) Try.underlying53 rfl (by rw [HI.out, HCS.out])) rfl ⟨w.heap.size + 1, rfl, HLN.out _, below_row HB2.out (Nat.le_refl _) _⟩
end Go.Proofs.Ytnfpmobmfcgfnaa

