/- TWO STRUCTS ARE COMPARED: lines, periods, arrays of texts and of ints. -/
import Derived.Test.YtnfpmobmfcgfnaaLnA
import Derived.DeepKeys
namespace Go.Proofs.Ytnfpmobmfcgfnaa
open Go.RowKit
theorem eq_deep {t : TypeId} {m : Nat} (hm : m ≤ 10000) (hk : Try.prog.keyTypeAt m t = true) {D D' : Nat} {X Y : Array Value} {LX LY : List Lit} (fX : (Value.agg X).formed Try.prog t = true) (fY : (Value.agg Y).formed Try.prog t = true)
    (hX : Try.prog.keyLits D t X.toList = some LX) (hY : Try.prog.keyLits D' t Y.toList = some LY) (w : World) : ∃ r : Bool, (Op.equalIn 10000 t (.agg X) (.agg Y)).run Try.prog w = .ok r w ∧ (r = true ↔ LX = LY) := by
  have := run_equalIn_deep (P := Try.prog) (10000 - m) m t hk w D D' (.agg X) (.agg Y) LX LY fX fY hX hY
  rwa [Nat.sub_add_cancel hm] at this
theorem eql_deep {t : TypeId} {m : Nat} (hm : m ≤ 10000) (hk : Try.prog.keyTypeAt m t = true) {D D' : Nat} {X Y : Array Value} {LX LY : List Lit} (fX : (Value.agg X).formed Try.prog t = true) (fY : (Value.agg Y).formed Try.prog t = true)
    (hX : Try.prog.keyLits D t X.toList = some LX) (hY : Try.prog.keyLits D' t Y.toList = some LY) {p : Prop} [Decidable p] (hp : LX = LY ↔ p) (w : World) : (binOp .eql t (.agg X) (.agg Y)).run Try.prog w = .ok (.bool (decide p)) w := by
  obtain ⟨r, h1, h2⟩ := eq_deep hm hk fX fY hX hY w
  rw [run_eql_struct, h1, Result.andThen_ok, show r = decide p by rw [Bool.eq_iff_iff, decide_eq_true_eq, h2, hp]]
theorem neq_deep {t : TypeId} {m : Nat} (hm : m ≤ 10000) (hk : Try.prog.keyTypeAt m t = true) {D D' : Nat} {X Y : Array Value} {LX LY : List Lit} (fX : (Value.agg X).formed Try.prog t = true) (fY : (Value.agg Y).formed Try.prog t = true)
    (hX : Try.prog.keyLits D t X.toList = some LX) (hY : Try.prog.keyLits D' t Y.toList = some LY) {p : Prop} [Decidable p] (hp : LX = LY ↔ p) (w : World) : (binOp .neq t (.agg X) (.agg Y)).run Try.prog w = .ok (.bool (!decide p)) w := by
  obtain ⟨r, h1, h2⟩ := eq_deep hm hk fX fY hX hY w
  rw [run_neq_struct, h1, Result.andThen_ok, show r = decide p by rw [Bool.eq_iff_iff, decide_eq_true_eq, h2, hp]]
theorem lit_wf {n : Int} (h : I64 n) : (Lit.int .i64 n).wf = true := by
  obtain ⟨h1, h2⟩ := h
  show (decide (IntKind.i64.min ≤ n) && decide (n ≤ IntKind.i64.max)) = true
  rw [show IntKind.i64.min = -9223372036854775808 by decide, show IntKind.i64.max = 9223372036854775807 by decide]
  simp [h1, h2]
theorem toList_data (a b : ByteArray) : a.data.toList = b.data.toList ↔ a = b :=
  ⟨fun h => by
    cases a; cases b
    congr 1
    exact Array.toList_inj.1 h, fun h => by rw [h]⟩
theorem Ln.eq_iff (a b : Ln) : (a.sup = b.sup ∧ a.cat = b.cat ∧ a.fr = b.fr ∧ a.tw = b.tw ∧ a.pl = b.pl ∧ a.am = b.am ∧ a.gr = b.gr ∧ a.co = b.co ∧ a.mx = b.mx) ↔ a = b := by
  constructor
  · rintro ⟨h1, h2, h3, h4, h5, h6, h7, h8, h9⟩
    cases a; cases b
    simp only at *
    subst h1 h2 h3 h4 h5 h6 h7 h8 h9
    rfl
  · rintro rfl
    exact ⟨rfl, rfl, rfl, rfl, rfl, rfl, rfl, rfl, rfl⟩
instance : DecidableEq Ln := fun a b => decidable_of_iff _ (Ln.eq_iff a b)
def Ln.lits (o : Ln) : List Lit := [.int .i64 o.sup, .int .i64 o.cat, .string o.fr.data.toList, .string o.tw.data.toList, .string o.pl.data.toList, .int .i64 o.am, .bool o.gr, .int .i64 o.co, .bool o.mx]
theorem Ln.lits_iff (a b : Ln) : a.lits = b.lits ↔ a = b := by
  rw [← Ln.eq_iff]
  simp only [Ln.lits, List.cons.injEq, Lit.int.injEq, Lit.string.injEq, Lit.bool.injEq, toList_data, true_and, and_true]
theorem ln_fields : (Try.prog.fieldsOf 55).toList.map (fun f => (f.type, f.offset, f.name != "_")) = [(3, 0, true), (3, 1, true), (9, 2, true), (9, 3, true), (9, 4, true), (3, 5, true), (4, 6, true), (3, 7, true), (4, 8, true)] := by kernel_rfl
theorem ln_under : Try.prog.underlying 55 = some (.struct (Try.prog.fieldsOf 55)) := by kernel_rfl
theorem cells_int : Try.prog.cellsOf 3 = 1 := by kernel_rfl
theorem cells_str : Try.prog.cellsOf 9 = 1 := by kernel_rfl
theorem cells_bool : Try.prog.cellsOf 4 = 1 := by kernel_rfl
theorem lits_int {n : Int} (h : I64 n) (d : Nat) : Try.prog.keyLits (d + 1) 3 [.int .i64 n] = some [.int .i64 n] := by
  unfold Program.keyLits
  rw [Try.underlying3]
  simp [lit_wf h]
theorem lits_str {s : ByteArray} (h : s.size ≤ maxLen) (d : Nat) : Try.prog.keyLits (d + 1) 9 [.string s] = some [.string s.data.toList] := by
  unfold Program.keyLits
  rw [Try.underlying9]
  simp [h]
theorem lits_bool (b : Bool) (d : Nat) : Try.prog.keyLits (d + 1) 4 [.bool b] = some [.bool b] := by
  unfold Program.keyLits
  rw [Try.underlying4]
theorem Ln.keyLits {o : Ln} (h : o.ok) : Try.prog.keyLits 2 55 o.vs.toList = some o.lits := by
  have hf := ln_fields
  unfold Program.keyLits
  rw [ln_under]
  generalize Try.prog.fieldsOf 55 = fs at *
  obtain ⟨fs⟩ := fs
  simp only at hf ⊢
  rcases fs with _ | ⟨f0, _ | ⟨f1, _ | ⟨f2, _ | ⟨f3, _ | ⟨f4, _ | ⟨f5, _ | ⟨f6, _ | ⟨f7, _ | ⟨f8, _ | ⟨f9, r⟩⟩⟩⟩⟩⟩⟩⟩⟩⟩ <;> simp only [List.map_cons, List.map_nil, List.cons.injEq, Prod.mk.injEq, reduceCtorEq, and_false] at hf
  obtain ⟨⟨t0, o0, n0⟩, ⟨t1, o1, n1⟩, ⟨t2, o2, n2⟩, ⟨t3, o3, n3⟩, ⟨t4, o4, n4⟩, ⟨t5, o5, n5⟩, ⟨t6, o6, n6⟩, ⟨t7, o7, n7⟩, ⟨t8, o8, n8⟩, _⟩ := hf
  have hc : Try.prog.cellsOf 55 = 9 := by kernel_rfl
  simp [Ln.vs, hc, n0, n1, n2, n3, n4, n5, n6, n7, n8, t0, t1, t2, t3, t4, t5, t6, t7, t8, o0, o1, o2, o3, o4, o5, o6, o7, o8, cells_int, cells_str, cells_bool, lits_int h.sup 0, lits_int h.cat 0, lits_str h.fr 0, lits_str h.tw 0, lits_str h.pl 0, lits_int h.am 0, lits_bool, lits_int h.co 0, Ln.lits, List.mapM_cons]
theorem Ln.formed (o : Ln) : (Value.agg o.vs).formed Try.prog 55 = true := by
  have hc : Try.prog.cellsOf 55 = 9 := by kernel_rfl
  simp [Value.formed, hc, Ln.vs]
theorem ln_eql {a b : Ln} (ha : a.ok) (hb : b.ok) (w : World) : (binOp .eql 55 (.agg a.vs) (.agg b.vs)).run Try.prog w = .ok (.bool (decide (a = b))) w :=
  eql_deep (m := 2) (by decide) (by kernel_rfl) a.formed b.formed (Ln.keyLits ha) (Ln.keyLits hb) (Ln.lits_iff a b) w
theorem ln_neq {a b : Ln} (ha : a.ok) (hb : b.ok) (w : World) : (binOp .neq 55 (.agg a.vs) (.agg b.vs)).run Try.prog w = .ok (.bool (!decide (a = b))) w :=
  neq_deep (m := 2) (by decide) (by kernel_rfl) a.formed b.formed (Ln.keyLits ha) (Ln.keyLits hb) (Ln.lits_iff a b) w
end Go.Proofs.Ytnfpmobmfcgfnaa
