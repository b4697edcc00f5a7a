/- THE WALK OF vatid.forms: a map literal of 27 rows. -/
import Derived.Test.YtnfpmobmfcgfnaaMp
import Derived.Test.YtnfpmobmfcgfnaaVaD
namespace Go.Proofs.Ytnfpmobmfcgfnaa
open Go.RowKit
def strsOf (cs : Array Value) : List ByteArray := cs.toList.filterMap fun v => match v with | .string s => some s | _ => none
def isStr (v : Value) : Bool := match v with | .string _ => true | _ => false
theorem strsOf_all (cs : Array Value) (h : cs.toList.all isStr = true) : cs = ((strsOf cs).map strK.enc).toArray := by
  obtain ⟨l⟩ := cs
  simp only at h
  unfold strsOf
  simp only
  congr 1
  induction l with
  | nil => rfl
  | cons v t ih =>
    rw [List.all_cons, Bool.and_eq_true] at h
    have h1 := h.1
    cases v <;> first | (simp [isStr] at h1; done) | skip
    rename_i s
    rw [List.filterMap_cons]
    simp only [List.map_cons]
    rw [← ih h.2]
    rfl
theorem strsOf_len (cs : Array Value) (h : cs.toList.all isStr = true) : (strsOf cs).length = cs.size := by
  have := congrArg Array.size (strsOf_all cs h)
  simpa using this.symm
/-- block b is a map that holds the rows, each as a slice of texts -/
def TabM (w0 w : World) (b : Nat) (rows : List (ByteArray × Array Value)) : Prop :=
  ∃ n m f, n ≤ rows.length ∧ MapV w b n m f ∧ Below w0.heap.size w0 w ∧ w0.heap.size ≤ b ∧
    ∀ s, match rows.find? fun p => p.1.data.toList == s with | none => f s = none | some p => ∃ v, f s = some v ∧ Sl strK w w.heap.size v (strsOf p.2)
theorem tab_start (w : World) : TabM w (w.alloc (.map #[] 0)) w.heap.size [] :=
  ⟨0, 0, _, Nat.le_refl _, MapV.made w, (Below.refl _ _).alloc (Nat.le_refl _) _, Nat.le_refl _, fun _ => rfl⟩
theorem MapV.no_cell {w : World} {b n m : Nat} {f : List UInt8 → Option Value} (h : MapV w b n m f) (p : Addr) (hp : p.block = b) : w.cell? p = none := by
  obtain ⟨D, ⟨es, clock, hb, _⟩, _⟩ := h
  obtain ⟨pb, po, ps⟩ := p
  simp only at hp
  subst hp
  simp [World.cell?, hb]
theorem Sl.mapGrown {α : Type} {K : Kd α} {w w' : World} {B : Nat} {v : Value} {l : List α} {b n m : Nat} {f : List UInt8 → Option Value} (h : Sl K w B v l) (hm : MapV w b n m f) (hg : w.grownBy w' (some b)) : Sl K w' B v l := by
  obtain ⟨A, c, hv, hc, hx, hr⟩ := h
  refine ⟨A, c, hv, hc, hx, fun h0 => ?_⟩
  obtain ⟨ad, hA, hb, hx⟩ := hr h0
  refine ⟨ad, hA, hb, fun j x hj => ?_⟩
  have hcell := hx j x hj
  rw [← hcell]
  refine World.cell?_of_block (hg.block _ (World.block_lt_of_cell? w _ hcell) fun e => ?_)
  injection e with e
  rw [hm.no_cell _ e] at hcell
  cases hcell
theorem tab_insert {w0 w : World} {b : Nat} {rows : List (ByteArray × Array Value)} (h : TabM w0 w b rows) (hr : rows.length ≤ 100) (key : ByteArray) (hk : key.size ≤ 100) (cs : Array Value) (hcs : cs.toList.all isStr = true) (N : Nat) (hN : N = cs.size) (hN1 : cs.size ≤ 100) :
    ∃ w', (Instr.mapUpdate 46 (.map (some b)) (.string key) (.slice (some ⟨w.heap.size, 0, none⟩) N N)).run Try.prog (w.alloc (.cells cs 9)) = .ok () w' ∧ TabM w0 w' b ((key, cs) :: rows) := by
  obtain ⟨n, m, f, hn, hm, hb, hle, hf⟩ := h
  obtain ⟨w', hrun, hm', hg⟩ := (hm.alloc (.cells cs 9)).update (e := 39) Try.underlying46 (by unfold maxLen; omega) key (by unfold maxLen; omega) (.slice (some ⟨w.heap.size, 0, none⟩) N N)
  have hlen := strsOf_len cs hcs
  have hlt := hm.lt
  have hsl : Ow strK (w.alloc (.cells cs 9)) w.heap.size (.slice (some ⟨w.heap.size, 0, none⟩) N N) (strsOf cs) := by
    have := ow_lit strK w (strsOf cs) (by unfold maxLen; omega)
    rw [← strsOf_all cs hcs, hlen, ← hN] at this
    exact this
  have hsl' : Sl strK w' w'.heap.size (.slice (some ⟨w.heap.size, 0, none⟩) N N) (strsOf cs) := by
    exact (hsl.sl.mapGrown (hm.alloc _) hg).more hg.size
  refine ⟨w', hrun, n + 1, _, _, by simp; omega, hm', (hb.alloc hb.size _).grown hg (by simp; have := hb.size; omega) (fun k e => by cases e; exact hle), hle, fun s => ?_⟩
  rw [List.find?_cons]
  by_cases he : key.data.toList = s
  · have : (key.data.toList == s) = true := by rw [beq_iff_eq]; exact he
    simp only [this]
    exact ⟨_, by simp [he], hsl'⟩
  · have : (key.data.toList == s) = false := by rw [beq_eq_false_iff_ne]; exact he
    simp only [this]
    have he' : ¬ s = key.data.toList := fun e => he e.symm
    have := hf s
    cases hfd : rows.find? (fun p => p.1.data.toList == s) with
    | none => rw [hfd] at this; simp only [if_neg he']; exact this
    | some p =>
      rw [hfd] at this
      obtain ⟨v, hv, hs⟩ := this
      simp only [if_neg he']
      exact ⟨v, hv, (((hs.alloc (Nat.le_refl _) (.cells cs 9)).mapGrown (hm.alloc _) hg).more (by have := hg.size; simp at this; omega))⟩
/-- at the operation -/
theorem wpList_insert_tab {w0 w : World} {b : Nat} {rows : List (ByteArray × Array Value)} (h : TabM w0 w b rows) {ops : Array Oper} {rest : List Oper} {o : Oper} {a : Act} {Q : Exit → Act → World → Prop} (hg : o.guard = none) {m x v : Operand} {key : ByteArray} {cs : Array Value} {N g : Nat}
    (hop : o.op = .insert 46 m x v) (hm : a.eval m = .map (some b)) (hx : a.eval x = .string key) (hv : a.eval v = .slice (some ⟨g, 0, none⟩) N N) (hgb : g = w.heap.size)
    (hr : rows.length ≤ 100) (hk : key.size ≤ 100) (hcs : cs.toList.all isStr = true) (hN : N = cs.size) (hN1 : cs.size ≤ 100)
    (hK : ∀ w', TabM w0 w' b ((key, cs) :: rows) → wpList Try.prog ops Q rest (a.put o.dst undef) w') : wpList Try.prog ops Q (o :: rest) a (w.alloc (.cells cs 9)) := by
  subst hgb
  refine wpList_plain hg fun K' hK' => ?_
  obtain ⟨w', hrun, h2⟩ := tab_insert h hr key hk cs hcs N hN hN1
  unfold Oper.wp
  simp [execOp, hop, hm, hx, hv, hrun, Result.andThen]
  exact hK' _ _ (hK w' h2)
theorem Try.zstr (w : World) : (zeroValue 39).run Try.prog w = .ok (.slice none 0 0) w := by kernel_rfl
def FormsPost (w : World) (e : Ending) (w' : World) : Prop := ∃ b rows, e = .returned (.map (some b)) ∧ TabM w w' b rows ∧ rows.map (fun p => (p.1.data.toList, (strsOf p.2).map fun s => s.data.toList)) = tab.reverse
set_option maxRecDepth 100000 in
set_option maxHeartbeats 4000000 in
theorem forms_any (w : World) : Calls Try.prog 109 #[] w (FormsPost w) := by
  have hmm := @run_makeMap Try.prog
  have hcur := tab_start w
  go_enter Try.func109, Try.ntmps109
  go_wp2_with ((refine wpList_insert_tab (o := ⟨_, .insert _ _ _ _, _, _, _, _⟩) hcur rfl rfl rfl rfl rfl (by first | rfl | simp) (by simp) (by decide) (by rfl) rfl (by decide) ?_; clear hcur; intro w1 hcur))
  go_ret
  exact ⟨_, _, rfl, hcur, by decide +kernel⟩
end Go.Proofs.Ytnfpmobmfcgfnaa
