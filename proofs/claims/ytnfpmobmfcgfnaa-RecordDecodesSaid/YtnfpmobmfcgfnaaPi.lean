/- THE WALK OF vatid.forms: a map literal of 27 rows. -/
import Derived.Test.YtnfpmobmfcgfnaaPh
import Derived.ScopeJumps
import Derived.WalkMore
namespace Go.Proofs.Ytnfpmobmfcgfnaa
open Go.RowKit
def strsOf (cs : Array Value) : List ByteArray := cs.toList.filterMap fun v => match v with | .string s => some s | _ => none
def isStr (v : Value) : Bool := match v with | .string _ => true | _ => false
theorem strsOf_all (cs : Array Value) (h : cs.toList.all isStr = true) : cs = ((strsOf cs).map strK.enc).toArray := by
 obtain ⟨l⟩ := cs
 simp only at h
 unfold strsOf
 simp only
 congr 1
 induction l with
 | nil => rfl
 | cons v t ih =>
  rw [List.all_cons, Bool.and_eq_true] at h
  have h1 := h.1
  cases v <;> first | (simp [isStr] at h1; done) | skip
  rename_i s
  rw [List.filterMap_cons]
  simp only [List.map_cons]
  rw [← ih h.2]
  rfl
theorem strsOf_len (cs : Array Value) (h : cs.toList.all isStr = true) : (strsOf cs).length = cs.size := by
 have := congrArg Array.size (strsOf_all cs h)
 simpa using this.symm
/-- block b is a map that holds the rows, each as a slice of texts -/
def TabM (w0 w : World) (b : Nat) (rows : List (ByteArray × Array Value)) : Prop :=
 ∃ n m f, n ≤ rows.length ∧ MapV w b n m f ∧ Below w0.heap.size w0 w ∧ w0.heap.size ≤ b ∧
  ∀ s, match rows.find? fun p => p.1.data.toList == s with | none => f s = none | some p => ∃ v, f s = some v ∧ Sl strK w w.heap.size v (strsOf p.2)
theorem tab_start (w : World) : TabM w (w.alloc (.map #[] 0)) w.heap.size [] :=
 ⟨0, 0, _, Nat.le_refl _, MapV.made w, (Below.refl _ _).alloc (Nat.le_refl _) _, Nat.le_refl _, fun _ => rfl⟩
theorem MapV.no_cell {w : World} {b n m : Nat} {f : List UInt8 → Option Value} (h : MapV w b n m f) (p : Addr) (hp : p.block = b) : w.cell? p = none := by
 obtain ⟨D, ⟨es, clock, hb, _⟩, _⟩ := h
 obtain ⟨pb, po, ps⟩ := p
 simp only at hp
 subst hp
 simp [World.cell?, hb]
theorem Sl.mapGrown {α : Type} {K : Kd α} {w w' : World} {B : Nat} {v : Value} {l : List α} {b n m : Nat} {f : List UInt8 → Option Value} (h : Sl K w B v l) (hm : MapV w b n m f) (hg : w.grownBy w' (some b)) : Sl K w' B v l := by
 obtain ⟨A, c, hv, hc, hx, hr⟩ := h
 refine ⟨A, c, hv, hc, hx, fun h0 => ?_⟩
 obtain ⟨ad, hA, hb, hx⟩ := hr h0
 refine ⟨ad, hA, hb, fun j x hj => ?_⟩
 have hcell := hx j x hj
 rw [← hcell]
 refine World.cell?_of_block (hg.block _ (World.block_lt_of_cell? w _ hcell) fun e => ?_)
 injection e with e
 rw [hm.no_cell _ e] at hcell
 cases hcell
theorem tab_insert {w0 w : World} {b : Nat} {rows : List (ByteArray × Array Value)} (h : TabM w0 w b rows) (hr : rows.length ≤ 100) (key : ByteArray) (hk : key.size ≤ 100) (cs : Array Value) (hcs : cs.toList.all isStr = true) (N : Nat) (hN : N = cs.size) (hN1 : cs.size ≤ 100) :
  ∃ w', (Instr.mapUpdate 46 (.map (some b)) (.string key) (.slice (some ⟨w.heap.size, 0, none⟩) N N)).run Try.prog (w.alloc (.cells cs 9)) = .ok () w' ∧ TabM w0 w' b ((key, cs) :: rows) := by
 obtain ⟨n, m, f, hn, hm, hb, hle, hf⟩ := h
 obtain ⟨w', hrun, hm', hg⟩ := (hm.alloc (.cells cs 9)).update (e := 39) Try.underlying46 (by unfold maxLen; omega) key (by unfold maxLen; omega) (.slice (some ⟨w.heap.size, 0, none⟩) N N)
 have hlen := strsOf_len cs hcs
 have hlt := hm.lt
 have hsl : Ow strK (w.alloc (.cells cs 9)) w.heap.size (.slice (some ⟨w.heap.size, 0, none⟩) N N) (strsOf cs) := by
  have := ow_lit strK w (strsOf cs) (by unfold maxLen; omega)
  rw [← strsOf_all cs hcs, hlen, ← hN] at this
  exact this
 have hsl' : Sl strK w' w'.heap.size (.slice (some ⟨w.heap.size, 0, none⟩) N N) (strsOf cs) := by
  exact (hsl.sl.mapGrown (hm.alloc _) hg).more hg.size
 refine ⟨w', hrun, n + 1, _, _, by simp; omega, hm', (hb.alloc hb.size _).grown hg (by simp; have := hb.size; omega) (fun k e => by cases e; exact hle), hle, fun s => ?_⟩
 rw [List.find?_cons]
 by_cases he : key.data.toList = s
 ·have : (key.data.toList == s) = true := by rw [beq_iff_eq]; exact he
  simp only [this]
  exact ⟨_, by simp [he], hsl'⟩
 ·have : (key.data.toList == s) = false := by rw [beq_eq_false_iff_ne]; exact he
  simp only [this]
  have he' : ¬ s = key.data.toList := fun e => he e.symm
  have := hf s
  cases hfd : rows.find? (fun p => p.1.data.toList == s) with
  | none => rw [hfd] at this; simp only [if_neg he']; exact this
  | some p =>
   rw [hfd] at this
   obtain ⟨v, hv, hs⟩ := this
   simp only [if_neg he']
   exact ⟨v, hv, (((hs.alloc (Nat.le_refl _) (.cells cs 9)).mapGrown (hm.alloc _) hg).more (by have := hg.size; simp at this; omega))⟩
/-- at the operation -/
theorem wpList_insert_tab {w0 w : World} {b : Nat} {rows : List (ByteArray × Array Value)} (h : TabM w0 w b rows) {ops : Array Oper} {rest : List Oper} {o : Oper} {a : Act} {Q : Exit → Act → World → Prop} (hg : o.guard = none) {m x v : Operand} {key : ByteArray} {cs : Array Value} {N g : Nat}
  (hop : o.op = .insert 46 m x v) (hm : a.eval m = .map (some b)) (hx : a.eval x = .string key) (hv : a.eval v = .slice (some ⟨g, 0, none⟩) N N) (hgb : g = w.heap.size)
  (hr : rows.length ≤ 100) (hk : key.size ≤ 100) (hcs : cs.toList.all isStr = true) (hN : N = cs.size) (hN1 : cs.size ≤ 100)
  (hK : ∀ w', TabM w0 w' b ((key, cs) :: rows) → wpList Try.prog ops Q rest (a.put o.dst undef) w') : wpList Try.prog ops Q (o :: rest) a (w.alloc (.cells cs 9)) := by
 subst hgb
 refine wpList_plain hg fun K' hK' => ?_
 obtain ⟨w', hrun, h2⟩ := tab_insert h hr key hk cs hcs N hN hN1
 unfold Oper.wp
 simp [execOp, hop, hm, hx, hv, hrun, Result.andThen]
 exact hK' _ _ (hK w' h2)
theorem Try.zstr (w : World) : (zeroValue 39).run Try.prog w = .ok (.slice none 0 0) w := by kernel_rfl
def FormsPost (w : World) (e : Ending) (w' : World) : Prop := ∃ b rows, e = .returned (.map (some b)) ∧ TabM w w' b rows ∧ rows.map (fun p => (p.1.data.toList, (strsOf p.2).map fun s => s.data.toList)) = tab.reverse
set_option maxRecDepth 100000 in
set_option maxHeartbeats 4000000 in
theorem forms_any (w : World) : Calls Try.prog 109 #[] w (FormsPost w) := by
 have hmm := @run_makeMap Try.prog
 have hcur := tab_start w
 go_enter Try.func109, Try.ntmps109
 go_wp2_with ((refine wpList_insert_tab (o := ⟨_, .insert _ _ _ _, _, _, _, _⟩) hcur rfl rfl rfl rfl rfl (by first | rfl | simp) (by simp) (by decide) (by rfl) rfl (by decide) ?_; clear hcur; intro w1 hcur))
 go_ret
 exact ⟨_, _, rfl, hcur, by decide +kernel⟩
end Go.Proofs.Ytnfpmobmfcgfnaa

/- THE WALKS OF Forms, fits AND Right. -/
namespace Go.Proofs.Ytnfpmobmfcgfnaa
open Go.RowKit
theorem find_rows (s : List UInt8) : ∀ rows : List (ByteArray × Array Value),
  (rows.find? fun p => p.1.data.toList == s).map (fun p => (strsOf p.2).map fun x => x.data.toList) = (rows.map fun p => (p.1.data.toList, (strsOf p.2).map fun x => x.data.toList)).lookup s
 | [] => rfl
 | p :: t => by
  rw [List.find?_cons, List.map_cons, List.lookup_cons]
  by_cases h : p.1.data.toList = s
  ·have h1 : (p.1.data.toList == s) = true := by rw [beq_iff_eq]; exact h
   have h2 : (s == p.1.data.toList) = true := by rw [beq_iff_eq]; exact h.symm
   simp only [h1, h2]; rfl
  ·have h1 : (p.1.data.toList == s) = false := by rw [beq_eq_false_iff_ne]; exact h
   have h2 : (s == p.1.data.toList) = false := by rw [beq_eq_false_iff_ne]; exact fun e => h e.symm
   simp only [h1, h2]
   exact find_rows s t
theorem tab_reverse (s : List UInt8) : tab.reverse.lookup s = tab.lookup s := by
 have h : mems.all (fun s => decide (tab.reverse.lookup s = tab.lookup s)) = true := by decide +kernel
 by_cases hs : s ∈ mems
 ·simpa using List.all_eq_true.1 h s hs
 ·have e1 : tab.lookup s = none := by
   rw [List.lookup_eq_none_iff]
   intro p hp
   rw [bne_iff_ne]
   rintro rfl
   exact hs (by rw [← tab_mems]; exact List.mem_map.2 ⟨p, hp, rfl⟩)
  have e2 : tab.reverse.lookup s = none := by
   rw [List.lookup_eq_none_iff]
   intro p hp
   rw [bne_iff_ne]
   rintro rfl
   exact hs (by rw [← tab_mems]; exact List.mem_map.2 ⟨p, List.mem_reverse.1 hp, rfl⟩)
  rw [e1, e2]
/-- what stands at a country -/
theorem forms_look {w w' : World} {b : Nat} {rows : List (ByteArray × Array Value)} (h : TabM w w' b rows) (hr : rows.map (fun p => (p.1.data.toList, (strsOf p.2).map fun s => s.data.toList)) = tab.reverse) (c : ByteArray) (hc : c.size ≤ maxLen) :
  ∃ v, (Instr.lookup 46 (.map (some b)) (.string c) false).run Try.prog w' = .ok v w' ∧ Sl strK w' w'.heap.size v ((formsT c.data.toList).map bsA) ∧ Below w.heap.size w w' := by
 obtain ⟨n, m, f, _, hm, hb, _, hf⟩ := h
 have hrun := hm.look (e := 39) Try.underlying46 (Try.zstr w') false c hc
 refine ⟨_, hrun, ?_, hb⟩
 have h1 := find_rows c.data.toList rows
 rw [hr, tab_reverse] at h1
 have h2 := hf c.data.toList
 unfold MapV.val formsT
 cases hfd : rows.find? (fun p => p.1.data.toList == c.data.toList) with
 | none =>
  rw [hfd] at h1 h2
  simp only at h2
  rw [h2, ← h1]
  exact Sl.nil_ _ _ _
 | some p =>
  rw [hfd] at h1 h2
  obtain ⟨v, hv, hs⟩ := h2
  rw [hv, ← h1]
  show Sl strK w' w'.heap.size v (((strsOf p.2).map fun x => x.data.toList).map bsA)
  rw [List.map_map, show (bsA ∘ fun x : ByteArray => x.data.toList) = id from funext fun x => bsA_of x, List.map_id]
  exact hs
def NewSl (ls : List (List UInt8)) (w : World) (e : Ending) (w' : World) : Prop := ∃ v, e = .returned v ∧ Sl strK w' w'.heap.size v (ls.map bsA) ∧ Below w.heap.size w w'
theorem formsF_any (c : ByteArray) (hc : c.size ≤ maxLen) (w : World) : Calls Try.prog 86 #[.string c] w (NewSl (formsT c.data.toList) w) := by
 go_enter Try.func86, Try.ntmps86
 go_wp2_with (go_at_call 109; refine (forms_any _).mono ?_; rintro e w1 ⟨b, rows, rfl, htab, hrows⟩; obtain ⟨v, hv, hs, hb⟩ := forms_look htab hrows c hc; clear hrows htab)
 go_ret
 exact ⟨_, rfl, hs, hb⟩
theorem allFit_len : ∀ f n : List UInt8, f.length ≠ n.length → allFit f n = false
 | [], [], h => absurd rfl h
 | [], _ :: _, _ => rfl
 | _ :: _, [], _ => rfl
 | f :: fs, b :: bs, h => by
  unfold allFit
  rw [allFit_len fs bs (by simpa using h), Bool.and_false]
theorem allFit_take : ∀ (f n : List UInt8) (k : Nat), f.length = n.length → k < f.length → (allFit (f.take k) (n.take k) = true) → fitB (f.getD k 0) (n.getD k 0) = false → allFit f n = false
 | [], _, _, _, h, _, _ => by simp at h
 | _ :: _, [], _, h, _, _, _ => by simp at h
 | f :: fs, b :: bs, 0, _, _, _, h => by unfold allFit; rw [show fitB f b = false from h, Bool.false_and]
 | f :: fs, b :: bs, k + 1, hl, hk, ha, h => by
  unfold allFit
  have ha' : (fitB f b && allFit (fs.take k) (bs.take k)) = true := ha
  rw [Bool.and_eq_true] at ha'
  rw [allFit_take fs bs k (by simpa using hl) (by simpa using hk) ha'.2 (by simpa using h), Bool.and_false]
theorem allFit_snoc : ∀ (f n : List UInt8) (k : Nat), k < f.length → k < n.length → allFit (f.take k) (n.take k) = true → fitB (f.getD k 0) (n.getD k 0) = true → allFit (f.take (k + 1)) (n.take (k + 1)) = true
 | [], _, _, h, _, _, _ => by simp at h
 | _ :: _, [], _, _, h, _, _ => by simp at h
 | f :: fs, b :: bs, 0, _, _, _, h => by
  show (fitB f b && allFit (fs.take 0) (bs.take 0)) = true
  rw [show fitB f b = true from h]; rfl
 | f :: fs, b :: bs, k + 1, hk1, hk2, ha, h => by
  have ha' : (fitB f b && allFit (fs.take k) (bs.take k)) = true := ha
  rw [Bool.and_eq_true] at ha'
  show (fitB f b && allFit (fs.take (k + 1)) (bs.take (k + 1))) = true
  rw [ha'.1, allFit_snoc fs bs k (by simpa using hk1) (by simpa using hk2) ha'.2 (by simpa using h)]; rfl
theorem wp_skip_seq {P : Program} {a : Act} {w : World} {Q : Exit → Act → World → Prop} {c : Code} (h : c.wp P Q a w) : (Code.skip.seq c).wp P Q a w := wp_seq (wp_skip h)
theorem wp_scope_label {P : Program} {a : Act} {w : World} {Q : Exit → Act → World → Prop} {c rest X : Code} (l : Nat) (J : Act → World → Prop) (μ : Act → World → Nat) (hf : findLabel c l = some rest)
  (hX : ∀ Q' a w, X.wp P Q' a w → rest.wp P Q' a w)
  (first : Hid (∀ a w, J a w → X.wp P (Exit.jump l J Q) a w) → c.wp P (Exit.jump l J Q) a w) (pass : ∀ a w, J a w → X.wp P (Exit.jump l (fun a' w' => J a' w' ∧ μ a' w' < μ a w) Q) a w) : (Code.scope c).wp P Q a w := by
 refine wp_scope_jumps l J μ hf (first (Lib.hid fun a w h0 => Code.wp_mono (fun e a' w' h => ?_) (pass a w h0))) fun a w h => hX _ _ _ (pass a w h)
 cases e <;> first | exact h | exact ⟨h.1, h.2.1⟩
def fitsUp (ls : List ByteArray) (num : ByteArray) (k : Nat) : Prop := ∀ j, j < k → ∀ s, ls[j]? = some s → allFit s.data.toList num.data.toList = false
theorem fits_t {ls : List ByteArray} {num : ByteArray} {k : Nat} {s : ByteArray} (h : ls[k]? = some s) (hf : allFit s.data.toList num.data.toList = true) : fitsL (ls.map fun x => x.data.toList) num.data.toList = true := by
 unfold fitsL
 rw [List.any_map, List.any_eq_true]
 exact ⟨s, List.mem_of_getElem? h, hf⟩
theorem fits_f {ls : List ByteArray} {num : ByteArray} (h : fitsUp ls num ls.length) : fitsL (ls.map fun x => x.data.toList) num.data.toList = false := by
 unfold fitsL
 rw [List.any_map, List.any_eq_false]
 intro x hx
 obtain ⟨j, hj, e⟩ := List.mem_iff_getElem.1 hx
 have := h j hj x (by rw [List.getElem?_eq_getElem hj, e])
 simp only [Function.comp, this]; simp
theorem fitsUp_succ {ls : List ByteArray} {num : ByteArray} {k : Nat} {s : ByteArray} (h : fitsUp ls num k) (hs : ls[k]? = some s) (hf : allFit s.data.toList num.data.toList = false) : fitsUp ls num (k + 1) := by
 intro j hj t ht
 by_cases e : j = k
 ·subst e; rw [hs] at ht; cases ht; exact hf
 ·exact h j (by omega) t ht
def FitsPost (ls : List ByteArray) (num : ByteArray) (w : World) (e : Ending) (w' : World) : Prop := e = .returned (.bool (fitsL (ls.map fun x => x.data.toList) num.data.toList)) ∧ Below w.heap.size w w'
def FitsJ (A : Option Addr) (c : Nat) (ls : List ByteArray) (num : ByteArray) (w : World) (a' : Act) (w' : World) : Prop :=
 ∃ (k : Nat) (u6 u7 u8 u9 u10 u11 u12 u13 u14 u15 u16 u17 u18 u19 u20 u21 u22 u23 u24 u25 u26 u27 u28 u29 u30 u31 u32 u33 u34 u35 u36 : Value), k ≤ ls.length ∧ fitsUp ls num k ∧ Below w.heap.size w w' ∧ a' = { tmps := #[.slice A ls.length c, .string num, undef, undef, .bool false, .int .i64 (k : Int), u6, u7, u8, u9, u10, u11, u12, u13, u14, u15, u16, u17, u18, u19, u20, u21, u22, u23, u24, u25, u26, u27, u28, u29, u30, u31, u32, u33, u34, u35, u36], defers := [] }
set_option maxRecDepth 100000 in
set_option maxHeartbeats 4000000 in
theorem fits_any (v : Value) (ls : List ByteArray) (num : ByteArray) (w : World) (B : Nat) (hv : Sl strK w B v ls) (hls : ls.length ≤ 1000) (hnum : num.size ≤ 9223372036854775807) :
  Calls Try.prog 85 #[v, .string num] w (FitsPost ls num w) := by
 obtain ⟨A, c, rfl, hc, hm, hr⟩ := hv.heap
 unfold maxLen at hm
 have HR := Lib.hid hr
 clear hr hv
 go_enter Try.func85, Try.ntmps85
 go_wp2
 refine wp_scope_label 0 (FitsJ A c ls num w) (fun a' _ => ls.length - (intOf (a'.tmps.getD 5 undef)).toNat) rfl (fun _ _ _ h => wp_skip_seq h) (fun hp => ?_) ?_
 ·go_wp2
  go_step3
  rename_i K' hK'
  exact hK' _ _ (hp.out _ _ ⟨0, _, _, _, _, _, _, _, _, _, _, _, _, _, _, _, _, _, _, _, _, _, _, _, _, _, _, _, _, _, _, _, Nat.zero_le _, fun j hj => by omega, Below.refl _ _, rfl⟩)
 rintro a' wr ⟨k, u6, u7, u8, u9, u10, u11, u12, u13, u14, u15, u16, u17, u18, u19, u20, u21, u22, u23, u24, u25, u26, u27, u28, u29, u30, u31, u32, u33, u34, u35, u36, hk, hup, hbel, rfl⟩
 have HU := Lib.hid hup
 clear hup
 by_cases h : k < ls.length
 ·obtain ⟨ad, rfl, hadB, hrow⟩ := HR.out (by omega)
  have hat : wr.cell? (ad.add k) = some (.string ls[k]) := (hbel.cell (p := ad.add k) (by rw [addr_add_block]; exact hadB)).trans (hrow k ls[k] (List.getElem?_eq_getElem h))
  have HK := Lib.hid (List.getElem?_eq_getElem h)
  have hne : ((k : Int) == (ls.length : Int)) = false := by rw [beq_eq_false_iff_ne]; omega
  have hll : ls.length ≤ 9223372036854775807 := by omega
  clear hrow
  generalize ls[k] = s at *
  have es : s.data.toList.length = s.size := Array.length_toList
  have en : num.data.toList.length = num.size := Array.length_toList
  have ES := Lib.hid es
  have EN := Lib.hid en
  clear es en
  by_cases hs : s.size = num.size
  ·have e1 : ((s.size : Int) == (num.size : Int)) = true := by rw [beq_iff_eq]; omega
   have e2 : ((s.size : Int) != (num.size : Int)) = false := by simp; omega
   have hs1 : s.size ≤ num.size := by omega
   have hs2 : num.size ≤ s.size := by omega
   clear hs
   go_wp2
   go_loopg [7, 25] s.size (fun g x7 x25 w2 => ∃ i : Nat, i ≤ s.size ∧ g = s.size - i ∧ x25 = .int .i64 (i : Int) ∧ allFit (s.data.toList.take i) (num.data.toList.take i) = true ∧ Below w.heap.size w w2)
   case atStart => exact ⟨0, Nat.zero_le _, rfl, rfl, rfl, hbel⟩
   case round =>
    obtain ⟨i, hi, hg, rfl, hfit, hbel2⟩ := hrel
    have HG := Lib.hid hg
    have HF := Lib.hid hfit
    clear hg hfit
    by_cases hlt : i < s.size
    ·have hin : i < num.size := by omega
     have b1 := Lib.hid (byte_at s i hlt)
     have b2 := Lib.hid (byte_at num i hin)
     have hi0 : (0 : Int) ≤ (i : Int) := by omega
     have hi1 : (i : Int) < (s.size : Int) := by omega
     have hi2 : (i : Int) < (num.size : Int) := by omega
     generalize hq : fitB s[i] num[i] = q
     have HQ := Lib.hid hq
     clear hq
     cases q with
     | false =>
      have HN := Lib.hid (fitsUp_succ HU.out HK.out (allFit_take _ _ i (by rw [ES.out, EN.out]; omega) (by rw [ES.out]; exact hlt) HF.out (by rw [b1.out, b2.out]; exact HQ.out)))
      go_wp2
      go_region_with ((go_at_call 87; refine (stands_any _ _ _).mono ?_; rintro e w8 ⟨rfl, hb8⟩; rw [HQ.out]))
      all_goals go_wp2
      all_goals go_step3
      all_goals (refine ⟨rfl, ⟨k + 1, _, _, _, _, _, _, _, _, _, _, _, _, _, _, _, _, _, _, _, _, _, _, _, _, _, _, _, _, _, _, _, by omega, HN.out, (hbel2.drew).trans (hb8.mono hbel2.size), rfl⟩, ?_⟩; show ls.length - (intOf (.int .i64 ((k : Int) + 1))).toNat < ls.length - (intOf (.int .i64 (k : Int))).toNat; simp [intOf]; omega)
     | true =>
      have HN := Lib.hid (allFit_snoc _ _ i (by rw [ES.out]; exact hlt) (by rw [EN.out]; exact hin) HF.out (by rw [b1.out, b2.out]; exact HQ.out))
      go_wp2
      go_region_with ((go_at_call 87; refine (stands_any _ _ _).mono ?_; rintro e w8 ⟨rfl, hb8⟩; rw [HQ.out]))
      all_goals go_wp2
      all_goals go_roundg (s.size - (i + 1))
      all_goals first
       | (have := HG.out; omega)
       | exact ⟨i + 1, by omega, rfl, by go_num, HN.out, (hbel2.drew).trans (hb8.mono hbel2.size)⟩
    ·obtain rfl : i = s.size := by omega
     have hfull : allFit s.data.toList num.data.toList = true := by
      have := HF.out
      rwa [List.take_of_length_le (by rw [ES.out]; exact Nat.le_refl _), List.take_of_length_le (by rw [EN.out]; omega)] at this
     have HN := Lib.hid (fits_t HK.out hfull)
     clear hfull
     go_wp2
     simp only [Exit.jump]
     go_ret
     exact ⟨ret_bool HN.out.symm, hbel2⟩
  ·have e1 : ((s.size : Int) == (num.size : Int)) = false := by rw [beq_eq_false_iff_ne]; omega
   have e2 : ((s.size : Int) != (num.size : Int)) = true := by simp; omega
   have hnf : allFit s.data.toList num.data.toList = false := allFit_len _ _ (by rw [ES.out, EN.out]; exact hs)
   have HN := Lib.hid (fitsUp_succ HU.out HK.out hnf)
   clear hnf hs
   go_wp2
   go_step3
   refine ⟨rfl, ⟨k + 1, _, _, _, _, _, _, _, _, _, _, _, _, _, _, _, _, _, _, _, _, _, _, _, _, _, _, _, _, _, _, _, by omega, HN.out, hbel, rfl⟩, ?_⟩
   simp [intOf]; omega
 ·obtain rfl : k = ls.length := by omega
  have HN := Lib.hid (fits_f HU.out)
  go_wp2
  simp only [Exit.jump]
  go_ret
  exact ⟨ret_bool HN.out.symm, hbel⟩
end Go.Proofs.Ytnfpmobmfcgfnaa

/- THE WALKS OF vatid.Right AND octroiref07.Right. -/
namespace Go.Proofs.Ytnfpmobmfcgfnaa
open Go.RowKit
theorem formsT_len (c : List UInt8) : (formsT c).length ≤ 10 := by
 have h : tab.all (fun p => decide (p.2.length ≤ 10)) = true := by decide +kernel
 unfold formsT
 cases hl : tab.lookup c with
 | none => simp
 | some l =>
  have : ∀ (t : List (List UInt8 × List (List UInt8))), t.all (fun p => decide (p.2.length ≤ 10)) = true → t.lookup c = some l → l.length ≤ 10 := by
   intro t
   induction t with
   | nil => intro _ h; cases h
   | cons p t ih =>
    intro h1 h2
    rw [List.all_cons, Bool.and_eq_true, decide_eq_true_eq] at h1
    rw [List.lookup_cons] at h2
    split at h2
    ·cases h2; exact h1.1
    ·exact ih h1.2 h2
  exact this tab h hl
theorem map_back (l : List (List UInt8)) : (l.map bsA).map (fun x => x.data.toList) = l := by
 rw [List.map_map, show ((fun x : ByteArray => x.data.toList) ∘ bsA) = id from funext fun x => bsA_list x, List.map_id]
theorem map_back2 (l : List (List UInt8)) : l.map ((fun x : ByteArray => x.data.toList) ∘ bsA) = l := by
 rw [show ((fun x : ByteArray => x.data.toList) ∘ bsA) = id from funext fun x => bsA_list x, List.map_id]
theorem right_noc {c n : List UInt8} (h : countryL c = false) : rightL c n = false := by unfold rightL; rw [h, Bool.false_and]
theorem right_mem {c n : List UInt8} (h : countryL c = true) (hm : memB c = true) : rightL c n = fitsL (formsT c) n := by unfold rightL; rw [h, Bool.true_and, if_pos hm]
theorem right_third {c n : List UInt8} (h : countryL c = true) (hm : memB c = false) : rightL c n = (decide (1 ≤ n.length) && decide (n.length ≤ 20) && n.all fun b => letB b || digB b) := by
 unfold rightL; rw [h, Bool.true_and, if_neg (by rw [hm]; simp)]
theorem all_take_succ (p : UInt8 → Bool) (l : List UInt8) (k : Nat) (h : k < l.length) (ha : (l.take k).all p = true) (hp : p (l.getD k 0) = true) : (l.take (k + 1)).all p = true := by
 rw [List.take_succ_eq_append_getElem h, List.all_append, ha]
 rw [List.getD_eq_getElem?_getD, List.getElem?_eq_getElem h] at hp
 simpa using hp
theorem all_take_no (p : UInt8 → Bool) (l : List UInt8) (k : Nat) (h : k < l.length) (hp : p (l.getD k 0) = false) : l.all p = false := by
 rw [List.all_eq_false]
 rw [List.getD_eq_getElem?_getD, List.getElem?_eq_getElem h] at hp
 exact ⟨l[k], List.getElem_mem h, by simpa using hp⟩
def RightPost (c num : ByteArray) (w : World) (e : Ending) (w' : World) : Prop := e = .returned (.bool (rightL c.data.toList num.data.toList)) ∧ Below w.heap.size w w'
set_option maxHeartbeats 4000000 in
theorem right_any (c num : ByteArray) (hc : c.size ≤ 9223372036854775807) (hnum : num.size ≤ 9223372036854775807) (w : World) : Calls Try.prog 53 #[.string c, .string num] w (RightPost c num w) := by
 have hC := fun w => country_any c w
 have hM := fun w => member_any c w
 have hF := fun w => formsF_any c (by unfold maxLen; omega) w
 have hfl := formsT_len c.data.toList
 have en : num.data.toList.length = num.size := Array.length_toList
 have EN := Lib.hid en
 clear en
 cases h1 : countryL c.data.toList with
 | false =>
  have HR := Lib.hid (right_noc (n := num.data.toList) h1)
  rw [h1] at hC
  clear h1 hM hF
  go_enter Try.func53, Try.ntmps53
  go_wp2_with (go_at_call 60; refine (hC _).mono ?_; rintro e w1 ⟨rfl, rfl⟩)
  go_ret
  exact ⟨ret_bool HR.out.symm, Below.refl _ _⟩
 | true =>
  rw [h1] at hC
  cases h2 : memB c.data.toList with
  | true =>
   have HR := Lib.hid (right_mem (n := num.data.toList) h1 h2)
   rw [h2] at hM
   clear h1 h2
   go_enter Try.func53, Try.ntmps53
   go_wp2_with (first
    | (go_at_call 60; refine (hC _).mono ?_; rintro e w1 ⟨rfl, rfl⟩)
    | (go_at_call 49; refine (hM _).mono ?_; rintro e w2 ⟨rfl, hb2⟩)
    | (go_at_call 86; refine (hF _).mono ?_; rintro e w3 ⟨v3, rfl, hs3, hb3⟩)
    | (go_at_call 85; refine (fits_any _ _ num _ _ hs3 (by simp; omega) hnum).mono ?_; rintro e w4 ⟨rfl, hb4⟩))
   go_ret
   refine ⟨ret_bool ?_, (hb2.trans (hb3.mono hb2.size)).trans (hb4.mono (Nat.le_trans hb2.size hb3.size))⟩
   rw [HR.out, map_back2]
  | false =>
   have HR := Lib.hid (right_third (n := num.data.toList) h1 h2)
   rw [h2] at hM
   clear h1 h2 hF
   by_cases hz : 1 ≤ num.size ∧ num.size ≤ 20
   ·obtain ⟨z1, z2⟩ := hz
    have y1 : decide ((num.size : Int) < 1) = false := decide_eq_false (by omega)
    have y2 : decide ((20 : Int) < (num.size : Int)) = false := decide_eq_false (by omega)
    go_enter Try.func53, Try.ntmps53
    go_wp2_with (first
     | (go_at_call 60; refine (hC _).mono ?_; rintro e w1 ⟨rfl, rfl⟩)
     | (go_at_call 49; refine (hM _).mono ?_; rintro e w2 ⟨rfl, hb2⟩))
    go_loopg [5, 28] num.size (fun g x5 x28 wr => ∃ i : Nat, i ≤ num.size ∧ g = num.size - i ∧ x28 = .int .i64 (i : Int) ∧ (num.data.toList.take i).all (fun b => letB b || digB b) = true ∧ Below w.heap.size w wr)
    case atStart => exact ⟨0, Nat.zero_le _, rfl, rfl, rfl, hb2⟩
    case round =>
     obtain ⟨i, hi, hg, rfl, hall, hbel⟩ := hrel
     have HG := Lib.hid hg
     have HA := Lib.hid hall
     clear hg hall
     by_cases hlt : i < num.size
     ·have b1 := Lib.hid (byte_at num i hlt)
      have hi1 : (i : Int) < (num.size : Int) := by omega
      generalize hq : (letB num[i] || digB num[i]) = q
      have HQ := Lib.hid hq
      clear hq
      cases q with
      | false =>
       have HN := Lib.hid (all_take_no (fun b => letB b || digB b) _ i (by rw [EN.out]; exact hlt) (by rw [b1.out]; exact HQ.out))
       go_wp2_with (go_at_call 87; refine (stands_any 88 _ _).mono ?_; rintro e w8 ⟨rfl, hb8⟩; rw [show fitB 88 num[i] = _ from HQ.out])
       go_ret
       refine ⟨ret_bool ?_, hbel.trans (hb8.mono hbel.size)⟩
       rw [HR.out, HN.out, Bool.and_false]
      | true =>
       have HN := Lib.hid (all_take_succ (fun b => letB b || digB b) _ i (by rw [EN.out]; exact hlt) HA.out (by rw [b1.out]; exact HQ.out))
       go_wp2_with (go_at_call 87; refine (stands_any 88 _ _).mono ?_; rintro e w8 ⟨rfl, hb8⟩; rw [show fitB 88 num[i] = _ from HQ.out])
       go_roundg (num.size - (i + 1))
       case measure => have := HG.out; omega
       case rel => exact ⟨i + 1, by omega, rfl, by go_num, HN.out, hbel.trans (hb8.mono hbel.size)⟩
     ·obtain rfl : i = num.size := by omega
      have HN : Hid (num.data.toList.all (fun b => letB b || digB b) = true) := Lib.hid (by
       have := HA.out
       rwa [List.take_of_length_le (by rw [EN.out]; exact Nat.le_refl _)] at this)
      go_wp2
      go_ret
      refine ⟨ret_bool ?_, hbel⟩
      rw [HR.out, HN.out, decide_eq_true (by rw [EN.out]; exact z1), decide_eq_true (by rw [EN.out]; exact z2)]; rfl
   ·have HN : Hid ((decide (1 ≤ num.data.toList.length) && decide (num.data.toList.length ≤ 20)) = false) := Lib.hid (by
     rw [EN.out, Bool.and_eq_false_iff, decide_eq_false_iff_not, decide_eq_false_iff_not]; omega)
    by_cases z1 : num.size < 1
    ·have y1 : (num.size : Int) < 1 := by omega
     go_enter Try.func53, Try.ntmps53
     go_wp2_with (first
      | (go_at_call 60; refine (hC _).mono ?_; rintro e w1 ⟨rfl, rfl⟩)
      | (go_at_call 49; refine (hM _).mono ?_; rintro e w2 ⟨rfl, hb2⟩))
     go_ret
     refine ⟨ret_bool ?_, hb2⟩
     rw [HR.out, HN.out]; rfl
    ·have y1 : decide ((num.size : Int) < 1) = false := decide_eq_false (by omega)
     have y2 : (20 : Int) < (num.size : Int) := by omega
     go_enter Try.func53, Try.ntmps53
     go_wp2_with (first
      | (go_at_call 60; refine (hC _).mono ?_; rintro e w1 ⟨rfl, rfl⟩)
      | (go_at_call 49; refine (hM _).mono ?_; rintro e w2 ⟨rfl, hb2⟩))
     go_ret
     refine ⟨ret_bool ?_, hb2⟩
     rw [HR.out, HN.out]; rfl
end Go.Proofs.Ytnfpmobmfcgfnaa

