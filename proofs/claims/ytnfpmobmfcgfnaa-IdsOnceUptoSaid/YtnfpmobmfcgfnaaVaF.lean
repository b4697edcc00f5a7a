/- THE WALKS OF Forms, fits AND Right. -/
import Derived.Test.YtnfpmobmfcgfnaaVaE
import Derived.ScopeJumps
import Derived.WalkMore
namespace Go.Proofs.Ytnfpmobmfcgfnaa
open Go.RowKit
theorem find_rows (s : List UInt8) : ∀ rows : List (ByteArray × Array Value),
    (rows.find? fun p => p.1.data.toList == s).map (fun p => (strsOf p.2).map fun x => x.data.toList) = (rows.map fun p => (p.1.data.toList, (strsOf p.2).map fun x => x.data.toList)).lookup s
  | [] => rfl
  | p :: t => by
    rw [List.find?_cons, List.map_cons, List.lookup_cons]
    by_cases h : p.1.data.toList = s
    · have h1 : (p.1.data.toList == s) = true := by rw [beq_iff_eq]; exact h
      have h2 : (s == p.1.data.toList) = true := by rw [beq_iff_eq]; exact h.symm
      simp only [h1, h2]; rfl
    · have h1 : (p.1.data.toList == s) = false := by rw [beq_eq_false_iff_ne]; exact h
      have h2 : (s == p.1.data.toList) = false := by rw [beq_eq_false_iff_ne]; exact fun e => h e.symm
      simp only [h1, h2]
      exact find_rows s t
theorem tab_reverse (s : List UInt8) : tab.reverse.lookup s = tab.lookup s := by
  have h : mems.all (fun s => decide (tab.reverse.lookup s = tab.lookup s)) = true := by decide +kernel
  by_cases hs : s ∈ mems
  · simpa using List.all_eq_true.1 h s hs
  · have e1 : tab.lookup s = none := by
      rw [List.lookup_eq_none_iff]
      intro p hp
      rw [bne_iff_ne]
      rintro rfl
      exact hs (by rw [← tab_mems]; exact List.mem_map.2 ⟨p, hp, rfl⟩)
    have e2 : tab.reverse.lookup s = none := by
      rw [List.lookup_eq_none_iff]
      intro p hp
      rw [bne_iff_ne]
      rintro rfl
      exact hs (by rw [← tab_mems]; exact List.mem_map.2 ⟨p, List.mem_reverse.1 hp, rfl⟩)
    rw [e1, e2]
/-- what stands at a country -/
theorem forms_look {w w' : World} {b : Nat} {rows : List (ByteArray × Array Value)} (h : TabM w w' b rows) (hr : rows.map (fun p => (p.1.data.toList, (strsOf p.2).map fun s => s.data.toList)) = tab.reverse) (c : ByteArray) (hc : c.size ≤ maxLen) :
    ∃ v, (Instr.lookup 46 (.map (some b)) (.string c) false).run Try.prog w' = .ok v w' ∧ Sl strK w' w'.heap.size v ((formsT c.data.toList).map bsA) ∧ Below w.heap.size w w' := by
  obtain ⟨n, m, f, _, hm, hb, _, hf⟩ := h
  have hrun := hm.look (e := 39) Try.underlying46 (Try.zstr w') false c hc
  refine ⟨_, hrun, ?_, hb⟩
  have h1 := find_rows c.data.toList rows
  rw [hr, tab_reverse] at h1
  have h2 := hf c.data.toList
  unfold MapV.val formsT
  cases hfd : rows.find? (fun p => p.1.data.toList == c.data.toList) with
  | none =>
    rw [hfd] at h1 h2
    simp only at h2
    rw [h2, ← h1]
    exact Sl.nil_ _ _ _
  | some p =>
    rw [hfd] at h1 h2
    obtain ⟨v, hv, hs⟩ := h2
    rw [hv, ← h1]
    show Sl strK w' w'.heap.size v (((strsOf p.2).map fun x => x.data.toList).map bsA)
    rw [List.map_map, show (bsA ∘ fun x : ByteArray => x.data.toList) = id from funext fun x => bsA_of x, List.map_id]
    exact hs
def NewSl (ls : List (List UInt8)) (w : World) (e : Ending) (w' : World) : Prop := ∃ v, e = .returned v ∧ Sl strK w' w'.heap.size v (ls.map bsA) ∧ Below w.heap.size w w'
theorem formsF_any (c : ByteArray) (hc : c.size ≤ maxLen) (w : World) : Calls Try.prog 86 #[.string c] w (NewSl (formsT c.data.toList) w) := by
  go_enter Try.func86, Try.ntmps86
  go_wp2_with (go_at_call 109; refine (forms_any _).mono ?_; rintro e w1 ⟨b, rows, rfl, htab, hrows⟩; obtain ⟨v, hv, hs, hb⟩ := forms_look htab hrows c hc; clear hrows htab)
  go_ret
  exact ⟨_, rfl, hs, hb⟩
theorem allFit_len : ∀ f n : List UInt8, f.length ≠ n.length → allFit f n = false
  | [], [], h => absurd rfl h
  | [], _ :: _, _ => rfl
  | _ :: _, [], _ => rfl
  | f :: fs, b :: bs, h => by
    unfold allFit
    rw [allFit_len fs bs (by simpa using h), Bool.and_false]
theorem allFit_take : ∀ (f n : List UInt8) (k : Nat), f.length = n.length → k < f.length → (allFit (f.take k) (n.take k) = true) → fitB (f.getD k 0) (n.getD k 0) = false → allFit f n = false
  | [], _, _, _, h, _, _ => by simp at h
  | _ :: _, [], _, h, _, _, _ => by simp at h
  | f :: fs, b :: bs, 0, _, _, _, h => by unfold allFit; rw [show fitB f b = false from h, Bool.false_and]
  | f :: fs, b :: bs, k + 1, hl, hk, ha, h => by
    unfold allFit
    have ha' : (fitB f b && allFit (fs.take k) (bs.take k)) = true := ha
    rw [Bool.and_eq_true] at ha'
    rw [allFit_take fs bs k (by simpa using hl) (by simpa using hk) ha'.2 (by simpa using h), Bool.and_false]
theorem allFit_snoc : ∀ (f n : List UInt8) (k : Nat), k < f.length → k < n.length → allFit (f.take k) (n.take k) = true → fitB (f.getD k 0) (n.getD k 0) = true → allFit (f.take (k + 1)) (n.take (k + 1)) = true
  | [], _, _, h, _, _, _ => by simp at h
  | _ :: _, [], _, _, h, _, _ => by simp at h
  | f :: fs, b :: bs, 0, _, _, _, h => by
    show (fitB f b && allFit (fs.take 0) (bs.take 0)) = true
    rw [show fitB f b = true from h]; rfl
  | f :: fs, b :: bs, k + 1, hk1, hk2, ha, h => by
    have ha' : (fitB f b && allFit (fs.take k) (bs.take k)) = true := ha
    rw [Bool.and_eq_true] at ha'
    show (fitB f b && allFit (fs.take (k + 1)) (bs.take (k + 1))) = true
    rw [ha'.1, allFit_snoc fs bs k (by simpa using hk1) (by simpa using hk2) ha'.2 (by simpa using h)]; rfl
theorem wp_skip_seq {P : Program} {a : Act} {w : World} {Q : Exit → Act → World → Prop} {c : Code} (h : c.wp P Q a w) : (Code.skip.seq c).wp P Q a w := wp_seq (wp_skip h)
theorem wp_scope_label {P : Program} {a : Act} {w : World} {Q : Exit → Act → World → Prop} {c rest X : Code} (l : Nat) (J : Act → World → Prop) (μ : Act → World → Nat) (hf : findLabel c l = some rest)
    (hX : ∀ Q' a w, X.wp P Q' a w → rest.wp P Q' a w)
    (first : Hid (∀ a w, J a w → X.wp P (Exit.jump l J Q) a w) → c.wp P (Exit.jump l J Q) a w) (pass : ∀ a w, J a w → X.wp P (Exit.jump l (fun a' w' => J a' w' ∧ μ a' w' < μ a w) Q) a w) : (Code.scope c).wp P Q a w := by
  refine wp_scope_jumps l J μ hf (first (Lib.hid fun a w h0 => Code.wp_mono (fun e a' w' h => ?_) (pass a w h0))) fun a w h => hX _ _ _ (pass a w h)
  cases e <;> first | exact h | exact ⟨h.1, h.2.1⟩
def fitsUp (ls : List ByteArray) (num : ByteArray) (k : Nat) : Prop := ∀ j, j < k → ∀ s, ls[j]? = some s → allFit s.data.toList num.data.toList = false
theorem fits_t {ls : List ByteArray} {num : ByteArray} {k : Nat} {s : ByteArray} (h : ls[k]? = some s) (hf : allFit s.data.toList num.data.toList = true) : fitsL (ls.map fun x => x.data.toList) num.data.toList = true := by
  unfold fitsL
  rw [List.any_map, List.any_eq_true]
  exact ⟨s, List.mem_of_getElem? h, hf⟩
theorem fits_f {ls : List ByteArray} {num : ByteArray} (h : fitsUp ls num ls.length) : fitsL (ls.map fun x => x.data.toList) num.data.toList = false := by
  unfold fitsL
  rw [List.any_map, List.any_eq_false]
  intro x hx
  obtain ⟨j, hj, e⟩ := List.mem_iff_getElem.1 hx
  have := h j hj x (by rw [List.getElem?_eq_getElem hj, e])
  simp only [Function.comp, this]; simp
theorem fitsUp_succ {ls : List ByteArray} {num : ByteArray} {k : Nat} {s : ByteArray} (h : fitsUp ls num k) (hs : ls[k]? = some s) (hf : allFit s.data.toList num.data.toList = false) : fitsUp ls num (k + 1) := by
  intro j hj t ht
  by_cases e : j = k
  · subst e; rw [hs] at ht; cases ht; exact hf
  · exact h j (by omega) t ht
def FitsPost (ls : List ByteArray) (num : ByteArray) (w : World) (e : Ending) (w' : World) : Prop := e = .returned (.bool (fitsL (ls.map fun x => x.data.toList) num.data.toList)) ∧ Below w.heap.size w w'
def FitsJ (A : Option Addr) (c : Nat) (ls : List ByteArray) (num : ByteArray) (w : World) (a' : Act) (w' : World) : Prop :=
  ∃ (k : Nat) (u6 u7 u8 u9 u10 u11 u12 u13 u14 u15 u16 u17 u18 u19 u20 u21 u22 u23 u24 u25 u26 u27 u28 u29 u30 u31 u32 u33 u34 u35 u36 : Value), k ≤ ls.length ∧ fitsUp ls num k ∧ Below w.heap.size w w' ∧ a' = { tmps := #[.slice A ls.length c, .string num, undef, undef, .bool false, .int .i64 (k : Int), u6, u7, u8, u9, u10, u11, u12, u13, u14, u15, u16, u17, u18, u19, u20, u21, u22, u23, u24, u25, u26, u27, u28, u29, u30, u31, u32, u33, u34, u35, u36], defers := [] }
set_option maxRecDepth 100000 in
set_option maxHeartbeats 4000000 in
theorem fits_any (v : Value) (ls : List ByteArray) (num : ByteArray) (w : World) (B : Nat) (hv : Sl strK w B v ls) (hls : ls.length ≤ 1000) (hnum : num.size ≤ 9223372036854775807) :
    Calls Try.prog 85 #[v, .string num] w (FitsPost ls num w) := by
  obtain ⟨A, c, rfl, hc, hm, hr⟩ := hv.heap
  unfold maxLen at hm
  have HR := Lib.hid hr
  clear hr hv
  go_enter Try.func85, Try.ntmps85
  go_wp2
  refine wp_scope_label 0 (FitsJ A c ls num w) (fun a' _ => ls.length - (intOf (a'.tmps.getD 5 undef)).toNat) rfl (fun _ _ _ h => wp_skip_seq h) (fun hp => ?_) ?_
  · go_wp2
    go_step3
    rename_i K' hK'
    exact hK' _ _ (hp.out _ _ ⟨0, _, _, _, _, _, _, _, _, _, _, _, _, _, _, _, _, _, _, _, _, _, _, _, _, _, _, _, _, _, _, _, Nat.zero_le _, fun j hj => by omega, Below.refl _ _, rfl⟩)
  rintro a' wr ⟨k, u6, u7, u8, u9, u10, u11, u12, u13, u14, u15, u16, u17, u18, u19, u20, u21, u22, u23, u24, u25, u26, u27, u28, u29, u30, u31, u32, u33, u34, u35, u36, hk, hup, hbel, rfl⟩
  have HU := Lib.hid hup
  clear hup
  by_cases h : k < ls.length
  · obtain ⟨ad, rfl, hadB, hrow⟩ := HR.out (by omega)
    have hat : wr.cell? (ad.add k) = some (.string ls[k]) := (hbel.cell (p := ad.add k) (by rw [addr_add_block]; exact hadB)).trans (hrow k ls[k] (List.getElem?_eq_getElem h))
    have HK := Lib.hid (List.getElem?_eq_getElem h)
    have hne : ((k : Int) == (ls.length : Int)) = false := by rw [beq_eq_false_iff_ne]; omega
    have hll : ls.length ≤ 9223372036854775807 := by omega
    clear hrow
    generalize ls[k] = s at *
    have es : s.data.toList.length = s.size := Array.length_toList
    have en : num.data.toList.length = num.size := Array.length_toList
    have ES := Lib.hid es
    have EN := Lib.hid en
    clear es en
    by_cases hs : s.size = num.size
    · have e1 : ((s.size : Int) == (num.size : Int)) = true := by rw [beq_iff_eq]; omega
      have e2 : ((s.size : Int) != (num.size : Int)) = false := by simp; omega
      have hs1 : s.size ≤ num.size := by omega
      have hs2 : num.size ≤ s.size := by omega
      clear hs
      go_wp2
      go_loopg [7, 25] s.size (fun g x7 x25 w2 => ∃ i : Nat, i ≤ s.size ∧ g = s.size - i ∧ x25 = .int .i64 (i : Int) ∧ allFit (s.data.toList.take i) (num.data.toList.take i) = true ∧ Below w.heap.size w w2)
      case atStart => exact ⟨0, Nat.zero_le _, rfl, rfl, rfl, hbel⟩
      case round =>
        obtain ⟨i, hi, hg, rfl, hfit, hbel2⟩ := hrel
        have HG := Lib.hid hg
        have HF := Lib.hid hfit
        clear hg hfit
        by_cases hlt : i < s.size
        · have hin : i < num.size := by omega
          have b1 := Lib.hid (byte_at s i hlt)
          have b2 := Lib.hid (byte_at num i hin)
          have hi0 : (0 : Int) ≤ (i : Int) := by omega
          have hi1 : (i : Int) < (s.size : Int) := by omega
          have hi2 : (i : Int) < (num.size : Int) := by omega
          generalize hq : fitB s[i] num[i] = q
          have HQ := Lib.hid hq
          clear hq
          cases q with
          | false =>
            have HN := Lib.hid (fitsUp_succ HU.out HK.out (allFit_take _ _ i (by rw [ES.out, EN.out]; omega) (by rw [ES.out]; exact hlt) HF.out (by rw [b1.out, b2.out]; exact HQ.out)))
            go_wp2
            go_region_with ((go_at_call 87; refine (stands_any _ _ _).mono ?_; rintro e w8 ⟨rfl, hb8⟩; rw [HQ.out]))
            all_goals go_wp2
            all_goals go_step3
            all_goals (refine ⟨rfl, ⟨k + 1, _, _, _, _, _, _, _, _, _, _, _, _, _, _, _, _, _, _, _, _, _, _, _, _, _, _, _, _, _, _, _, by omega, HN.out, (hbel2.drew).trans (hb8.mono hbel2.size), rfl⟩, ?_⟩; show ls.length - (intOf (.int .i64 ((k : Int) + 1))).toNat < ls.length - (intOf (.int .i64 (k : Int))).toNat; simp [intOf]; omega)
          | true =>
            have HN := Lib.hid (allFit_snoc _ _ i (by rw [ES.out]; exact hlt) (by rw [EN.out]; exact hin) HF.out (by rw [b1.out, b2.out]; exact HQ.out))
            go_wp2
            go_region_with ((go_at_call 87; refine (stands_any _ _ _).mono ?_; rintro e w8 ⟨rfl, hb8⟩; rw [HQ.out]))
            all_goals go_wp2
            all_goals go_roundg (s.size - (i + 1))
            all_goals first
              | (have := HG.out; omega)
              | exact ⟨i + 1, by omega, rfl, by go_num, HN.out, (hbel2.drew).trans (hb8.mono hbel2.size)⟩
        · obtain rfl : i = s.size := by omega
          have hfull : allFit s.data.toList num.data.toList = true := by
            have := HF.out
            rwa [List.take_of_length_le (by rw [ES.out]; exact Nat.le_refl _), List.take_of_length_le (by rw [EN.out]; omega)] at this
          have HN := Lib.hid (fits_t HK.out hfull)
          clear hfull
          go_wp2
          simp only [Exit.jump]
          go_ret
          exact ⟨ret_bool HN.out.symm, hbel2⟩
    · have e1 : ((s.size : Int) == (num.size : Int)) = false := by rw [beq_eq_false_iff_ne]; omega
      have e2 : ((s.size : Int) != (num.size : Int)) = true := by simp; omega
      have hnf : allFit s.data.toList num.data.toList = false := allFit_len _ _ (by rw [ES.out, EN.out]; exact hs)
      have HN := Lib.hid (fitsUp_succ HU.out HK.out hnf)
      clear hnf hs
      go_wp2
      go_step3
      refine ⟨rfl, ⟨k + 1, _, _, _, _, _, _, _, _, _, _, _, _, _, _, _, _, _, _, _, _, _, _, _, _, _, _, _, _, _, _, _, by omega, HN.out, hbel, rfl⟩, ?_⟩
      simp [intOf]; omega
  · obtain rfl : k = ls.length := by omega
    have HN := Lib.hid (fits_f HU.out)
    go_wp2
    simp only [Exit.jump]
    go_ret
    exact ⟨ret_bool HN.out.symm, hbel⟩
end Go.Proofs.Ytnfpmobmfcgfnaa
