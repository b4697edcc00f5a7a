/- THE WALKS OF octroiref29's Find AND Credits. -/
import Derived.Test.YtnfpmobmfcgfnaaIdD
import Derived.Deep.LoopGhost
namespace Go.Proofs.Ytnfpmobmfcgfnaa
open Go.RowKit
/-- where a document is, from k on; -1: nowhere -/
def posL : List Dm → List UInt8 → Nat → Int
  | [], _, _ => -1
  | o :: r, s, k => if o.id.data.toList = s then (k : Int) else posL r s (k + 1)
theorem posL_cases : ∀ (l : List Dm) (s : List UInt8) (k : Nat), (posL l s k = -1 ∧ findD l s = none) ∨ ∃ (i : Nat) (o : Dm), l[i]? = some o ∧ posL l s k = ((k + i : Nat) : Int) ∧ findD l s = some o := by
  intro l
  induction l with
  | nil => intro s k; exact .inl ⟨rfl, rfl⟩
  | cons o r ih =>
    intro s k
    unfold posL
    by_cases h : o.id.data.toList = s
    · rw [if_pos h]
      exact .inr ⟨0, o, rfl, rfl, by simp [findD, h]⟩
    · rw [if_neg h]
      have hf : findD (o :: r) s = findD r s := by
        unfold findD
        rw [List.find?_cons_of_neg]
        simpa using h
      rw [hf]
      rcases ih s (k + 1) with ⟨h1, h2⟩ | ⟨i, x, h1, h2, h3⟩
      · exact .inl ⟨h1, h2⟩
      · exact .inr ⟨i + 1, x, h1, by rw [h2]; congr 1; omega, h3⟩
set_option maxRecDepth 100000 in
set_option maxHeartbeats 2000000 in
theorem rfind29_any {w : World} {B : Nat} {v : Value} {os : List Dm} (hs : Docs w B v os) (hl : os.length ≤ 1000000) (s : ByteArray) :
    Calls Try.prog 20 #[v, .string s] w fun e w' => e = .returned (.int .i64 (posL os s.data.toList 0)) ∧ w = w' := by
  obtain ⟨A, c, rfl, hcl, hcm⟩ := hs.form
  generalize hR : posL os s.data.toList 0 = R
  have HS := Lib.hid hs
  have HR := Lib.hid hR
  clear hs hR
  go_enter Try.func20, Try.ntmps20
  go_wp2
  go_loopg [5] os.length (fun gk x5 wr => ∃ k : Nat, gk = os.length - k ∧ k ≤ os.length ∧ x5 = .int .i64 (k : Int) ∧ posL (os.drop k) s.data.toList k = R ∧ w = wr)
  case atStart => exact ⟨0, rfl, Nat.zero_le _, rfl, HR.out, rfl⟩
  case round =>
    obtain ⟨k, hgk, hk, rfl, hp, rfl⟩ := hrel
    have HG := Lib.hid hgk
    have HP := Lib.hid hp
    clear hgk hp HR
    by_cases h : k < os.length
    · obtain ⟨ad, c', t, hv, hadB, hat, _, _⟩ := HS.out.at_ k h
      cases hv
      have hp := HP.out
      rw [List.drop_eq_getElem_cons h, posL] at hp
      have y0 := hat.c0
      have i1 : (0 : Int) ≤ (k : Int) := by omega
      have i2 : (k : Int) < (os.length : Int) := by omega
      have i3 : IntKind.i64.wrap ((k : Int) + 1) = (k : Int) + 1 := by rw [IntKind.wrap_i64]; omega
      clear hat
      generalize os[k].id = x at *
      by_cases he : x = s
      · subst he
        rw [if_pos rfl] at hp
        subst hp
        go_wp2
        go_ret
        exact ⟨rfl, rfl⟩
      · rw [if_neg (fun e => he ((toList_data x s).1 e))] at hp
        have hne : (x.toList == s.toList) = false := by rw [beq_eq_false_iff_ne]; exact fun e => he ((toL_iff x s).1 e)
        have HP2 := Lib.hid hp
        clear hp he
        go_wp2
        go_roundg (os.length - (k + 1))
        case measure => have := HG.out; omega
        case rel => exact ⟨k + 1, rfl, by omega, by simp, HP2.out, rfl⟩
    · obtain rfl : k = os.length := by omega
      have hp := HP.out
      rw [List.drop_length, posL] at hp
      subst hp
      go_wp2
      go_ret
      exact ⟨rfl, rfl⟩
set_option maxRecDepth 100000 in
set_option maxHeartbeats 4000000 in
theorem rcred29_any {w : World} {B : Nat} {v : Value} {os : List Dm} (hs : Docs w B v os) (hB : B ≤ w.heap.size) (hl : os.length ≤ 1000000) (s : ByteArray) :
    Calls Try.prog 23 #[v, .string s] w fun e w' => ∃ v', e = .returned v' ∧ Sl strK w' w'.heap.size v' (credL os s.data.toList) ∧ Below w.heap.size w w' := by
  obtain ⟨A, c, rfl, hcl, hcm⟩ := hs.form
  have HS := Lib.hid hs
  clear hs
  go_enter Try.func23, Try.ntmps23
  go_wp2
  go_loopg [5, 6] os.length (fun gk x5 x6 wr => ∃ k : Nat, gk = os.length - k ∧ k ≤ os.length ∧ x6 = .int .i64 (k : Int) ∧ Ow strK wr w.heap.size x5 (credL (os.take k) s.data.toList) ∧ Below w.heap.size w wr)
  case atStart => exact ⟨0, rfl, Nat.zero_le _, rfl, Ow.nil_ _ _ _, Below.refl _ _⟩
  case round =>
    obtain ⟨k, hgk, hk, rfl, ho, hbel⟩ := hrel
    have HG := Lib.hid hgk
    have HO := Lib.hid ho
    have HB := Lib.hid hbel
    clear hgk ho hbel
    by_cases h : k < os.length
    · obtain ⟨ad, c', t, hv, hadB, hat, _, _⟩ := (HS.out.below (HB.out.mono hB)).at_ k h
      cases hv
      have hnx : credL (os.take (k + 1)) s.data.toList = credL (os.take k) s.data.toList ++ if os[k].cred = true ∧ os[k].ref.data.toList = s.data.toList then [os[k].id] else [] := by
        rw [List.take_succ_eq_append_getElem h, credL_app]
      have y0 := hat.c0
      have y2 := hat.c2
      have y3 := hat.c3
      have i1 : (0 : Int) ≤ (k : Int) := by omega
      have i2 : (k : Int) < (os.length : Int) := by omega
      have i3 : IntKind.i64.wrap ((k : Int) + 1) = (k : Int) + 1 := by rw [IntKind.wrap_i64]; omega
      have HLN := Lib.hid (show (credL (os.take k) s.data.toList).length + 1 ≤ 1000000000 by
        have : (credL (os.take k) s.data.toList).length ≤ (os.take k).length := by unfold credL; rw [List.length_map]; exact List.length_filter_le _ _
        rw [List.length_take] at this
        omega)
      clear hat
      generalize os[k].id = x at *
      generalize os[k].cred = cr at *
      generalize os[k].ref = rf at *
      have HNX := Lib.hid hnx
      clear hnx
      have hwr := HB.out.size
      cases cr
      · have hnx := HNX.out
        rw [if_neg (fun e => by cases e.1), List.append_nil] at hnx
        have HN2 := Lib.hid hnx
        clear hnx
        go_wp2
        go_roundg (os.length - (k + 1))
        case measure => have := HG.out; omega
        case rel => exact ⟨k + 1, rfl, by omega, by simp, by rw [HN2.out]; exact HO.out, HB.out⟩
      · by_cases he : rf = s
        · subst he
          have hnx := HNX.out
          rw [if_pos ⟨rfl, rfl⟩] at hnx
          have HN2 := Lib.hid hnx
          clear hnx
          go_wp2_with ((with_reducible show wpList _ _ _ (⟨some 34, _, _, _, _, _⟩ :: _) _ _); go_must (refine wpList_append_sl strK _ rfl (.tmp 27) (.tmp 33) 39 rfl Try.underlying39 w.heap.size _ _ rfl (HO.out.alloc _) _ _ [x] rfl (sl_one strK _ _) HLN.out (by decide) (by simp; omega) ?_); intro v' w' ho' hg' hat'; have HO' := Lib.hid ho'; have HG' := Lib.hid hg'; clear ho' hg' hat')
          have hal := HB.out.alloc hwr (.cells #[.string x] 9)
          go_roundg (os.length - (k + 1))
          case measure => have := HG.out; omega
          case rel => exact ⟨k + 1, rfl, by omega, by simp, by rw [HN2.out]; exact HO'.out, hal.grown HG'.out (by simp; omega) (fun b hb => ((HO.out.alloc (.cells #[.string x] 9)).lt b hb).1)⟩
        · have hnx := HNX.out
          rw [if_neg (fun e => he ((toList_data rf s).1 e.2)), List.append_nil] at hnx
          have HN2 := Lib.hid hnx
          have hne : (rf.toList == s.toList) = false := by rw [beq_eq_false_iff_ne]; exact fun e => he ((toL_iff rf s).1 e)
          clear hnx he
          go_wp2
          go_roundg (os.length - (k + 1))
          case measure => have := HG.out; omega
          case rel => exact ⟨k + 1, rfl, by omega, by simp, by rw [HN2.out]; exact HO.out, HB.out⟩
    · obtain rfl : k = os.length := by omega
      have HO2 := Lib.hid (show Ow strK wr w.heap.size u5 (credL os s.data.toList) by have := HO.out; rwa [List.take_length] at this)
      clear HO
      go_wp2
      go_ret
      exact ⟨_, rfl, HO2.out.sl, HB.out⟩
end Go.Proofs.Ytnfpmobmfcgfnaa
