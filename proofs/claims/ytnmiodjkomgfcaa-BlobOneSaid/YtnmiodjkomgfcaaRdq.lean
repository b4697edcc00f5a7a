/- WHAT IS WRITTEN IS READ; WHAT IS READ IS WRITTEN: plain laws on bytes. -/
import Derived.Test.YtnmiodjkomgfcaaRdp
import Derived.Test.YtnmiodjkomgfcaaPud
namespace Go.Proofs.Ytnmiodjkomgfcaa
theorem valL_app (l : List UInt8) (b : UInt8) : valL (l ++ [b]) = valL l * 256 + b.toNat := by simp [valL, List.foldl_append]
theorem valL_digs (n : Nat) : valL (digs n) = n := by
  induction n using Nat.strongRecOn with
  | _ n ih =>
    rcases Nat.eq_zero_or_pos n with rfl | hp
    · rw [digs_zero]; rfl
    · rw [digs_pos hp, valL_app, ih (n / 256) (by omega), UInt8.toNat_ofNat']
      omega
theorem digs_app (v : Nat) (b : UInt8) (h : 0 < v * 256 + b.toNat) : digs (v * 256 + b.toNat) = digs v ++ [b] := by
  have hb := b.toNat_lt
  rw [digs_pos h, show (v * 256 + b.toNat) / 256 = v by omega]
  congr 2
  rw [← UInt8.toNat_inj, UInt8.toNat_ofNat']
  omega
theorem valL_pos_of (l : List UInt8) (h0 : 0 < (l.headD 0).toNat) : 0 < valL l := by
  cases l with
  | nil => simp at h0
  | cons a t =>
    have key : ∀ (t : List UInt8) (x : Nat), 0 < x → 0 < t.foldl (fun a b => a * 256 + b.toNat) x := by
      intro t
      induction t with
      | nil => intro x hx; exact hx
      | cons b t ih => intro x hx; exact ih _ (Nat.lt_of_lt_of_le (Nat.mul_pos hx (by decide)) (Nat.le_add_right _ _))
    exact key t _ (by simpa using h0)
theorem digs_valL (l : List UInt8) (h : l = [] ∨ 0 < (l.headD 0).toNat) : digs (valL l) = l := by
  have key : ∀ (m : Nat) (l : List UInt8), l.length = m → (l = [] ∨ 0 < (l.headD 0).toNat) → digs (valL l) = l := by
    intro m
    induction m with
    | zero => intro l hl _; rw [List.eq_nil_of_length_eq_zero hl]; exact digs_zero
    | succ m ih =>
      intro l hl hh
      have hne : l ≠ [] := fun e => by rw [e] at hl; simp at hl
      obtain ⟨l0, b, rfl⟩ : ∃ l0 b, l = l0 ++ [b] := ⟨l.dropLast, l.getLast hne, (List.dropLast_concat_getLast hne).symm⟩
      have hh' : 0 < ((l0 ++ [b]).headD 0).toNat := by
        rcases hh with e | e
        · exact absurd e hne
        · exact e
      have hpos := valL_pos_of _ hh'
      rw [valL_app] at hpos ⊢
      rw [digs_app _ _ hpos, ih l0 (by simpa using hl) ?_]
      cases l0 with
      | nil => exact .inl rfl
      | cons a t => exact .inr (by simpa using hh')
  exact key _ l rfl h
theorem fold_ge (t : List UInt8) : ∀ x : Nat, x * 256 ^ t.length ≤ t.foldl (fun a b => a * 256 + b.toNat) x := by
  induction t with
  | nil => intro x; simp
  | cons b t ih =>
    intro x
    refine Nat.le_trans ?_ (ih _)
    rw [List.length_cons, Nat.pow_succ, Nat.mul_comm (256 ^ t.length), ← Nat.mul_assoc]
    exact Nat.mul_le_mul_right _ (Nat.le_add_right _ _)
theorem digs_head (n : Nat) (h : 0 < n) : 0 < ((digs n).headD 0).toNat := by
  induction n using Nat.strongRecOn with
  | _ n ih =>
    rw [digs_pos h]
    rcases Nat.eq_zero_or_pos (n / 256) with h0 | hp
    · rw [h0, digs_zero]
      show 0 < (UInt8.ofNat n).toNat
      rw [UInt8.toNat_ofNat']
      omega
    · have := ih (n / 256) (by omega) hp
      cases hd : digs (n / 256) with
      | nil => rw [hd] at this; simp at this
      | cons a t => rw [hd] at this; simpa using this
theorem digs_head8 (n : Nat) (h : n < 9223372036854775808) (h8 : (digs n).length = 8) : ((digs n).headD 0).toNat < 128 := by
  have hv := valL_digs n
  cases hd : digs n with
  | nil => simp
  | cons a t =>
    rw [hd] at h8 hv
    have hg := fold_ge t (0 * 256 + a.toNat)
    have ht : t.length = 7 := by simpa using h8
    rw [ht] at hg
    have : valL (a :: t) = t.foldl (fun a b => a * 256 + b.toNat) (0 * 256 + a.toNat) := rfl
    rw [← this, hv] at hg
    show a.toNat < 128
    have e : (256 : Nat) ^ 7 = 72057594037927936 := by decide
    rw [e] at hg
    omega
theorem headD_app (l t : List UInt8) (h : 0 < l.length) : (l ++ t).headD 0 = l.headD 0 := by cases l with | nil => simp at h | cons a b => rfl
theorem rd_num (n : Int) (h1 : -9223372036854775808 < n) (h2 : n ≤ 9223372036854775807) (t : List UInt8) : rdNum (numL n ++ t) = some (n, t) := by
  have hl := digs_abs_le n (by omega) h2
  have hk : n.natAbs < 9223372036854775808 := by omega
  have hh : (UInt8.ofNat ((if n < 0 then 128 else 0) + (digs n.natAbs).length)).toNat = (if n < 0 then 128 else 0) + (digs n.natAbs).length := by
    rw [UInt8.toNat_ofNat']; split <;> omega
  have hm : (UInt8.ofNat ((if n < 0 then 128 else 0) + (digs n.natAbs).length)).toNat % 128 = (digs n.natAbs).length := by
    rw [hh]; split <;> omega
  have hz : n.natAbs = 0 ∨ 0 < (digs n.natAbs).length := by
    rcases Nat.eq_zero_or_pos n.natAbs with h | h
    · exact .inl h
    · exact .inr (by rw [digs_len_pos h]; omega)
  show rdNum (UInt8.ofNat ((if n < 0 then 128 else 0) + (digs n.natAbs).length) :: (digs n.natAbs ++ t)) = _
  have ho : numOk (UInt8.ofNat ((if n < 0 then 128 else 0) + (digs n.natAbs).length)) (digs n.natAbs ++ t) = true := by
    simp only [numOk, Bool.and_eq_true, Bool.or_eq_true, decide_eq_true_eq, hm]
    refine ⟨⟨⟨hl, ?_⟩, by rw [List.length_append]; omega⟩, ?_⟩
    · rw [hh]
      by_cases hn : n < 0
      · right; omega
      · left; rw [if_neg hn]; omega
    · by_cases h0 : (digs n.natAbs).length = 0
      · exact .inl h0
      · right
        rw [headD_app _ _ (by omega)]
        have hp : 0 < n.natAbs := by
          rcases Nat.eq_zero_or_pos n.natAbs with h | h
          · rw [h, digs_zero] at h0; simp at h0
          · exact h
        refine ⟨digs_head _ hp, ?_⟩
        by_cases h8 : (digs n.natAbs).length = 8
        · exact .inr (digs_head8 _ hk h8)
        · left; omega
  rw [rdNum_yes ho, hm, List.take_left, List.drop_left, valL_digs, hh]
  by_cases hn : n < 0
  · rw [if_pos hn, if_neg (by omega)]
    simp only [Option.some.injEq, Prod.mk.injEq, and_true]; omega
  · rw [if_neg hn, if_pos (by omega)]
    simp only [Option.some.injEq, Prod.mk.injEq, and_true]; omega
theorem rd_flag (b : Bool) (t : List UInt8) : rdFlag (flagL b ++ t) = some (b, t) := by cases b <;> rfl
theorem rd_text (s : ByteArray) (h : s.size ≤ 65536) (t : List UInt8) : rdText (textL s ++ t) = some (s, t) := by
  unfold rdText textL
  rw [List.append_assoc, rd_num _ (by omega) (by omega)]
  have hl : s.data.toList.length = s.size := Array.length_toList
  show (if 0 ≤ (s.size : Int) ∧ (s.size : Int) ≤ 65536 ∧ (s.size : Int) ≤ ((s.data.toList ++ t).length : Int) then some ((⟨((s.data.toList ++ t).take (s.size : Int).toNat).toArray⟩ : ByteArray), (s.data.toList ++ t).drop (s.size : Int).toNat) else none) = _
  rw [if_pos ⟨by omega, by omega, by rw [List.length_append]; omega⟩, Int.toNat_natCast, ← hl, List.take_left, List.drop_left]
/-- what is read is what would be written -/
theorem rd_num_back {l : List UInt8} {n : Int} {t : List UInt8} (h : rdNum l = some (n, t)) : l = numL n ++ t := by
  cases l with
  | nil => cases h
  | cons c l' =>
    by_cases ho : numOk c l' = true
    · rw [rdNum_yes ho] at h
      have hc := c.toNat_lt
      simp only [numOk, Bool.and_eq_true, Bool.or_eq_true, decide_eq_true_eq] at ho
      obtain ⟨⟨⟨h8, h9⟩, hlen⟩, h4⟩ := ho
      simp only [Option.some.injEq, Prod.mk.injEq] at h
      obtain ⟨hn, rfl⟩ := h
      generalize hm : c.toNat % 128 = m at *
      have htl : (l'.take m).length = m := by rw [List.length_take]; omega
      have hd : digs (valL (l'.take m)) = l'.take m := by
        apply digs_valL
        rcases Nat.eq_zero_or_pos m with h0 | hp
        · left; rw [h0]; rfl
        · right
          rcases h4 with h4 | ⟨h4, _⟩
          · omega
          · cases l' with
            | nil => simp at hlen; omega
            | cons a b => cases m with | zero => omega | succ j => simpa using h4
      have hpos : 0 < m → 0 < valL (l'.take m) := by
        intro hp
        apply valL_pos_of
        rcases h4 with h4 | ⟨h4, _⟩
        · omega
        · cases l' with
          | nil => simp at hlen; omega
          | cons a b => cases m with | zero => omega | succ j => simpa using h4
      have hab : n.natAbs = valL (l'.take m) := by rw [← hn]; split <;> omega
      unfold numL
      rw [hab, hd, htl, List.cons_append, List.take_append_drop]
      congr 1
      rw [← UInt8.toNat_inj, UInt8.toNat_ofNat']
      by_cases hc1 : c.toNat < 128
      · rw [if_pos hc1] at hn
        rw [if_neg (by omega)]; omega
      · rw [if_neg hc1] at hn
        have := hpos (by rcases h9 with h9 | h9 <;> omega)
        rw [if_pos (by omega)]; omega
    · rw [rdNum_no ho] at h; cases h
theorem rd_flag_back {l : List UInt8} {b : Bool} {t : List UInt8} (h : rdFlag l = some (b, t)) : l = flagL b ++ t := by
  cases l with
  | nil => cases h
  | cons c l' =>
    by_cases h1 : c.toNat ≤ 1
    · have e : rdFlag (c :: l') = some (c.toNat == 1, l') := if_pos h1
      rw [e] at h
      simp only [Option.some.injEq, Prod.mk.injEq] at h
      obtain ⟨rfl, rfl⟩ := h
      rcases (show c.toNat = 0 ∨ c.toNat = 1 by omega) with h0 | h0
      · have : c = 0 := UInt8.toNat_inj.1 h0
        subst this; rfl
      · have : c = 1 := UInt8.toNat_inj.1 h0
        subst this; rfl
    · have e : rdFlag (c :: l') = none := if_neg h1
      rw [e] at h; cases h
theorem rd_text_back {l : List UInt8} {s : ByteArray} {t : List UInt8} (h : rdText l = some (s, t)) : l = textL s ++ t ∧ s.size ≤ 65536 := by
  unfold rdText at h
  cases hr : rdNum l with
  | none => rw [hr] at h; cases h
  | some p =>
    obtain ⟨n, u⟩ := p
    rw [hr] at h
    by_cases hc : 0 ≤ n ∧ n ≤ 65536 ∧ n ≤ (u.length : Int)
    · have e : (if 0 ≤ n ∧ n ≤ 65536 ∧ n ≤ (u.length : Int) then some ((⟨(u.take n.toNat).toArray⟩ : ByteArray), u.drop n.toNat) else none) = some (s, t) := h
      rw [if_pos hc] at e
      simp only [Option.some.injEq, Prod.mk.injEq] at e
      obtain ⟨rfl, rfl⟩ := e
      have hs : (⟨(u.take n.toNat).toArray⟩ : ByteArray).size = n.toNat := by
        show (u.take n.toNat).toArray.size = _
        rw [List.size_toArray, List.length_take]; omega
      refine ⟨?_, by omega⟩
      unfold textL
      rw [hs, Int.toNat_of_nonneg hc.1, List.append_assoc]
      show l = numL n ++ (u.take n.toNat ++ u.drop n.toNat)
      rw [List.take_append_drop]
      exact rd_num_back hr
    · have e : (if 0 ≤ n ∧ n ≤ 65536 ∧ n ≤ (u.length : Int) then some ((⟨(u.take n.toNat).toArray⟩ : ByteArray), u.drop n.toNat) else none) = some (s, t) := h
      rw [if_neg hc] at e; cases e
end Go.Proofs.Ytnmiodjkomgfcaa
