/- JOURNALS, PLAINLY: writes that a fuse may cut off; what is appended; a wipe that was cut off. -/
import Derived.Test.YtmcjefdnkcpghaaZp
namespace Go.Proofs.Ytmcjefdnkcpghaa
/-- a write of a whole sector on a disk with power: it is done, or power goes -/
theorem write_cases {d : Dv} (hok : d.ok) (hd : d.dead = false) (hw : d.writes + 1 ≤ 1000000000) (i : Nat) (hi : i < d.n) (m : List UInt8) (hm : m.length = 64) :
    (d.write (i : Int) m).1.ok ∧ (d.write (i : Int) m).1.n = d.n ∧
    (((d.write (i : Int) m).2 = 0 ∧ (d.write (i : Int) m).1.dead = false ∧ (d.write (i : Int) m).1.writes = d.writes + 1 ∧ (d.fuse = none → (d.write (i : Int) m).1.fuse = none) ∧ ∀ j, page (d.write (i : Int) m).1.L j = if j = i then m else page d.L j) ∨
     ((d.write (i : Int) m).2 = 32 ∧ (d.write (i : Int) m).1.dead = true ∧ (d.write (i : Int) m).1.writes = d.writes ∧ d.fuse ≠ none ∧ ∃ tr, tr ≤ 64 ∧ ∀ j, page (d.write (i : Int) m).1.L j = if j = i then m.take tr ++ (page d.L i).drop tr else page d.L j)) := by
  refine ⟨write_okk hok hw _ _, write_n _ _ _, ?_⟩
  have hc : d.can (i : Int) = 0 := by unfold Dv.can; rw [hd, if_neg (by simp), if_neg (by omega)]
  have hf := hok.fus
  unfold Dv.write
  rw [if_neg (by simp [hc]), if_neg (by simp [hm])]
  have hpg : ∀ t, t ≤ 64 → ∀ j, page (splice d.L ((i : Int).toNat * 64) (m.take t)) j = if j = i then m.take t ++ (page d.L i).drop t else page d.L j := by
    intro t ht j
    rw [Int.toNat_natCast]
    by_cases hj : j = i
    · subst hj; rw [if_pos rfl, page_splice_same hok.len hi hm ht]
    · rw [if_neg hj, page_splice_other hok.len hi hm ht hj]
  split
  · next t he =>
    right
    exact ⟨rfl, rfl, rfl, by rw [he]; simp, t, (hf _ _ he).2, fun j => hpg t (hf _ _ he).2 j⟩
  · next a t he =>
    left
    refine ⟨rfl, hd, rfl, fun h => (by rw [he] at h; cases h), fun j => ?_⟩
    simp only
    rw [hpg 64 (Nat.le_refl _), page_full hok.len hi hm]
  · next he =>
    left
    refine ⟨rfl, hd, rfl, fun h => he, fun j => ?_⟩
    simp only
    rw [hpg 64 (Nat.le_refl _), page_full hok.len hi hm]
/-- pages, from a sector on, rising; power may go -/
def putW (d : Dv) (at_ : Nat) : List (List UInt8) → Dv × Int
  | [] => (d, 0)
  | p :: r => if (d.write (at_ : Int) p).2 = 0 then putW (d.write (at_ : Int) p).1 (at_ + 1) r else d.write (at_ : Int) p
/-- what it leaves -/
theorem put_cases : ∀ (P : List (List UInt8)) (d : Dv) (at_ : Nat), d.ok → d.dead = false → d.writes + P.length ≤ 1000000000 → at_ + P.length ≤ d.n → (∀ p ∈ P, p.length = 64) →
    (putW d at_ P).1.ok ∧ (putW d at_ P).1.n = d.n ∧ (putW d at_ P).1.writes ≤ d.writes + P.length ∧ (d.fuse = none → (putW d at_ P).2 = 0 ∧ (putW d at_ P).1.fuse = none) ∧
    (((putW d at_ P).2 = 0 ∧ (putW d at_ P).1.dead = false ∧ ∀ j, page (putW d at_ P).1.L j = if at_ ≤ j ∧ j < at_ + P.length then P.getD (j - at_) [] else page d.L j) ∨
     ((putW d at_ P).2 = 32 ∧ (putW d at_ P).1.dead = true ∧ ∃ k tr, k < P.length ∧ tr ≤ 64 ∧ ∀ j, page (putW d at_ P).1.L j = if at_ ≤ j ∧ j < at_ + k then P.getD (j - at_) [] else if j = at_ + k then (P.getD k []).take tr ++ (page d.L (at_ + k)).drop tr else page d.L j)) := by
  intro P
  induction P with
  | nil =>
    intro d at_ hok hd hw hn _
    exact ⟨hok, rfl, Nat.le_add_right _ _, fun h => ⟨rfl, h⟩, .inl ⟨rfl, hd, fun j => by rw [List.length_nil, if_neg (by omega)]; rfl⟩⟩
  | cons p r ih =>
    intro d at_ hok hd hw hn h64
    rw [List.length_cons] at hw hn
    obtain ⟨q1, q2, q3⟩ := write_cases hok hd (by omega) at_ (by omega) p (h64 p (by simp))
    rcases q3 with ⟨e1, e2, e3, e4, e5⟩ | ⟨e1, e2, e3, e4, tr, htr, e5⟩
    · rw [putW, if_pos e1]
      obtain ⟨r1, r2, r3, r4, r5⟩ := ih (d.write (at_ : Int) p).1 (at_ + 1) q1 e2 (by omega) (by omega) (fun x hx => h64 x (List.mem_cons_of_mem _ hx))
      refine ⟨r1, r2.trans q2, by rw [List.length_cons]; omega, fun h => r4 (e4 h), ?_⟩
      rcases r5 with ⟨s1, s2, s3⟩ | ⟨s1, s2, k, tr, s3, s4, s5⟩
      · left
        refine ⟨s1, s2, fun j => ?_⟩
        rw [s3, e5]
        by_cases hj : j = at_
        · subst hj
          rw [if_neg (by omega), if_pos rfl, if_pos (by rw [List.length_cons]; omega), Nat.sub_self]; rfl
        · by_cases hr : at_ + 1 ≤ j ∧ j < at_ + 1 + r.length
          · rw [if_pos hr, if_pos (by rw [List.length_cons]; omega), show j - at_ = (j - (at_ + 1)) + 1 by omega]
            simp [List.getD]
          · rw [if_neg hr, if_neg hj, if_neg (by rw [List.length_cons]; omega)]
      · right
        refine ⟨s1, s2, k + 1, tr, by rw [List.length_cons]; omega, s4, fun j => ?_⟩
        have hs5 := s5 j
        by_cases hj : j = at_
        · rw [if_neg (show ¬ (at_ + 1 ≤ j ∧ j < at_ + 1 + k) by omega), if_neg (show ¬ j = at_ + 1 + k by omega), e5, if_pos hj] at hs5
          rw [hs5, if_pos (show at_ ≤ j ∧ j < at_ + (k + 1) by omega), show j - at_ = 0 by omega]; rfl
        · by_cases hr : at_ + 1 ≤ j ∧ j < at_ + 1 + k
          · rw [if_pos hr] at hs5
            rw [hs5, if_pos (show at_ ≤ j ∧ j < at_ + (k + 1) by omega), show j - at_ = (j - (at_ + 1)) + 1 by omega]
            simp [List.getD]
          · rw [if_neg hr] at hs5
            rw [if_neg (show ¬ (at_ ≤ j ∧ j < at_ + (k + 1)) by omega)]
            by_cases hk : j = at_ + 1 + k
            · rw [if_pos hk, e5, if_neg (show ¬ at_ + 1 + k = at_ by omega)] at hs5
              rw [hs5, if_pos (show j = at_ + (k + 1) by omega), show at_ + 1 + k = at_ + (k + 1) by omega]
              simp [List.getD]
            · rw [if_neg hk, e5, if_neg hj] at hs5
              rw [hs5, if_neg (show ¬ j = at_ + (k + 1) by omega)]
    · have hne : ¬ (d.write (at_ : Int) p).2 = 0 := by rw [e1]; decide
      rw [putW, if_neg hne]
      refine ⟨q1, q2, by rw [List.length_cons]; omega, fun h => absurd h e4, .inr ⟨e1, e2, 0, tr, by simp, htr, fun j => ?_⟩⟩
      have h5 := e5 j
      rw [Nat.add_zero, if_neg (show ¬ (at_ ≤ j ∧ j < at_) by omega), h5]
      rfl
/-- the first bytes of a sector turned to 0 -/
def zp (s : Nat) (x : List UInt8) : List UInt8 := z64.take s ++ x.drop s
theorem zp_zero (x : List UInt8) : zp 0 x = x := by unfold zp; simp
theorem zp_get {s : Nat} {x : List UInt8} (hs : s ≤ 64) (i : Nat) (hi : i < 64) : (zp s x)[i]? = if i < s then some 0 else x[i]? := by
  unfold zp
  have hl : (z64.take s).length = s := by rw [List.length_take, z64_len]; omega
  by_cases h : i < s
  · rw [if_pos h, List.getElem?_append_left (by omega), List.getElem?_take, if_pos h]
    unfold z64
    rw [List.getElem?_replicate, if_pos hi]
  · rw [if_neg h, List.getElem?_append_right (by omega), hl, List.getElem?_drop]
    congr 1; omega
theorem zp_len {s : Nat} {x : List UInt8} (hs : s ≤ 64) (hx : x.length = 64) : (zp s x).length = 64 := by
  unfold zp
  rw [List.length_append, List.length_take, List.length_drop, z64_len, hx]; omega
theorem zp_zp {s t : Nat} {x : List UInt8} (hs : s ≤ 64) (ht : t ≤ 64) (hx : x.length = 64) : zp t (zp s x) = zp (max s t) x := by
  apply List.ext_getElem?
  intro i
  by_cases hi : i < 64
  · rw [zp_get ht i hi, zp_get hs i hi, zp_get (by omega) i hi]
    by_cases h1 : i < t
    · rw [if_pos h1, if_pos (by omega)]
    · by_cases h2 : i < s
      · rw [if_neg h1, if_pos h2, if_pos (by omega)]
      · rw [if_neg h1, if_neg h2, if_neg (by omega)]
  · rw [List.getElem?_eq_none (by rw [zp_len ht (zp_len hs hx)]; omega), List.getElem?_eq_none (by rw [zp_len (by omega) hx]; omega)]
theorem zp_z (s : Nat) (hs : s ≤ 64) : zp s z64 = z64 := by
  apply List.ext_getElem?
  intro i
  by_cases hi : i < 64
  · rw [zp_get hs i hi]
    split
    · unfold z64; rw [List.getElem?_replicate, if_pos hi]
    · rfl
  · rw [List.getElem?_eq_none (by rw [zp_len hs z64_len]; omega), List.getElem?_eq_none (by rw [z64_len]; omega)]
/-- a head whose first bytes were turned to 0 is no head, or as it was -/
theorem zp_first {s a b c : Nat} (hs : s ≤ 64) (h : beginB (zp s (firstL a b c)) = true) (ha : a < 256 ^ 8) (hb : b < 256 ^ 4) (hc : c < 256 ^ 4) : zp s (firstL a b c) = firstL a b c := by
  have hl := firstL_len a b c
  obtain ⟨_, h2⟩ := begin_is h
  by_cases h5 : 5 ≤ s
  · have h4 := first_4 (hdS (zp s (firstL a b c))) (hdL (zp s (firstL a b c))) (hdC (zp s (firstL a b c)))
    rw [← h2, zp_get hs 4 (by omega), if_pos (by omega)] at h4
    cases h4
  · have hd : ∀ k n, s ≤ k → k + n ≤ 64 → ((zp s (firstL a b c)).drop k).take n = ((firstL a b c).drop k).take n := by
      intro k n hk hn
      apply List.ext_getElem?
      intro i
      rw [List.getElem?_take, List.getElem?_take]
      split
      · rw [List.getElem?_drop, List.getElem?_drop, zp_get hs _ (by omega), if_neg (by omega)]
      · rfl
    obtain ⟨e1, e2, e3⟩ := hd_firstL ha hb hc
    unfold hdS hdL hdC at h2
    rw [hd 5 8 (by omega) (by omega), hd 13 4 (by omega) (by omega), hd 17 4 (by omega) (by omega)] at h2
    unfold hdS at e1
    unfold hdL at e2
    unfold hdC at e3
    rw [e1, e2, e3] at h2
    exact h2
end Go.Proofs.Ytmcjefdnkcpghaa
/- WHAT STANDS ON A DISK WHERE POWER WENT, AND STAYS THERE WHILE IT IS WIPED. -/
namespace Go.Proofs.Ytmcjefdnkcpghaa
/-- a wipe that power may cut off -/
theorem wipe_prog {d0 : Dv} (t : Nat) : ∀ (k i : Nat) (dk : Dv), d0.n - i = k → t ≤ i → i ≤ d0.n → dk.ok → dk.dead = false → dk.n = d0.n → dk.writes + (restL d0.L d0.n t i).length ≤ 1000000000 → (∀ j, page dk.L j = if t ≤ j ∧ j < i then z64 else page d0.L j) →
    (wipeW dk (restL d0.L d0.n t i)).1.ok ∧ (wipeW dk (restL d0.L d0.n t i)).1.n = d0.n ∧ (wipeW dk (restL d0.L d0.n t i)).1.writes ≤ dk.writes + (restL d0.L d0.n t i).length ∧
    (dk.fuse = none → (wipeW dk (restL d0.L d0.n t i)).2 = 0 ∧ (wipeW dk (restL d0.L d0.n t i)).1.fuse = none) ∧
    (((wipeW dk (restL d0.L d0.n t i)).2 = 0 ∧ (wipeW dk (restL d0.L d0.n t i)).1.dead = false ∧ ∀ j, page (wipeW dk (restL d0.L d0.n t i)).1.L j = if t ≤ j ∧ j < d0.n then z64 else page d0.L j) ∨
     ((wipeW dk (restL d0.L d0.n t i)).2 = 32 ∧ (wipeW dk (restL d0.L d0.n t i)).1.dead = true ∧ ∃ i' s, t ≤ i' ∧ i' < d0.n ∧ s ≤ 64 ∧ ∀ j, page (wipeW dk (restL d0.L d0.n t i)).1.L j = if t ≤ j ∧ j < i' then z64 else if j = i' then zp s (page d0.L i') else page d0.L j)) := by
  intro k
  induction k with
  | zero =>
    intro i dk hk hti hin hok hd hn hw hp
    obtain rfl : i = d0.n := by omega
    rw [restL_end]
    exact ⟨hok, hn, Nat.le_add_right _ _, fun h => ⟨rfl, h⟩, .inl ⟨rfl, hd, hp⟩⟩
  | succ k ih =>
    intro i dk hk hti hin hok hd hn hw hp
    have hlt : i < d0.n := by omega
    have hst := restL_step d0.L d0.n t i hlt hti
    have hpi : page dk.L i = page d0.L i := by rw [hp, if_neg (by omega)]
    cases hb : blankB (page d0.L i) with
    | true =>
      rw [hb, if_pos rfl, List.nil_append] at hst
      rw [hst] at hw ⊢
      refine ih (i + 1) dk (by omega) (by omega) (by omega) hok hd hn hw (fun j => ?_)
      rw [hp]
      by_cases hj : j = i
      · subst hj
        rw [if_neg (by omega), if_pos (by omega), (blank_iff _).1 hb]
      · by_cases h1 : t ≤ j ∧ j < i
        · rw [if_pos h1, if_pos (by omega)]
        · rw [if_neg h1, if_neg (by omega)]
    | false =>
      rw [hb, if_neg (by simp)] at hst
      rw [hst] at hw ⊢
      simp only [List.singleton_append] at hw ⊢
      rw [List.length_cons] at hw
      obtain ⟨q1, q2, q3⟩ := write_cases hok hd (by omega) i (by omega) z64 z64_len
      rcases q3 with ⟨e1, e2, e3, e4, e5⟩ | ⟨e1, e2, e3, e4, tr, htr, e5⟩
      · rw [wipeW, if_pos e1]
        obtain ⟨r1, r2, r3, r4, r5⟩ := ih (i + 1) (dk.write (i : Int) z64).1 (by omega) (by omega) (by omega) q1 e2 (q2.trans hn) (by omega) (fun j => by
          rw [e5]
          by_cases hj : j = i
          · rw [if_pos hj, if_pos (by omega)]
          · rw [if_neg hj, hp]
            by_cases h1 : t ≤ j ∧ j < i
            · rw [if_pos h1, if_pos (by omega)]
            · rw [if_neg h1, if_neg (by omega)])
        exact ⟨r1, r2, by rw [List.length_cons]; omega, fun h => r4 (e4 h), r5⟩
      · have hne : ¬ (dk.write (i : Int) z64).2 = 0 := by rw [e1]; decide
        rw [wipeW, if_neg hne]
        refine ⟨q1, q2.trans hn, by rw [List.length_cons]; omega, fun h => absurd h e4, .inr ⟨e1, e2, i, tr, hti, hlt, htr, fun j => ?_⟩⟩
        rw [e5]
        by_cases hj : j = i
        · subst hj
          rw [if_pos rfl, if_neg (by omega), if_pos rfl, hpi]; rfl
        · rw [if_neg hj, hp]
          by_cases h1 : t ≤ j ∧ j < i
          · rw [if_pos h1, if_pos h1]
          · rw [if_neg h1, if_neg h1, if_neg hj]
theorem wipeR_prog {d : Dv} (t : Nat) (ht : t ≤ d.n) (hok : d.ok) (hd : d.dead = false) (hw : d.writes + 5000 ≤ 1000000000) :
    (wipeR d (t : Int)).1.ok ∧ (wipeR d (t : Int)).1.n = d.n ∧ (wipeR d (t : Int)).1.writes ≤ d.writes + 4096 ∧
    (d.fuse = none → (wipeR d (t : Int)).2.2 = 0 ∧ (wipeR d (t : Int)).1.fuse = none) ∧
    (((wipeR d (t : Int)).2.2 = 0 ∧ (wipeR d (t : Int)).1.dead = false ∧ ∀ j, page (wipeR d (t : Int)).1.L j = if t ≤ j ∧ j < d.n then z64 else page d.L j) ∨
     ((wipeR d (t : Int)).2.2 = 32 ∧ (wipeR d (t : Int)).1.dead = true ∧ ∃ i' s, t ≤ i' ∧ i' < d.n ∧ s ≤ 64 ∧ ∀ j, page (wipeR d (t : Int)).1.L j = if t ≤ j ∧ j < i' then z64 else if j = i' then zp s (page d.L i') else page d.L j)) := by
  have hl := dirtyL_len d.L t d.n
  have hn2 := hok.n2
  have hr : rightE d (t : Int) = 0 := by unfold rightE; rw [if_neg (by omega), hd]; rfl
  have H := wipe_prog (d0 := d) t (d.n - t) t d rfl (Nat.le_refl _) ht hok hd rfl (by rw [restL_all _ _ _ ht]; omega) (fun j => by rw [if_neg (by omega)])
  rw [restL_all _ _ _ ht] at H
  obtain ⟨r1, r2, r3, r4, r5⟩ := H
  unfold wipeR
  rw [if_pos hr, Int.toNat_natCast]
  by_cases h0 : (wipeW d (dirtyL d.L d.n t)).2 = 0
  · rw [if_pos h0]
    rw [h0] at r5
    exact ⟨r1, r2, by simp only; omega, fun h => ⟨rfl, (r4 h).2⟩, r5⟩
  · rw [if_neg h0]
    refine ⟨r1, r2, by simp only; omega, fun h => ⟨(r4 h).1, (r4 h).2⟩, r5⟩
/-- a beginning of a batch b behind t, and then a wipe that was cut off, perhaps again and again -/
structure Torn0 (pg0 : Nat → List UInt8) (n : Nat) (A : List (List UInt8)) (t : Nat) (b : List UInt8) (k tr : Nat) : Prop where
  hr : rightB ((A.length + 1 : Nat) : Int) (b.length : Int) = true
  hm : (pagesL (A.length + 1) b).length ≤ n - t
  hk : k < (pagesL (A.length + 1) b).length
  htr : tr ≤ 64
  hp : ∀ j, j < k → pg0 (t + j) = (pagesL (A.length + 1) b).getD j []
  hat : pg0 (t + k) = ((pagesL (A.length + 1) b).getD k []).take tr ++ z64.drop tr
  hz : ∀ i, t + k < i → i < n → pg0 i = z64
  hf : findW pg0 n 0 [] = (A, t)
def Pend (pg : Nat → List UInt8) (n : Nat) (A : List (List UInt8)) (t : Nat) : Prop :=
  ∃ pg0 b k tr i s, Torn0 pg0 n A t b k tr ∧ t ≤ i ∧ s ≤ 64 ∧ (∀ j, t ≤ j → j < n → (pg0 j).length = 64) ∧ ∀ j, j < n → pg j = if t ≤ j ∧ j < i then z64 else if j = i then zp s (pg0 i) else pg0 j
theorem pend_find {pg : Nat → List UInt8} {n t : Nat} {A : List (List UInt8)} (htn : t ≤ n) (h : Pend pg n A t) : findW pg n 0 [] = (A, t) := by
  obtain ⟨pg0, b, k, tr, i, s, h0, hti, hs, hlen, hpg⟩ := h
  obtain ⟨q1, q2, q3, q4⟩ := rightB_yes h0.hr
  have hm3 : 3 ≤ (pagesL (A.length + 1) b).length := by
    have := needI_pages2 (seq := A.length + 1) h0.hr
    unfold needI at this
    rw [if_neg (by omega)] at this
    omega
  have htlt : t < n := by have := h0.hm; omega
  have hlow : ∀ j, j < t → pg j = pg0 j := fun j hj => by rw [hpg j (by omega), if_neg (by omega), if_neg (by omega)]
  have hstop : batchR pg n t (A.length + 1) = ([], 0) → findW pg n 0 [] = (A, t) := fun h => by
    rw [find_same (pg := pg0) n 0 [] (by omega) (fun i _ hi => hlow i (by rw [h0.hf] at hi; exact hi)), h0.hf]
    rw [findW_stop]
    simp only
    rw [h]; simp
  have hf0 : batchR pg0 n t (A.length + 1) = ([], 0) := by
    have hff := find_facts (pg := pg0) (n := n) n 0 [] (by omega) (by omega)
    rw [h0.hf] at hff
    obtain ⟨_, _, h3, _⟩ := hff
    simp only at h3
    have := @batchR_pos pg0 n t (A.length + 1)
    unfold batchR at h3 ⊢
    split
    · next h1 =>
      rw [if_pos h1] at h3
      split
      · next h2 =>
        rw [if_pos h2] at h3
        have := (begin_need h1.1).1
        simp only at h3
        omega
      · rfl
    · rfl
  apply hstop
  by_cases hit : i = t
  · subst hit
    have hpt : pg i = zp s (pg0 i) := by rw [hpg i htlt, if_neg (by omega), if_pos rfl]
    have hoth : ∀ j, i < j → j < n → pg j = pg0 j := fun j hj hjn => by rw [hpg j hjn, if_neg (by omega), if_neg (by omega)]
    cases hbb : beginB (pg i) with
    | false => exact batch_nobegin hbb
    | true =>
      obtain ⟨hn, _, _⟩ := begin_need hbb
      by_cases hfit : needN (hdL (pg i)) ≤ n - i
      · by_cases hk0 : k = 0
        · subst hk0
          refine batch_noend ?_
          rw [hoth _ (by omega) (by omega), h0.hz _ (by omega) (by omega)]
          exact end_z _ _
        · -- the head was whole
          have h1 := h0.hp 0 (by omega)
          rw [Nat.add_zero, show (pagesL (A.length + 1) b).getD 0 [] = firstL (A.length + 1) b.length (sumL b) from rfl] at h1
          have hs2 := sumL_lt b
          have hsame : pg i = pg0 i := by
            rw [hpt, h1] at hbb ⊢
            exact zp_first hs hbb (by omega) (by omega) (by omega)
          have hbc : batchR pg n i (A.length + 1) = batchR pg0 n i (A.length + 1) := by
            have he : ∀ j, i ≤ j → j < n → pg j = pg0 j := fun j hj hjn => by
              by_cases hji : j = i
              · subst hji; exact hsame
              · exact hoth j (by omega) hjn
            have em : midsR pg i (needN (hdL (pg0 i))) = midsR pg0 i (needN (hdL (pg0 i))) := by
              unfold midsR
              apply List.map_congr_left
              intro q hq
              have := List.mem_range.1 hq
              rw [hsame] at hfit
              exact he _ (by omega) (by omega)
            have ee : pg (i + needN (hdL (pg0 i)) - 1) = pg0 (i + needN (hdL (pg0 i)) - 1) := by
              rw [hsame] at hfit hn
              exact he _ (by omega) (by omega)
            unfold batchR
            rw [hsame, em, ee]
          rw [hbc]; exact hf0
      · unfold batchR
        rw [if_neg (fun e => hfit e.2.2)]
  · apply batch_nobegin
    rw [hpg t htlt, if_pos (by omega)]
    exact begin_z
/-- a further wipe that was cut off -/
theorem pend_wipe {pg pg' : Nat → List UInt8} {n t : Nat} {A : List (List UInt8)} (h : Pend pg n A t) {i' s' : Nat} (hi : t ≤ i') (hin : i' < n) (hs : s' ≤ 64) (hpg' : ∀ j, j < n → pg' j = if t ≤ j ∧ j < i' then z64 else if j = i' then zp s' (pg i') else pg j) : Pend pg' n A t := by
  obtain ⟨pg0, b, k, tr, i, s, h0, hti, hs0, hlen, hpg⟩ := h
  by_cases hlt : i' < i
  · refine ⟨pg0, b, k, tr, i, s, h0, hti, hs0, hlen, fun j hj => ?_⟩
    rw [hpg' j hj]
    by_cases h1 : t ≤ j ∧ j < i'
    · rw [if_pos h1, if_pos (by omega)]
    · rw [if_neg h1]
      by_cases h2 : j = i'
      · subst h2
        rw [if_pos rfl, hpg j hj, if_pos (by omega)]; exact zp_z _ hs
      · rw [if_neg h2, hpg j hj]
  · by_cases heq : i' = i
    · subst heq
      refine ⟨pg0, b, k, tr, i', max s s', h0, hti, by omega, hlen, fun j hj => ?_⟩
      rw [hpg' j hj]
      by_cases h1 : t ≤ j ∧ j < i'
      · rw [if_pos h1, if_pos h1]
      · rw [if_neg h1, if_neg h1]
        by_cases h2 : j = i'
        · subst h2
          rw [if_pos rfl, if_pos rfl, hpg j hj, if_neg (by omega), if_pos rfl, zp_zp hs0 hs (hlen j hi hj)]
        · rw [if_neg h2, if_neg h2, hpg j hj, if_neg h1, if_neg h2]
    · refine ⟨pg0, b, k, tr, i', s', h0, hi, hs, hlen, fun j hj => ?_⟩
      rw [hpg' j hj]
      by_cases h1 : t ≤ j ∧ j < i'
      · rw [if_pos h1, if_pos h1]
      · rw [if_neg h1, if_neg h1]
        by_cases h2 : j = i'
        · subst h2
          rw [if_pos rfl, if_pos rfl, hpg j hj, if_neg (by omega), if_neg (by omega)]
        · rw [if_neg h2, if_neg h2, hpg j hj]
          by_cases h3 : t ≤ j ∧ j < i
          · omega
          · rw [if_neg h3]
            by_cases h4 : j = i
            · omega
            · rw [if_neg h4]
/-- what stands on a disk, whatever wipes are cut off -/
structure Stands (d : Dv) (A : List (List UInt8)) (t : Nat) : Prop where
  ok : d.ok
  tail : t ≤ d.n
  find : findW (page d.L) d.n 0 [] = (A, t)
  rest : (∀ i, t ≤ i → i < d.n → page d.L i = z64) ∨ Pend (page d.L) d.n A t
/-- it stands behind a wipe; and without a fuse all is blank behind the tail -/
theorem Stands.wipe {d : Dv} {A : List (List UInt8)} {t : Nat} (h : Stands d A t) (hd : d.dead = false) (hw : d.writes + 5000 ≤ 1000000000) :
    Stands (wipeR d (t : Int)).1 A t ∧ (wipeR d (t : Int)).1.n = d.n ∧ (wipeR d (t : Int)).1.writes ≤ d.writes + 4096 ∧ ((wipeR d (t : Int)).2.2 = 0 ∨ (wipeR d (t : Int)).2.2 = 32) ∧
    (d.fuse = none → (wipeR d (t : Int)).2.2 = 0 ∧ On (wipeR d (t : Int)).1 ∧ ∀ i, t ≤ i → i < d.n → page (wipeR d (t : Int)).1.L i = z64) := by
  obtain ⟨r1, r2, r3, r4, r5⟩ := wipeR_prog t h.tail h.ok hd hw
  rcases r5 with ⟨s1, s2, s3⟩ | ⟨s1, s2, i', s, s3, s4, s5, s6⟩
  · have hz : ∀ i, t ≤ i → i < d.n → page (wipeR d (t : Int)).1.L i = z64 := fun i h1 h2 => by rw [s3, if_pos ⟨h1, h2⟩]
    refine ⟨⟨r1, by rw [r2]; exact h.tail, ?_, .inl (by rw [r2]; exact hz)⟩, r2, r3, .inl s1, fun hf => ⟨s1, ⟨r1, (r4 hf).2, s2⟩, hz⟩⟩
    rw [r2]
    exact find_blank h.find (fun i hi => by rw [s3, if_neg (by omega)]) hz
  · rcases h.rest with hb | hp
    · -- nothing was dirty: no wipe is cut off
      have hl := dirty_none d.L d.n t hb
      have := wipe_nothing (d := d) (t : Int) (by rw [Int.toNat_natCast]; exact hl)
      rw [this.2.2] at s1
      unfold rightE at s1
      have ht := h.tail
      rw [if_neg (by omega), hd] at s1
      exact absurd s1 (by decide)
    · have hp' : Pend (page (wipeR d (t : Int)).1.L) d.n A t := pend_wipe hp s3 s4 s5 (fun j _ => s6 j)
      refine ⟨⟨r1, by rw [r2]; exact h.tail, by rw [r2]; exact pend_find h.tail hp', .inr (by rw [r2]; exact hp')⟩, r2, r3, .inr s1, fun hf => ?_⟩
      have := (r4 hf).1
      rw [s1] at this
      exact absurd this (by decide)
/-- nothing is written where it was wiped -/
theorem Stands.blank {d : Dv} {A : List (List UInt8)} {t : Nat} (h : Stands d A t) (hd : d.dead = false) (hz : ∀ i, t ≤ i → i < d.n → page d.L i = z64) : wipeR d (t : Int) = (d, 0, 0) := by
  have hl := dirty_none d.L d.n t hz
  obtain ⟨e1, e2, e3⟩ := wipe_nothing (d := d) (t : Int) (by rw [Int.toNat_natCast]; exact hl)
  have hr : rightE d (t : Int) = 0 := by unfold rightE; have ht := h.tail; rw [if_neg (by omega), hd]; rfl
  rw [hr] at e3
  exact Prod.ext e1 (Prod.ext e2 e3)
end Go.Proofs.Ytmcjefdnkcpghaa
/- A JOURNAL, AND THE WALKS OF ITS SMALL METHODS. -/
namespace Go.Proofs.Ytmcjefdnkcpghaa
open Go.RowKit
/-- what a journal is: its disk, how many batches, the tail, whether it is dead -/
structure Jv where
  d : Dv
  many : Nat
  tail : Nat
  dead : Bool
structure Jv.ok (j : Jv) : Prop where
  tail : j.tail ≤ j.d.n
  many : j.many ≤ 4096
/-- the block b is a journal j on the disk g -/
structure Jn (w : World) (Z : Nat → Prop) (b g : Nat) (j : Jv) : Prop where
  hd : w.heap[b]? = some (.cells #[.pointer (some ⟨g, 0, none⟩), .int .i64 (j.many : Int), .int .i64 (j.tail : Int), .bool j.dead] 120 (0, 0))
  dk : Dk w Z g j.d
  nz : ¬ Z b
section
variable {w w' : World} {Z S : Nat → Prop} {b g : Nat} {j : Jv}
theorem Jn.below (h : Jn w Z b g j) (k : Below w.heap.size w w') : Jn w' Z b g j := ⟨(k.block b (lt_of_block h.hd)).trans h.hd, h.dk.below k, h.nz⟩
theorem Jn.lt (h : Jn w Z b g j) : b < w.heap.size := lt_of_block h.hd
end
set_option maxRecDepth 100000 in
theorem jnone_any {w : World} {Z : Nat → Prop} {b g : Nat} {j : Jv} (h : Jn w Z b g j) : Calls Try.prog 113 #[.pointer (some ⟨b, 0, none⟩)] w fun e w' => e = .returned (.bool false) ∧ w = w' := by
  have c0 := cells_of h.hd 0 (.pointer (some ⟨g, 0, none⟩)) rfl
  clear h
  go_enter Try.func113, Try.ntmps113
  go_wp2
  go_ret
  exact ⟨rfl, rfl⟩
set_option maxRecDepth 100000 in
theorem jlen_any {w : World} {Z : Nat → Prop} {b g : Nat} {j : Jv} (h : Jn w Z b g j) : Calls Try.prog 80 #[.pointer (some ⟨b, 0, none⟩)] w fun e w' => e = .returned (.int .i64 (j.many : Int)) ∧ w = w' := by
  have hn := jnone_any h
  have c1 := cells_of h.hd 1 (.int .i64 (j.many : Int)) rfl
  clear h
  go_enter Try.func80, Try.ntmps80
  go_wp2_with (go_at_call 113; refine hn.mono ?_; rintro e w' ⟨rfl, rfl⟩)
  go_ret
  exact ⟨rfl, rfl⟩
set_option maxRecDepth 100000 in
theorem jtail_any {w : World} {Z : Nat → Prop} {b g : Nat} {j : Jv} (h : Jn w Z b g j) : Calls Try.prog 79 #[.pointer (some ⟨b, 0, none⟩)] w fun e w' => e = .returned (.int .i64 (j.tail : Int)) ∧ w = w' := by
  have hn := jnone_any h
  have c2 := cells_of h.hd 2 (.int .i64 (j.tail : Int)) rfl
  clear h
  go_enter Try.func79, Try.ntmps79
  go_wp2_with (go_at_call 113; refine hn.mono ?_; rintro e w' ⟨rfl, rfl⟩)
  go_ret
  exact ⟨rfl, rfl⟩
set_option maxRecDepth 100000 in
theorem jdead_any {w : World} {Z : Nat → Prop} {b g : Nat} {j : Jv} (h : Jn w Z b g j) : Calls Try.prog 81 #[.pointer (some ⟨b, 0, none⟩)] w fun e w' => e = .returned (.bool j.dead) ∧ w = w' := by
  have hn := jnone_any h
  have c3 := cells_of h.hd 3 (.bool j.dead) rfl
  generalize j.dead = x at *
  clear h
  go_enter Try.func81, Try.ntmps81
  go_wp2_with (go_at_call 113; refine hn.mono ?_; rintro e w' ⟨rfl, rfl⟩)
  go_ret
  exact ⟨rfl, rfl⟩
set_option maxRecDepth 100000 in
theorem jroom_any {w : World} {Z : Nat → Prop} {b g : Nat} {j : Jv} (h : Jn w Z b g j) (hok : j.ok) : Calls Try.prog 77 #[.pointer (some ⟨b, 0, none⟩)] w fun e w' => e = .returned (.int .i64 ((j.d.n : Int) - (j.tail : Int))) ∧ ∃ m, w' = w.drewN m := by
  have hn := jnone_any h
  have hl := fun q => (slen_any (h.dk.below (drewN_below w q))).mono (fun e w' h => (show e = .returned (.int .i64 (j.d.n : Int)) ∧ w' = w.drewN q from ⟨h.1, h.2.symm⟩))
  have c0 := cells_of h.hd 0 (.pointer (some ⟨g, 0, none⟩)) rfl
  have c2 := cells_of h.hd 2 (.int .i64 (j.tail : Int)) rfl
  have h2 := h.dk.ok.n2
  have h3 := hok.tail
  generalize j.d.n = n at *
  generalize j.tail = t at *
  have i1 : IntKind.i64.wrap ((n : Int) - (t : Int)) = (n : Int) - (t : Int) := by rw [IntKind.wrap_i64]; omega
  clear h hok
  go_enter Try.func77, Try.ntmps77
  go_wp2_with (go_at_call 113; refine hn.mono ?_; rintro e w' ⟨rfl, rfl⟩)
  go_quiet ((go_at_call 94; refine Calls.quiet_of_same (hl _)))
  go_wp2
  go_ret
  exact ⟨rfl, nq, rfl⟩
end Go.Proofs.Ytmcjefdnkcpghaa
/- THE WALKS OF journal's put AND Append. -/
namespace Go.Proofs.Ytmcjefdnkcpghaa
open Go.RowKit
theorem put_writes : ∀ (P : List (List UInt8)) (d : Dv) (at_ : Nat), (putW d at_ P).1.writes ≤ d.writes + P.length := by
  intro P
  induction P with
  | nil => intro d at_; exact Nat.le_add_right _ _
  | cons p r ih =>
    intro d at_
    have hw := write_writes d (at_ : Int) p
    rw [putW]
    split
    · have := ih (d.write (at_ : Int) p).1 (at_ + 1); rw [List.length_cons]; omega
    · rw [List.length_cons]; omega
set_option maxRecDepth 100000 in
set_option maxHeartbeats 4000000 in
theorem put12_any {w : World} {Z : Nat → Prop} {g : Nat} {d : Dv} (h : Dk w Z g d) (hhi : ∀ b, Z b → b < w.heap.size) {base : Nat} {v : Value} {P : List (List UInt8)} (hs : OwB (fun b => ¬ Z b) w base v P) (at_ : Nat) (hat : at_ + P.length ≤ 100000) (hw : d.writes + P.length ≤ 1000000000) :
    Calls Try.prog 114 #[.agg #[.pointer (some ⟨g, 0, none⟩)], .int .i64 (at_ : Int), v] w (DkPost w Z g (putW d at_ P).1 (putW d at_ P).2) := by
  have hal := (Below.refl w.heap.size w).alloc (Nat.le_refl _) (.cells #[.pointer (some ⟨g, 0, none⟩)] 118)
  have hbx := heap_alloc_new w (.cells #[.pointer (some ⟨g, 0, none⟩)] 118 (0, 0))
  obtain ⟨A, n, c, rfl, hn⟩ := hs.form
  subst hn
  have hfo := hs.rowV.form
  obtain ⟨A', c', hv', hc, hm, hA⟩ := hfo
  cases hv'
  have HS := Lib.hid (hs.below hal)
  have HD := Lib.hid (h.below hal)
  have HBX := Lib.hid hbx
  have HAL := Lib.hid hal
  have HHI := Lib.hid hhi
  generalize hR : putW d at_ P = R
  have HR := Lib.hid hR
  clear hs h hal hbx hhi hR
  go_enter Try.func114, Try.ntmps114
  go_wp2
  go_loopg [7, 8, 9, 12] P.length (fun gk x7 x8 x9 x12 wr => ∃ (i : Nat) (dk : Dv), gk = P.length - i ∧ i ≤ P.length ∧ x12 = .int .i64 (i : Int) ∧ putW dk (at_ + i) (P.drop i) = R ∧ dk.writes ≤ d.writes + i ∧ Dk wr Z g dk ∧ Kept (fun b => ¬ Z b) (w.alloc (.cells #[.pointer (some ⟨g, 0, none⟩)] 118)) wr)
  case atStart => exact ⟨0, d, rfl, Nat.zero_le _, rfl, HR.out, Nat.le_refl _, HD.out, Kept.refl _ _⟩
  case round =>
    obtain ⟨i, dk, hgk, hi, rfl, hpw, hdw, hdk, hkp⟩ := hrel
    have HG := Lib.hid hgk
    have HPW := Lib.hid hpw
    have HDK := Lib.hid hdk
    have HKP := Lib.hid hkp
    have hbx := hkp.heap HBX.out (fun hz => by have := HHI.out _ hz; omega)
    have c0 := cells_of hbx 0 (.pointer (some ⟨g, 0, none⟩)) rfl
    have hO := HS.out.kept hkp (fun _ h => h)
    clear hgk hpw hdk hkp hbx HR
    by_cases h : i < P.length
    · obtain ⟨ad, u, rfl, hadB, hcell, hbu⟩ := (show Byts wr wr.heap.size (.slice A P.length c) P from hO.byts).atv i h
      have hws := write_any HDK.out ((at_ + i : Nat) : Int) hbu (by omega)
      have hww := write_writes dk ((at_ + i : Nat) : Int) P[i]
      have hpw := HPW.out
      rw [List.drop_eq_getElem_cons h, putW] at hpw
      rw [Int.natCast_add] at hws hpw hww
      generalize dk.write ((at_ : Int) + (i : Int)) P[i] = Q at *
      obtain ⟨d1, r1⟩ := Q
      simp only at hws hpw hww
      unfold DkPost at hws
      have HPW1 := Lib.hid hpw
      have i5 : IntKind.i64.wrap ((at_ : Int) + (i : Int)) = (at_ : Int) + (i : Int) := by rw [IntKind.wrap_i64]; omega
      have i6 : IntKind.i64.wrap ((i : Int) + 1) = (i : Int) + 1 := by rw [IntKind.wrap_i64]; omega
      have i7 : (0 : Int) ≤ (i : Int) := by omega
      have i8 : (i : Int) < (P.length : Int) := by omega
      clear hO hbu hpw
      by_cases hr1 : r1 = 0
      · subst hr1
        have hpw := HPW1.out
        rw [if_pos rfl] at hpw
        have HPW2 := Lib.hid hpw
        clear hpw
        go_wp2_with (go_at_call 35; (with_reducible refine hws.mono ?_); rintro e w7 ⟨rfl, hd7, hk7⟩)
        go_roundg (P.length - (i + 1))
        case measure => have := HG.out; omega
        case rel => exact ⟨i + 1, d1, rfl, by omega, by simp, HPW2.out, by omega, hd7, HKP.out.trans hk7 (fun _ _ h => h)⟩
      · have hpw := HPW1.out
        rw [if_neg hr1] at hpw
        subst hpw
        have e1 : (r1 == 0) = false := by rw [beq_eq_false_iff_ne]; exact hr1
        have e2 : (r1 != 0) = true := by simp [e1, bne]
        clear hr1
        go_wp2_with (go_at_call 35; (with_reducible refine hws.mono ?_); rintro e w7 ⟨rfl, hd7, hk7⟩)
        go_ret
        exact ⟨rfl, hd7, (Kept.ofBelow HAL.out).trans (HKP.out.trans hk7 (fun _ _ h => h)) (fun _ _ h => h)⟩
    · obtain rfl : i = P.length := by omega
      have hpw := HPW.out
      rw [List.drop_length, putW] at hpw
      subst hpw
      clear hO
      go_wp2
      go_ret
      exact ⟨rfl, HDK.out, (Kept.ofBelow HAL.out).trans HKP.out (fun _ _ h => h)⟩
def appendW (j : Jv) (b : List UInt8) : Jv × Int × Int :=
  if j.dead then (j, 0, 32)
  else if (pagesR ((j.many : Int) + 1) b).2 ≠ 0 then (j, 0, (pagesR ((j.many : Int) + 1) b).2)
  else if (j.d.n : Int) - (j.tail : Int) < ((pagesR ((j.many : Int) + 1) b).1.length : Int) then (j, 0, 31)
  else if (putW j.d j.tail (pagesR ((j.many : Int) + 1) b).1).2 = 0 then
    (⟨(putW j.d j.tail (pagesR ((j.many : Int) + 1) b).1).1, j.many + 1, j.tail + (pagesR ((j.many : Int) + 1) b).1.length, false⟩, (j.many : Int) + 1, 0)
  else (⟨(putW j.d j.tail (pagesR ((j.many : Int) + 1) b).1).1, j.many, j.tail, true⟩, 0, (putW j.d j.tail (pagesR ((j.many : Int) + 1) b).1).2)
def AppendPost (w : World) (Z : Nat → Prop) (b g : Nat) (R : Jv × Int × Int) (e : Ending) (w' : World) : Prop := e = .returned (.tuple #[.int .i64 R.2.1, .int .i64 R.2.2]) ∧ Jn w' Z b g R.1 ∧ Kept (fun x => ¬ Z x ∧ x ≠ b) w w'
set_option maxRecDepth 100000 in
set_option maxHeartbeats 4000000 in
theorem append_any {w : World} {Z : Nat → Prop} {bj g : Nat} {j : Jv} (h : Jn w Z bj g j) (hok : j.ok) (hhi : ∀ b, Z b → b < w.heap.size) {B : Nat} {v : Value} {b : List UInt8} (hb : Byt w B v b) (hbl : b.length ≤ 5000) (hw : j.d.writes + 5000 ≤ 1000000000) :
    Calls Try.prog 78 #[.pointer (some ⟨bj, 0, none⟩), v] w (AppendPost w Z bj g (appendW j b)) := by
  have hn := jnone_any h
  have hpg := pages_any ((j.many : Int) + 1) v b B hb (by omega)
  have hrm := fun (W : World) (hW : Below w.heap.size w W) => jroom_any (h.below hW) hok
  obtain ⟨A, c, rfl, hcb, hmb, _⟩ := id hb
  unfold maxLen at hmb
  have hht := hok.tail
  have hhm := hok.many
  have hn2 := h.dk.ok.n2
  obtain ⟨P, E, hPE, hPl, _⟩ := pages_cases2 ((j.many : Int) + 1) b hbl
  have c1 := cells_of h.hd 1 (.int .i64 (j.many : Int)) rfl
  have c3 := cells_of h.hd 3 (.bool j.dead) rfl
  have i1 : IntKind.i64.wrap ((j.many : Int) + 1) = (j.many : Int) + 1 := by rw [IntKind.wrap_i64]; omega
  unfold PagesPost at hpg
  rw [hPE] at hpg
  unfold appendW
  rw [hPE]
  obtain ⟨d, many, tail, dead⟩ := j
  simp only at *
  have H := Lib.hid h
  have HRM := Lib.hid hrm
  have HHI := Lib.hid hhi
  have HHT := Lib.hid hht
  clear h hok hb hrm hhi hPE hht
  cases dead with
  | true =>
    go_enter Try.func78, Try.ntmps78
    go_wp2_with (go_at_call 113; (with_reducible refine hn.mono ?_); rintro e w' ⟨rfl, rfl⟩)
    go_ret2
    exact ⟨rfl, H.out, Kept.refl _ _⟩
  | false =>
    rw [if_neg (by simp)]
    by_cases hE : E = 0
    · subst hE
      rw [if_neg (by simp)]
      by_cases hlt : (d.n : Int) - (tail : Int) < (P.length : Int)
      · rw [if_pos hlt]
        have e1 : decide ((d.n : Int) - (tail : Int) < (P.length : Int)) = true := decide_eq_true hlt
        go_enter Try.func78, Try.ntmps78
        go_wp2_with (first
          | (go_at_call 113; (with_reducible refine hn.mono ?_); rintro e w' ⟨rfl, rfl⟩)
          | (go_at_call 50; (with_reducible refine hpg.mono ?_); rintro e w1 ⟨v1, rfl, ho1, hb1⟩
             obtain ⟨A1, n1, c1', hv1, hn1⟩ := ho1.form
             subst hv1 hn1
             have hrm := HRM.out _ hb1
             have H1 := Lib.hid (H.out.below hb1)
             have HB1 := Lib.hid hb1
             clear hpg ho1 hb1)
          | (go_at_call 77; (with_reducible refine hrm.mono ?_); rintro e w2 ⟨rfl, q, rfl⟩))
        go_ret2
        exact ⟨rfl, H1.out.below (drewN_below w1 q), Kept.ofBelow (HB1.out.trans ((drewN_below w1 q).mono HB1.out.size))⟩
      · rw [if_neg hlt]
        have e1 : decide ((d.n : Int) - (tail : Int) < (P.length : Int)) = false := decide_eq_false hlt
        have hpw := put_writes P d tail
        have htp : tail + P.length ≤ 100000 := by omega
        have htp2 : tail + P.length ≤ d.n := by omega
        generalize hR : (if (putW d tail P).2 = 0 then ((⟨(putW d tail P).1, many + 1, tail + P.length, false⟩ : Jv), (many : Int) + 1, (0 : Int)) else (⟨(putW d tail P).1, many, tail, true⟩, 0, (putW d tail P).2)) = R
        have HR := Lib.hid hR
        have HPW := Lib.hid hpw
        clear hR hpw
        go_enter Try.func78, Try.ntmps78
        go_wp2_with (first
          | (go_at_call 113; (with_reducible refine hn.mono ?_); rintro e w' ⟨rfl, rfl⟩)
          | (go_at_call 50; (with_reducible refine hpg.mono ?_); rintro e w1 ⟨v1, rfl, ho1, hb1⟩
             obtain ⟨A1, n1, c1', hv1, hn1⟩ := ho1.form
             subst hv1 hn1
             have hrm := HRM.out _ hb1
             have H1 := Lib.hid (H.out.below hb1)
             have HO1 := Lib.hid (ho1.lt.mono (D' := fun b => ¬ Z b) (fun b hb hz => by have := HHI.out b hz; have := hb.1; omega))
             have HB1 := Lib.hid hb1
             clear hpg ho1 hb1)
          | (go_at_call 77; (with_reducible refine hrm.mono ?_); rintro e w2 ⟨rfl, q, rfl⟩))
        have hwq := drewN_below w1 q
        have H2 := Lib.hid (H1.out.below hwq)
        have HO2 := Lib.hid (HO1.out.below hwq)
        have HB2 := Lib.hid (HB1.out.trans (hwq.mono HB1.out.size))
        have x0 := cells_of H2.out.hd 0 (.pointer (some ⟨g, 0, none⟩)) rfl
        have x2 := cells_of H2.out.hd 2 (.int .i64 (tail : Int)) rfl
        clear hn hwq hrm
        generalize w1.drewN q = w2 at *
        go_still_tail 9, (by kernel_rfl)
        have hbd : Below w2.heap.size w2 w2.drew := (Below.refl _ _).drew
        have H3 := Lib.hid (H2.out.below hbd)
        have HB3 := Lib.hid (HB2.out.trans (hbd.mono HB2.out.size))
        have hput := put12_any H3.out.dk (fun b hb => Nat.lt_of_lt_of_le (HHI.out b hb) HB3.out.size) (HO2.out.below hbd) tail htp (by simp only; omega)
        generalize putW d tail P = Q at *
        obtain ⟨d1, r1⟩ := Q
        unfold DkPost at hput
        simp only at hput
        have HPUT := Lib.hid hput
        clear hbd hput
        go_wp2_with fail
        refine HPUT.out.mono ?_
        rintro e w3 ⟨rfl, hd3, hk3⟩
        have hj3 := hk3.heap H3.out.hd H3.out.nz
        have y1 := cells_of hj3 1 (.int .i64 (many : Int)) rfl
        have y2 := cells_of hj3 2 (.int .i64 (tail : Int)) rfl
        have y3 := cells_of hj3 3 (.bool false) rfl
        have f1 := free_of hj3 1
        have f2 := free_of hj3 2
        have f3 := free_of hj3 3
        have hlt3 := lt_of_block hj3
        have hk03 : Kept (fun x => ¬ Z x ∧ x ≠ bj) w w3 := (Kept.ofBelow HB3.out).trans hk3 (fun _ _ h => h.1)
        have hkset : ∀ (p : Addr) (u : Value) (W : World), p.block = bj → Kept (fun x => ¬ Z x ∧ x ≠ bj) w W → Kept (fun x => ¬ Z x ∧ x ≠ bj) w (W.setCell p u) := fun p u W hp hk => hk.setCell p u (fun _ h => h.2 hp)
        have hdset : ∀ (p : Addr) (u : Value) (W : World), p.block = bj → Dk W Z g d1 → Dk (W.setCell p u) Z g d1 := fun p u W hp hd => hd.kept ((Kept.refl (fun x => x ≠ bj) W).setCell p u (fun _ h => h hp)) (fun b hb e => H3.out.nz (e ▸ hb))
        have HJ3 := Lib.hid hj3
        have HD3 := Lib.hid hd3
        have HK3 := Lib.hid hk03
        clear hj3 hd3 hk3 hk03 HPUT
        by_cases hr1 : r1 = 0
        · subst hr1
          have hR := HR.out
          simp only [if_true] at hR
          subst hR
          have i2 : IntKind.i64.wrap ((tail : Int) + (P.length : Int)) = (tail : Int) + (P.length : Int) := by rw [IntKind.wrap_i64]; omega
          go_wp2
          go_ret2
          refine ⟨rfl, ⟨?_, hdset _ _ _ rfl (hdset _ _ _ rfl HD3.out), H3.out.nz⟩, hkset _ _ _ rfl (hkset _ _ _ rfl HK3.out)⟩
          have s1 := Lib.heap_setCell_same (i := 2) HJ3.out (.int .i64 ((tail : Int) + (P.length : Int)))
          have s2 := Lib.heap_setCell_same (i := 1) s1 (.int .i64 ((many : Int) + 1))
          simpa using s2
        · have hR := HR.out
          rw [if_neg hr1] at hR
          subst hR
          have e2 : (r1 == 0) = false := by rw [beq_eq_false_iff_ne]; exact hr1
          have e3 : (r1 != 0) = true := by simp [e2, bne]
          go_wp2
          go_ret2
          refine ⟨rfl, ⟨?_, hdset _ _ _ rfl HD3.out, H3.out.nz⟩, hkset _ _ _ rfl HK3.out⟩
          have := Lib.heap_setCell_same (i := 3) HJ3.out (.bool true)
          simpa using this
    · rw [if_pos hE]
      have e1 : (E == 0) = false := by rw [beq_eq_false_iff_ne]; exact hE
      have e2 : (E != 0) = true := by simp [e1, bne]
      go_enter Try.func78, Try.ntmps78
      go_wp2_with (first
        | (go_at_call 113; (with_reducible refine hn.mono ?_); rintro e w' ⟨rfl, rfl⟩)
        | (go_at_call 50; (with_reducible refine hpg.mono ?_); rintro e w1 ⟨v1, rfl, ho1, hb1⟩))
      go_ret2
      exact ⟨rfl, H.out.below hb1, Kept.ofBelow hb1⟩
end Go.Proofs.Ytmcjefdnkcpghaa
/- THE WALK OF journal.Open. -/
namespace Go.Proofs.Ytmcjefdnkcpghaa
open Go.RowKit
def JOpenPost (w : World) (Z : Nat → Prop) (g : Nat) (F : List (List UInt8) × Nat) (R : Dv × Int × Int) (e : Ending) (w' : World) : Prop :=
  (R.2.2 = 0 ∧ ∃ bj v, e = .returned (.tuple #[.pointer (some ⟨bj, 0, none⟩), v, .int .i64 0]) ∧ Jn w' Z bj g ⟨R.1, F.1.length, F.2, false⟩ ∧ w.heap.size ≤ bj ∧ OwB (fun b => w.heap.size ≤ b) w' w.heap.size v F.1 ∧ Kept (fun b => ¬ Z b) w w') ∨
  (R.2.2 ≠ 0 ∧ e = .returned (.tuple #[.pointer none, .slice none 0 0, .int .i64 R.2.2]) ∧ Dk w' Z g R.1 ∧ Kept (fun b => ¬ Z b) w w')
set_option maxRecDepth 100000 in
set_option maxHeartbeats 4000000 in
theorem jopen_any {w : World} {Z : Nat → Prop} {g : Nat} {d : Dv} (h : Dk w Z g d) (hhi : ∀ b, Z b → b < w.heap.size) (hd : d.dead = false) (hw : d.writes + 5000 ≤ 1000000000) :
    Calls Try.prog 76 #[.pointer (some ⟨g, 0, none⟩)] w (JOpenPost w Z g (findW (page d.L) d.n 0 []) (wipeR d ((findW (page d.L) d.n 0 []).2 : Int))) := by
  have hfi := sfind_any h hd
  have hwi := fun (W : World) (hW : Below w.heap.size w W) (t : Int) => swipe_any (h.below hW) (fun b hb => Nat.lt_of_lt_of_le (hhi b hb) hW.size) t hw
  generalize findW (page d.L) d.n 0 [] = F at *
  obtain ⟨A, t⟩ := F
  simp only at *
  have HWI := Lib.hid (fun W hW => hwi W hW (t : Int))
  generalize wipeR d (t : Int) = R at *
  obtain ⟨d1, n1, e1⟩ := R
  have HHI := Lib.hid hhi
  unfold SFindPost at hfi
  simp only at hfi
  clear hwi h hhi
  go_enter Try.func76, Try.ntmps76
  go_wp2_with fail
  refine hfi.mono ?_
  rintro e w1 ⟨v1, rfl, ho1, hb1⟩
  obtain ⟨A1, k1, c1, hv1, hk1⟩ := ho1.form
  subst hv1 hk1
  have hwi := HWI.out w1 hb1
  unfold WipePost at hwi
  simp only at hwi
  have HO1 := Lib.hid ho1.lt
  have HB1 := Lib.hid hb1
  clear hfi ho1 hb1
  go_wp2_with fail
  refine hwi.mono ?_
  rintro e w2 ⟨rfl, hd2, hk2⟩
  have hO2 := (HO1.out.kept hk2 (S := fun b => ¬ Z b) (fun b hb hz => by have := HHI.out b hz; have := hb.1; omega)).mono (D' := fun b => w.heap.size ≤ b) (fun b hb => hb.1)
  have hk02 : Kept (fun b => ¬ Z b) w w2 := (Kept.ofBelow HB1.out).trans hk2 (fun _ _ h => h)
  have HO2 := Lib.hid hO2
  have HK2 := Lib.hid hk02
  have HD2 := Lib.hid hd2
  have hs2 := hk02.size
  clear hwi hk2 hO2 hk02 hd2
  by_cases h0 : e1 = 0
  · subst h0
    go_wp2
    have hbx := heap_alloc_new w2 (.cells #[.pointer (some ⟨g, 0, none⟩), .int .i64 (A.length : Int), .int .i64 (t : Int), .bool false] 120 (0, 0))
    have hal : Below w2.heap.size w2 (w2.alloc (.cells #[.pointer (some ⟨g, 0, none⟩), .int .i64 (A.length : Int), .int .i64 (t : Int), .bool false] 120)) := (Below.refl _ _).alloc (Nat.le_refl _) _
    exact bodyPost_ret (v := .tuple #[.pointer (some ⟨w2.heap.size, 0, none⟩), .slice A1 A.length c1, .int .i64 0]) (by simp [results, Try.results76, go_sem]) rfl
      (.inl ⟨rfl, _, _, rfl, ⟨hbx, HD2.out.below hal, fun hz => by have := HHI.out _ hz; omega⟩, hs2, HO2.out.below hal, HK2.out.trans (Kept.ofBelow hal) (fun _ _ h => h)⟩)
  · have e2 : (e1 == 0) = false := by rw [beq_eq_false_iff_ne]; exact h0
    have e3 : (e1 != 0) = true := by simp [e2, bne]
    go_wp2
    exact bodyPost_ret (v := .tuple #[.pointer none, .slice none 0 0, .int .i64 e1]) (by simp [results, Try.results76, go_sem]) rfl (.inr ⟨h0, rfl, HD2.out, HK2.out⟩)
set_option maxRecDepth 100000 in
theorem jopen_dead {w : World} {Z : Nat → Prop} {g : Nat} {d : Dv} (h : Dk w Z g d) (hd : d.dead = true) :
    Calls Try.prog 76 #[.pointer (some ⟨g, 0, none⟩)] w fun e w' => e = .returned (.tuple #[.pointer none, .slice none 0 0, .int .i64 32]) ∧ Below w.heap.size w w' := by
  have hfi := sfind_dead h hd
  clear h
  go_enter Try.func76, Try.ntmps76
  go_wp2_with (go_at_call 67; (with_reducible refine hfi.mono ?_); rintro e w1 ⟨rfl, hb1⟩)
  exact bodyPost_ret (v := .tuple #[.pointer none, .slice none 0 0, .int .i64 32]) (by simp [results, Try.results76, go_sem]) rfl ⟨rfl, hb1⟩
set_option maxRecDepth 100000 in
theorem jopen_nil (w : World) :
    Calls Try.prog 76 #[.pointer none] w fun e w' => e = .returned (.tuple #[.pointer none, .slice none 0 0, .int .i64 1]) ∧ Below w.heap.size w w' := by
  have hfi := sfind_nil w
  go_enter Try.func76, Try.ntmps76
  go_wp2_with (go_at_call 67; (with_reducible refine hfi.mono ?_); rintro e w1 ⟨rfl, hb1⟩)
  exact bodyPost_ret (v := .tuple #[.pointer none, .slice none 0 0, .int .i64 1]) (by simp [results, Try.results76, go_sem]) rfl ⟨rfl, hb1⟩
end Go.Proofs.Ytmcjefdnkcpghaa
/- WHAT AN APPEND DOES, PLAINLY; A JOURNAL IN A LAW; JOURNALS THAT NO CALL MADE; octroilaw12's light AND lives. -/
namespace Go.Proofs.Ytmcjefdnkcpghaa
open Go.RowKit
theorem right_len {many : Nat} {b : List UInt8} (hm : many ≤ 4096) (hb : b.length ≤ 5000) : rightB ((many : Int) + 1) (b.length : Int) = decide (1 ≤ b.length) := by
  unfold rightB
  rw [Bool.eq_iff_iff, decide_eq_true_eq, decide_eq_true_eq]
  omega
theorem pagesR_yes {many : Nat} {b : List UInt8} (hm : many ≤ 4096) (hb : b.length ≤ 5000) (h1 : 1 ≤ b.length) : pagesR ((many : Int) + 1) b = (pagesL (many + 1) b, 0) ∧ ((pagesL (many + 1) b).length : Int) = needI b.length := by
  have hr := right_len hm hb
  rw [decide_eq_true h1] at hr
  refine ⟨?_, needI_pages2 hr⟩
  unfold pagesR
  rw [if_pos hr, show ((many : Int) + 1).toNat = many + 1 by omega]
theorem pagesR_no {many : Nat} {b : List UInt8} (hm : many ≤ 4096) (hb : b.length ≤ 5000) (h1 : ¬ 1 ≤ b.length) : pagesR ((many : Int) + 1) b = ([], 2) := by
  have hr := right_len hm hb
  rw [decide_eq_false h1] at hr
  unfold pagesR
  rw [hr]; simp
/-- an append, by cases -/
theorem append_cases {j : Jv} {b : List UInt8} (hok : j.ok) (hd : j.d.ok) (hdd : j.d.dead = false) (hj : j.dead = false) (hb : b.length ≤ 5000) (hw : j.d.writes + 5000 ≤ 1000000000) :
    (b.length = 0 ∧ appendW j b = (j, 0, 2)) ∨
    (1 ≤ b.length ∧ (j.d.n : Int) - (j.tail : Int) < needI b.length ∧ appendW j b = (j, 0, 31)) ∨
    (1 ≤ b.length ∧ needI b.length ≤ (j.d.n : Int) - (j.tail : Int) ∧ (putW j.d j.tail (pagesL (j.many + 1) b)).2 = 0 ∧ appendW j b = (⟨(putW j.d j.tail (pagesL (j.many + 1) b)).1, j.many + 1, j.tail + (pagesL (j.many + 1) b).length, false⟩, (j.many : Int) + 1, 0)) ∨
    (1 ≤ b.length ∧ needI b.length ≤ (j.d.n : Int) - (j.tail : Int) ∧ (putW j.d j.tail (pagesL (j.many + 1) b)).2 = 32 ∧ j.d.fuse ≠ none ∧ appendW j b = (⟨(putW j.d j.tail (pagesL (j.many + 1) b)).1, j.many, j.tail, true⟩, 0, 32)) := by
  by_cases h1 : 1 ≤ b.length
  · obtain ⟨hp, hn⟩ := pagesR_yes hok.many hb h1
    have hl := pages_cases2 ((j.many : Int) + 1) b hb
    rw [hp] at hl
    obtain ⟨P, E, e, hl, _⟩ := hl
    cases e
    have ht := hok.tail
    by_cases hroom : (j.d.n : Int) - (j.tail : Int) < needI b.length
    · refine .inr (.inl ⟨h1, hroom, ?_⟩)
      unfold appendW
      rw [hp, hj, if_neg (by simp), if_neg (by simp), if_pos (by rw [hn]; exact hroom)]
    · have hpc := put_cases (pagesL (j.many + 1) b) j.d j.tail hd hdd (by omega) (by omega) (pagesL_all _ _)
      obtain ⟨_, _, _, hf, hc⟩ := hpc
      rcases hc with ⟨e0, _⟩ | ⟨e32, _⟩
      · refine .inr (.inr (.inl ⟨h1, by omega, e0, ?_⟩))
        unfold appendW
        rw [hp, hj, if_neg (by simp), if_neg (by simp), if_neg (by rw [hn]; exact hroom), if_pos e0]
      · refine .inr (.inr (.inr ⟨h1, by omega, e32, fun h => (by rw [(hf h).1] at e32; cases e32), ?_⟩))
        unfold appendW
        rw [hp, hj, if_neg (by simp), if_neg (by simp), if_neg (by rw [hn]; exact hroom), if_neg (by rw [e32]; decide), e32]
  · refine .inl ⟨by omega, ?_⟩
    unfold appendW
    rw [pagesR_no hok.many hb h1, hj, if_neg (by simp), if_pos (by simp)]
theorem append_on {j : Jv} {b : List UInt8} (hok : j.ok) (hon : On j.d) (hj : j.dead = false) (hb : b.length ≤ 5000) (hw : j.d.writes + 5000 ≤ 1000000000) (h1 : 1 ≤ b.length) (hroom : needI b.length ≤ (j.d.n : Int) - (j.tail : Int)) :
    ∃ d', appendW j b = (⟨d', j.many + 1, j.tail + (needI b.length).toNat, false⟩, (j.many : Int) + 1, 0) ∧ On d' ∧ d'.n = j.d.n ∧ d'.writes ≤ j.d.writes + 1000 := by
  obtain ⟨hp, hn⟩ := pagesR_yes hok.many hb h1
  have hl := pages_cases2 ((j.many : Int) + 1) b hb
  rw [hp] at hl
  obtain ⟨P, E, e, hl, _⟩ := hl
  cases e
  have ht := hok.tail
  have hpc := put_cases (pagesL (j.many + 1) b) j.d j.tail hon.ok hon.dead (by omega) (by omega) (pagesL_all _ _)
  obtain ⟨q1, q2, q3, hf, hc⟩ := hpc
  obtain ⟨e0, hf'⟩ := hf hon.fuse
  rcases hc with ⟨_, hd', _⟩ | ⟨e32, _⟩
  · refine ⟨(putW j.d j.tail (pagesL (j.many + 1) b)).1, ?_, ⟨q1, hf', hd'⟩, q2, by omega⟩
    unfold appendW
    rw [hp, hj, if_neg (by simp), if_neg (by simp), if_neg (by simp only; omega), if_pos e0, show (needI b.length).toNat = (pagesL (j.many + 1) b).length by omega]
  · rw [e0] at e32; cases e32
/-- a journal, since the law began -/
structure Jq (w0 : World) (bj g : Nat) (j : Jv) (Z : Nat → Prop) (w : World) : Prop where
  jn : Jn w Z bj g j
  lo : ∀ b, Z b → w0.heap.size ≤ b
  hi : ∀ b, Z b → b < w.heap.size
  lob : w0.heap.size ≤ bj
  below : Below w0.heap.size w0 w
section
variable {w0 w w' : World} {bj g : Nat} {j j' : Jv} {Z : Nat → Prop}
theorem Jq.grow (h : Jq w0 bj g j Z w) (hb : Below w.heap.size w w') : Jq w0 bj g j Z w' :=
  ⟨h.jn.below hb, h.lo, fun b hz => Nat.lt_of_lt_of_le (h.hi b hz) hb.size, h.lob, h.below.trans (hb.mono h.below.size)⟩
theorem Jq.put (h : Jq w0 bj g j Z w) (hj : Jn w' Z bj g j') (hk : Kept (fun x => ¬ Z x ∧ x ≠ bj) w w') : Jq w0 bj g j' Z w' :=
  ⟨hj, h.lo, fun b hz => Nat.lt_of_lt_of_le (h.hi b hz) hk.size, h.lob, h.below.trans (hk.toBelow (B := w0.heap.size) h.below.size (fun b hb => ⟨fun hz => by have := h.lo b hz; omega, fun e => by have := h.lob; omega⟩))⟩
end
/-- the journal that no call made -/
def Jz (w : World) (b : Nat) : Prop := w.heap[b]? = some (.cells #[.pointer none, .int .i64 0, .int .i64 0, .bool false] 120 (0, 0))
theorem Jz.below {w w' : World} {b : Nat} (h : Jz w b) (k : Below w.heap.size w w') : Jz w' b := (k.block b (lt_of_block h)).trans h
/-- no journal: nil, or one that no call made -/
def Jno (w : World) (p : Value) : Prop := p = .pointer none ∨ ∃ b, p = .pointer (some ⟨b, 0, none⟩) ∧ Jz w b
set_option maxRecDepth 100000 in
theorem jnone_no {w : World} {p : Value} (h : Jno w p) : Calls Try.prog 113 #[p] w fun e w' => e = .returned (.bool true) ∧ w = w' := by
  rcases h with rfl | ⟨b, rfl, hz⟩
  · go_enter Try.func113, Try.ntmps113
    go_wp2
    go_ret
    exact ⟨rfl, rfl⟩
  · have c0 := cells_of hz 0 (.pointer none) rfl
    clear hz
    go_enter Try.func113, Try.ntmps113
    go_wp2
    go_ret
    exact ⟨rfl, rfl⟩
set_option maxRecDepth 100000 in
theorem jlen_no {w : World} {p : Value} (h : Jno w p) : Calls Try.prog 80 #[p] w fun e w' => e = .returned (.int .i64 0) ∧ w = w' := by
  have hn := jnone_no h
  clear h
  go_enter Try.func80, Try.ntmps80
  go_wp2_with (go_at_call 113; refine hn.mono ?_; rintro e w' ⟨rfl, rfl⟩)
  go_ret
  exact ⟨rfl, rfl⟩
set_option maxRecDepth 100000 in
theorem jtail_no {w : World} {p : Value} (h : Jno w p) : Calls Try.prog 79 #[p] w fun e w' => e = .returned (.int .i64 0) ∧ w = w' := by
  have hn := jnone_no h
  clear h
  go_enter Try.func79, Try.ntmps79
  go_wp2_with (go_at_call 113; refine hn.mono ?_; rintro e w' ⟨rfl, rfl⟩)
  go_ret
  exact ⟨rfl, rfl⟩
set_option maxRecDepth 100000 in
theorem jroom_no {w : World} {p : Value} (h : Jno w p) : Calls Try.prog 77 #[p] w fun e w' => e = .returned (.int .i64 0) ∧ w = w' := by
  have hn := jnone_no h
  clear h
  go_enter Try.func77, Try.ntmps77
  go_wp2_with (go_at_call 113; refine hn.mono ?_; rintro e w' ⟨rfl, rfl⟩)
  go_ret
  exact ⟨rfl, rfl⟩
set_option maxRecDepth 100000 in
theorem jdead_no {w : World} {p : Value} (h : Jno w p) : Calls Try.prog 81 #[p] w fun e w' => e = .returned (.bool false) ∧ w = w' := by
  have hn := jnone_no h
  clear h
  go_enter Try.func81, Try.ntmps81
  go_wp2_with (go_at_call 113; refine hn.mono ?_; rintro e w' ⟨rfl, rfl⟩)
  go_ret
  exact ⟨rfl, rfl⟩
set_option maxRecDepth 100000 in
theorem jappend_no {w : World} {p v : Value} (h : Jno w p) : Calls Try.prog 78 #[p, v] w fun e w' => e = .returned (.tuple #[.int .i64 0, .int .i64 1]) ∧ w = w' := by
  have hn := jnone_no h
  clear h
  go_enter Try.func78, Try.ntmps78
  go_wp2_with (go_at_call 113; refine hn.mono ?_; rintro e w' ⟨rfl, rfl⟩)
  go_ret2
  exact ⟨rfl, rfl⟩
def light12B (ls : List (List UInt8)) : Bool := (ls.all fun b => decide (b.length ≤ 600)) && decide (ls.length ≤ 30)
theorem light12_yes {ls : List (List UInt8)} (h : light12B ls = true) : (∀ b ∈ ls, b.length ≤ 600) ∧ ls.length ≤ 30 := by
  unfold light12B at h
  simp only [Bool.and_eq_true, decide_eq_true_eq, List.all_eq_true] at h
  exact h
set_option maxRecDepth 100000 in
set_option maxHeartbeats 2000000 in
theorem light12_any {w : World} {v : Value} {ls : List (List UInt8)} (hs : Byts w w.heap.size v ls) : Calls Try.prog 74 #[v] w fun e w' => e = .returned (.bool (light12B ls)) ∧ Below w.heap.size w w' := by
  obtain ⟨A, c, rfl, hc, hm⟩ := hs.form
  unfold maxLen at hm
  have HS := Lib.hid hs
  generalize hR : light12B ls = R
  have HR := Lib.hid hR
  clear hs hR
  go_enter Try.func74, Try.ntmps74
  go_wp2
  go_loopg [4, 7] ls.length (fun gk x4 x7 wr => ∃ k : Nat, gk = ls.length - k ∧ k ≤ ls.length ∧ x7 = .int .i64 (k : Int) ∧ (((ls.drop k).all fun b => decide (b.length ≤ 600)) && decide (ls.length ≤ 30)) = R ∧ Below w.heap.size w wr)
  case atStart => exact ⟨0, rfl, Nat.zero_le _, rfl, HR.out, Below.refl _ _⟩
  case round =>
    obtain ⟨k, hgk, hk, rfl, hal, hbel⟩ := hrel
    have HG := Lib.hid hgk
    have HAL := Lib.hid hal
    clear hgk hal HR
    by_cases h : k < ls.length
    · obtain ⟨ad0, rfl⟩ : ∃ ad, A = some ad := by obtain ⟨ad0, u0, e, _⟩ := (HS.out.below hbel).atv k h; exact ⟨ad0, e⟩
      obtain ⟨A1, n1, c1, hcell, hn1, hc1, hm1, _⟩ := (HS.out.below hbel).at_ k h
      have hal := HAL.out
      rw [List.drop_eq_getElem_cons h, List.all_cons, ← hn1] at hal
      have HAL2 := Lib.hid hal
      have i1 : (0 : Int) ≤ (k : Int) := by omega
      have i2 : (k : Int) < (ls.length : Int) := by omega
      have i3 : IntKind.i64.wrap ((k : Int) + 1) = (k : Int) + 1 := by rw [IntKind.wrap_i64]; omega
      clear hal hn1
      by_cases h4 : 600 < n1
      · have e4 : decide ((600 : Int) < (n1 : Int)) = true := decide_eq_true (by omega)
        have hR := HAL2.out
        rw [show decide (n1 ≤ 600) = false from decide_eq_false (by omega), Bool.false_and, Bool.false_and] at hR
        subst hR
        go_wp2
        go_ret
        exact ⟨rfl, hbel⟩
      · have e4 : decide ((600 : Int) < (n1 : Int)) = false := decide_eq_false (by omega)
        have hR := HAL2.out
        rw [show decide (n1 ≤ 600) = true from decide_eq_true (by omega), Bool.true_and] at hR
        have HAL3 := Lib.hid hR
        clear hR
        go_wp2
        go_roundg (ls.length - (k + 1))
        case measure => have := HG.out; omega
        case rel => exact ⟨k + 1, rfl, by omega, by simp, HAL3.out, hbel⟩
    · obtain rfl : k = ls.length := by omega
      have hR := HAL.out
      rw [List.drop_length, List.all_nil, Bool.true_and] at hR
      have e5 : decide (ls.length ≤ 30) = R := hR
      clear hR
      go_wp2
      go_ret
      exact ⟨ret_bool (by rw [← e5, Bool.eq_iff_iff, decide_eq_true_eq, decide_eq_true_eq]; omega), hbel⟩
end Go.Proofs.Ytmcjefdnkcpghaa
/- THE WALK OF octroilaw12.lives. -/
namespace Go.Proofs.Ytmcjefdnkcpghaa
open Go.RowKit
/-- a new disk: nothing stands on it -/
theorem new_open (N : Nat) (h1 : 1 ≤ N) (h2 : N ≤ 4096) : findW (page (Dv.new N).L) (Dv.new N).n 0 [] = ([], 0) ∧ wipeR (Dv.new N) ((0 : Nat) : Int) = (Dv.new N, 0, 0) ∧ On (Dv.new N) := by
  have hz : ∀ i, i < N → page (Dv.new N).L i = z64 := fun i hi => page_zero N i hi
  have hon : On (Dv.new N) := ⟨⟨h1, h2, by simp [Dv.new], fun a t e => (by cases e), by simp [Dv.new]⟩, rfl, rfl⟩
  refine ⟨?_, ?_, hon⟩
  · rw [findW_stop]
    rw [batch_nobegin (by rw [hz 0 (by omega)]; exact begin_z)]; simp
  · have hl := dirty_none (Dv.new N).L (Dv.new N).n 0 (fun i _ hi => hz i hi)
    obtain ⟨e1, e2, e3⟩ := wipe_nothing (d := Dv.new N) ((0 : Nat) : Int) hl
    rw [right_ok hon 0 (Nat.zero_le _)] at e3
    exact Prod.ext e1 (Prod.ext e2 e3)
/-- a journal opened on a new disk -/
theorem jopen_new {w0 w : World} {Z : Nat → Prop} {g N : Nat} (h1 : 1 ≤ N) (h2 : N ≤ 4096) (hq : Dq w0 g (Dv.new N) Z w) :
    Calls Try.prog 76 #[.pointer (some ⟨g, 0, none⟩)] w fun e w' => ∃ bj A c, e = .returned (.tuple #[.pointer (some ⟨bj, 0, none⟩), .slice A 0 c, .int .i64 0]) ∧ Jq w0 bj g ⟨Dv.new N, 0, 0, false⟩ Z w' := by
  obtain ⟨e1, e2, hon⟩ := new_open N h1 h2
  have ho := jopen_any hq.dk hq.hi hon.dead (by simp [Dv.new])
  rw [e1] at ho
  simp only at ho
  rw [e2] at ho
  refine ho.mono fun e w' he => ?_
  rcases he with ⟨_, bj, v, he, hj, hb, hO, hk⟩ | ⟨hne, _⟩
  · obtain ⟨A, n, c, hv, hn⟩ := hO.form
    simp only [List.length_nil] at hn
    subst hv hn
    exact ⟨bj, A, c, he, hj, hq.lo, fun b hz => Nat.lt_of_lt_of_le (hq.hi b hz) hk.size, Nat.le_trans hq.below.size hb, hq.below.trans (hk.toBelow (B := w0.heap.size) hq.below.size (fun b hb hz => by have := hq.lo b hz; omega))⟩
  · exact absurd rfl hne
set_option maxRecDepth 100000 in
set_option maxHeartbeats 4000000 in
theorem lives12_any (w : World) : Calls Try.prog 75 #[] w fun e w' => e = .returned (.bool true) ∧ Below w.heap.size w w' := by
  have hnew := new_any 6 (by omega) (by omega) w
  rw [show ((6 : Nat) : Int) = 6 from rfl] at hnew
  obtain ⟨_, _, hon0⟩ := new_open 6 (by omega) (by omega)
  obtain ⟨d1, ha1, hon1, hn1, hw1⟩ := append_on (j := ⟨Dv.new 6, 0, 0, false⟩) (b := [1]) ⟨Nat.zero_le _, Nat.zero_le _⟩ hon0 rfl (by simp) (by simp [Dv.new]) (by simp) (by decide)
  have hwr0 : (Dv.new 6).writes = 0 := rfl
  have hnn0 : (Dv.new 6).n = 6 := rfl
  simp only at hn1 hw1 ha1
  rw [show (needI (([1] : List UInt8).length : Int)).toNat = 3 by decide] at ha1
  obtain ⟨d2, ha2, hon2, hn2, hw2⟩ := append_on (j := ⟨d1, 1, 3, false⟩) (b := [2]) ⟨by simp only; omega, by simp only; omega⟩ hon1 rfl (by simp) (by simp only; omega) (by simp) (by simp only; rw [show needI (([2] : List UInt8).length : Int) = 3 by decide]; omega)
  simp only at hn2 hw2 ha2
  rw [show (needI (([2] : List UInt8).length : Int)).toNat = 3 by decide] at ha2
  have ha3 : appendW ⟨d2, 2, 6, false⟩ [3] = (⟨d2, 2, 6, false⟩, 0, 31) := by
    rcases append_cases (j := ⟨d2, 2, 6, false⟩) (b := [3]) ⟨by simp only; omega, by simp only; omega⟩ hon2.ok hon2.dead rfl (by simp) (by simp only; omega) with ⟨h, _⟩ | ⟨_, _, h⟩ | ⟨_, h, _⟩ | ⟨_, h, _⟩
    · simp at h
    · exact h
    · simp only at h; rw [show needI (([3] : List UInt8).length : Int) = 3 by decide] at h; omega
    · simp only at h; rw [show needI (([3] : List UInt8).length : Int) = 3 by decide] at h; omega
  have hby : ∀ (W : World) (x : UInt8), Byt (W.alloc (.cells #[.int .u8 (x.toNat : Int)] 5)) (W.heap.size + 1) (.slice (some ⟨W.heap.size, 0, none⟩) 1 1) [x] := fun W x => byt_one W _ x rfl
  have HB1 := Lib.hid (fun W => hby W 1)
  have HB2 := Lib.hid (fun W => hby W 2)
  have HB3 := Lib.hid (fun W => hby W 3)
  have HA1 := Lib.hid ha1
  have HA2 := Lib.hid ha2
  have HA3 := Lib.hid ha3
  have HW1 := Lib.hid (show d1.writes + 5000 ≤ 1000000000 by omega)
  have HW2 := Lib.hid (show d2.writes + 5000 ≤ 1000000000 by omega)
  have HN1 := Lib.hid hn1
  have HN2 := Lib.hid hn2
  have HON0 := Lib.hid hon0
  clear hby ha1 ha2 ha3 hw1 hw2 hn1 hn2 hon0 hwr0 hnn0 hon1 hon2
  go_enter Try.func75, Try.ntmps75
  go_wp2_with (first
    | (go_at_call 34; (with_reducible refine hnew.mono ?_); rintro e w1 ⟨g, rfl, hd1, hb1⟩
       have hop := jopen_new (w0 := w) (N := 6) (by omega) (by omega) ⟨hd1, fun b hb => hb.1, fun b hb => hb.2, hb1⟩
       clear hnew hd1 hb1)
    | (go_at_call 76; (with_reducible refine hop.mono ?_); rintro e w2 ⟨bj, A2, c2, rfl, hq2⟩
       have hq2a := hq2.grow ((Below.refl _ _).alloc (Nat.le_refl _) (.cells #[.int .u8 1] 5))
       have hap1 := append_any hq2a.jn ⟨Nat.zero_le _, Nat.zero_le _⟩ hq2a.hi (HB1.out w2) (by simp) (by simp [Dv.new])
       rw [HA1.out] at hap1
       unfold AppendPost at hap1
       simp only at hap1
       have HQ2 := Lib.hid hq2a
       clear hop hq2 hq2a))
  refine hap1.mono ?_
  rintro e w3 ⟨rfl, hj3, hk3⟩
  have hq3 := (HQ2.out.put hj3 hk3).grow ((Below.refl _ _).alloc (Nat.le_refl _) (.cells #[.int .u8 2] 5))
  have hap2 := append_any hq3.jn ⟨by have := HN1.out; have : (Dv.new 6).n = 6 := rfl; simp only; omega, by simp only; omega⟩ hq3.hi (HB2.out w3) (by simp) HW1.out
  rw [HA2.out] at hap2
  unfold AppendPost at hap2
  simp only at hap2
  have HQ3 := Lib.hid hq3
  clear hap1 hj3 hk3 hq3
  go_wp2_with fail
  refine hap2.mono ?_
  rintro e w4 ⟨rfl, hj4, hk4⟩
  have hq4 := (HQ3.out.put hj4 hk4).grow ((Below.refl _ _).alloc (Nat.le_refl _) (.cells #[.int .u8 3] 5))
  have hok2 : Jv.ok ⟨d2, 2, 6, false⟩ := ⟨by have := HN1.out; have := HN2.out; have : (Dv.new 6).n = 6 := rfl; simp only; omega, by simp only; omega⟩
  have hap3 := append_any hq4.jn hok2 hq4.hi (HB3.out w4) (by simp) HW2.out
  rw [HA3.out] at hap3
  unfold AppendPost at hap3
  simp only at hap3
  have HQ4 := Lib.hid hq4
  clear hap2 hj4 hk4 hq4
  go_wp2_with fail
  refine hap3.mono ?_
  rintro e w5 ⟨rfl, hj5, hk5⟩
  have hq5 := HQ4.out.put hj5 hk5
  have hln := jlen_any hq5.jn
  have hrm := jroom_any hq5.jn hok2
  have h6 : d2.n = 6 := by have := HN1.out; have := HN2.out; have : (Dv.new 6).n = 6 := rfl; omega
  simp only at hln hrm
  rw [h6, show ((6 : Nat) : Int) - ((6 : Nat) : Int) = 0 from rfl] at hrm
  have HQ5 := Lib.hid hq5
  clear hap3 hj5 hk5 hq5 h6
  go_wp2_with (first
    | (go_at_call 80; (with_reducible refine hln.mono ?_); rintro e w6 ⟨rfl, rfl⟩)
    | (go_at_call 77; (with_reducible refine hrm.mono ?_); rintro e w7 ⟨rfl, q, rfl⟩))
  go_ret
  exact ⟨rfl, HQ5.out.below.trans ((drewN_below w5 q).mono HQ5.out.below.size)⟩
end Go.Proofs.Ytmcjefdnkcpghaa
