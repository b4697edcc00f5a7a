/- BOTH DECODERS PLAINLY: each finds the good command whose bytes these are, or none. -/
import Derived.Test.YtnfpmobmfcgfnaaPs
import Derived.Test.YtnfpmobmfcgfnaaReX
import Derived.Test.YtnfpmobmfcgfnaaReI
import Derived.Laws.ResultCell
namespace Go.Proofs.Ytnfpmobmfcgfnaa
open Go.RowKit
theorem lineS_back {s : RS} {t : List UInt8} (h : (lineS s).2 = some t) : s = some (lineL (lineS s).1 ++ t) := by
 have e : lineS s = (⟨(numS s).1, (numS (numS s).2).1, (textS (numS (numS s).2).2).1, (textS (textS (numS (numS s).2).2).2).1, (textS (textS (textS (numS (numS s).2).2).2).2).1, (numS (textS (textS (textS (numS (numS s).2).2).2).2).2).1, (flagS (numS (textS (textS (textS (numS (numS s).2).2).2).2).2).2).1, (numS (flagS (numS (textS (textS (textS (numS (numS s).2).2).2).2).2).2).2).1, (flagS (numS (flagS (numS (textS (textS (textS (numS (numS s).2).2).2).2).2).2).2).2).1⟩, (flagS (numS (flagS (numS (textS (textS (textS (numS (numS s).2).2).2).2).2).2).2).2).2) := rfl
 obtain ⟨a1, s1, h1⟩ : ∃ a t, numS s = (a, t) := ⟨_, _, rfl⟩
 obtain ⟨a2, s2, h2⟩ : ∃ a t, numS s1 = (a, t) := ⟨_, _, rfl⟩
 obtain ⟨a3, s3, h3⟩ : ∃ a t, textS s2 = (a, t) := ⟨_, _, rfl⟩
 obtain ⟨a4, s4, h4⟩ : ∃ a t, textS s3 = (a, t) := ⟨_, _, rfl⟩
 obtain ⟨a5, s5, h5⟩ : ∃ a t, textS s4 = (a, t) := ⟨_, _, rfl⟩
 obtain ⟨a6, s6, h6⟩ : ∃ a t, numS s5 = (a, t) := ⟨_, _, rfl⟩
 obtain ⟨a7, s7, h7⟩ : ∃ a t, flagS s6 = (a, t) := ⟨_, _, rfl⟩
 obtain ⟨a8, s8, h8⟩ : ∃ a t, numS s7 = (a, t) := ⟨_, _, rfl⟩
 obtain ⟨a9, s9, h9⟩ : ∃ a t, flagS s8 = (a, t) := ⟨_, _, rfl⟩
 simp only [h1, h2, h3, h4, h5, h6, h7, h8, h9] at e
 rw [e] at h ⊢
 simp only at h
 subst h
 have b9 := flagS_back (s := s8) (t := t) (by rw [h9]); rw [h9] at b9; simp only at b9; subst b9
 have b8 := numS_back (s := s7) (by rw [h8]); rw [h8] at b8; simp only at b8; subst b8
 have b7 := flagS_back (s := s6) (by rw [h7]); rw [h7] at b7; simp only at b7; subst b7
 have b6 := numS_back (s := s5) (by rw [h6]); rw [h6] at b6; simp only at b6; subst b6
 have b5 := textS_back (s := s4) (by rw [h5]); rw [h5] at b5; simp only at b5; subst b5
 have b4 := textS_back (s := s3) (by rw [h4]); rw [h4] at b4; simp only at b4; subst b4
 have b3 := textS_back (s := s2) (by rw [h3]); rw [h3] at b3; simp only at b3; subst b3
 have b2 := numS_back (s := s1) (by rw [h2]); rw [h2] at b2; simp only at b2; subst b2
 have b1 := numS_back (s := s) (by rw [h1]); rw [h1] at b1; simp only at b1
 rw [b1]
 simp [lineL, lineB]
theorem linesS_back : ∀ {n : Nat} {s : RS} {t : List UInt8}, (linesS n s).2 = some t → s = some (linesL (linesS n s).1 ++ t)
 | 0, s, t, h => by simpa [linesS, linesL] using h
 | n + 1, s, t, h => by
  rw [linesS] at h ⊢
  simp only at h ⊢
  have b := linesS_back h
  have c := lineS_back b
  rw [c]
  have e : linesL ((lineS s).1 :: (linesS n (lineS s).2).1) = lineL (lineS s).1 ++ linesL (linesS n (lineS s).2).1 := by simp [linesL]
  rw [← c, e, List.append_assoc]
  exact c
theorem headS_back {s : RS} {t : List UInt8} (h : (headS s).2.2 = some t) : s = some (([textL (headS s).1.id, flagL (headS s).1.sale, flagL (headS s).1.cred, textL (headS s).1.ref, numL (headS s).1.day, textL (headS s).1.cty, textL (headS s).1.num, textL (headS s).1.cur, numL (headS s).2.1] : List (List UInt8)).flatten ++ t) := by
 have e : headS s = (⟨(textS s).1, (flagS (textS s).2).1, (flagS (flagS (textS s).2).2).1, (textS (flagS (flagS (textS s).2).2).2).1, (numS (textS (flagS (flagS (textS s).2).2).2).2).1, (textS (numS (textS (flagS (flagS (textS s).2).2).2).2).2).1, (textS (textS (numS (textS (flagS (flagS (textS s).2).2).2).2).2).2).1, (textS (textS (textS (numS (textS (flagS (flagS (textS s).2).2).2).2).2).2).2).1, []⟩, (numS (textS (textS (textS (numS (textS (flagS (flagS (textS s).2).2).2).2).2).2).2).2).1, (numS (textS (textS (textS (numS (textS (flagS (flagS (textS s).2).2).2).2).2).2).2).2).2) := rfl
 obtain ⟨a1, s1, h1⟩ : ∃ a t, textS s = (a, t) := ⟨_, _, rfl⟩
 obtain ⟨a2, s2, h2⟩ : ∃ a t, flagS s1 = (a, t) := ⟨_, _, rfl⟩
 obtain ⟨a3, s3, h3⟩ : ∃ a t, flagS s2 = (a, t) := ⟨_, _, rfl⟩
 obtain ⟨a4, s4, h4⟩ : ∃ a t, textS s3 = (a, t) := ⟨_, _, rfl⟩
 obtain ⟨a5, s5, h5⟩ : ∃ a t, numS s4 = (a, t) := ⟨_, _, rfl⟩
 obtain ⟨a6, s6, h6⟩ : ∃ a t, textS s5 = (a, t) := ⟨_, _, rfl⟩
 obtain ⟨a7, s7, h7⟩ : ∃ a t, textS s6 = (a, t) := ⟨_, _, rfl⟩
 obtain ⟨a8, s8, h8⟩ : ∃ a t, textS s7 = (a, t) := ⟨_, _, rfl⟩
 obtain ⟨a9, s9, h9⟩ : ∃ a t, numS s8 = (a, t) := ⟨_, _, rfl⟩
 simp only [h1, h2, h3, h4, h5, h6, h7, h8, h9] at e
 rw [e] at h ⊢
 simp only at h
 subst h
 have b9 := numS_back (s := s8) (t := t) (by rw [h9]); rw [h9] at b9; simp only at b9; subst b9
 have b8 := textS_back (s := s7) (by rw [h8]); rw [h8] at b8; simp only at b8; subst b8
 have b7 := textS_back (s := s6) (by rw [h7]); rw [h7] at b7; simp only at b7; subst b7
 have b6 := textS_back (s := s5) (by rw [h6]); rw [h6] at b6; simp only at b6; subst b6
 have b5 := numS_back (s := s4) (by rw [h5]); rw [h5] at b5; simp only at b5; subst b5
 have b4 := textS_back (s := s3) (by rw [h4]); rw [h4] at b4; simp only at b4; subst b4
 have b3 := flagS_back (s := s2) (by rw [h3]); rw [h3] at b3; simp only at b3; subst b3
 have b2 := flagS_back (s := s1) (by rw [h2]); rw [h2] at b2; simp only at b2; subst b2
 have b1 := textS_back (s := s) (by rw [h1]); rw [h1] at b1; simp only at b1
 rw [b1]
 simp
/-- a document that has lines: its bytes were these -/
theorem getDocS_back {s : RS} {t : List UInt8} (h : (getDocS s).2 = some t) (hn : (getDocS s).1.ls ≠ []) : s = some (docL (getDocS s).1 ++ t) := by
 unfold getDocS at h hn ⊢
 simp only at h hn ⊢
 by_cases hi : inB (headS s).2.1 1 64 = true
 ·rw [if_pos hi] at h ⊢
  simp only at h ⊢
  have hr := (inB_iff2 _ _ _).1 hi
  have b := headS_back (linesS_back h)
  have hl : ((linesS (headS s).2.1.toNat (headS s).2.2).1.length : Int) = (headS s).2.1 := by rw [linesS_len]; omega
  rw [b, ← b]
  simp only [docL, docB, hl, List.append_assoc]
  exact b
 ·rw [if_neg hi] at hn
  exact absurd rfl hn
/- a command -/
def DApp (D : RS → Dm × RS) : Prop := ∀ (d : Dm) (t : List UInt8), d.fit → 1 ≤ d.ls.length ∧ d.ls.length ≤ 64 → D (some (docL d ++ t)) = (d, some t)
theorem getDocS_dapp : DApp getDocS := fun _ t h hm => getDocS_app h hm t
theorem readDocS_dapp : DApp readDocS := fun _ t h hm => readDocS_app h hm.2 t
theorem doc_many {d : Dm} (h : goodDocB d = true) : 1 ≤ d.ls.length ∧ d.ls.length ≤ 64 := by
 unfold goodDocB at h
 simp only [Bool.and_eq_true, inB_iff2, decide_eq_true_eq, Bool.or_eq_true] at h
 obtain ⟨⟨_, h8⟩, _⟩ := h
 omega
theorem getK_cases (D : RS → Dm × RS) (k : Int) (s : RS) : (k = 1 ∧ getK D k s = get1 s) ∨ (k = 2 ∧ getK D k s = get2 s) ∨ (k = 3 ∧ getK D k s = get3 s) ∨ (k = 4 ∧ getK D k s = get4 s) ∨ (k = 5 ∧ getK D k s = get5 s) ∨ (k = 6 ∧ getK D k s = get6 s) ∨ (k = 7 ∧ getK D k s = get7 s) ∨
  (k = 8 ∧ getK D k s = get8 D s) ∨ (k = 9 ∧ getK D k s = get9 9 s) ∨ (k = 10 ∧ getK D k s = get9 10 s) ∨ (k = 11 ∧ getK D k s = get11 s) ∨ (NoKind k ∧ getK D k s = ({ Cm.zero with kind := k }, s)) := by
 by_cases e1 : k = 1
 ·subst e1; exact .inl ⟨rfl, rfl⟩
 by_cases e2 : k = 2
 ·subst e2; exact .inr (.inl ⟨rfl, rfl⟩)
 by_cases e3 : k = 3
 ·subst e3; exact .inr (.inr (.inl ⟨rfl, rfl⟩))
 by_cases e4 : k = 4
 ·subst e4; exact .inr (.inr (.inr (.inl ⟨rfl, rfl⟩)))
 by_cases e5 : k = 5
 ·subst e5; exact .inr (.inr (.inr (.inr (.inl ⟨rfl, rfl⟩))))
 by_cases e6 : k = 6
 ·subst e6; exact .inr (.inr (.inr (.inr (.inr (.inl ⟨rfl, rfl⟩)))))
 by_cases e7 : k = 7
 ·subst e7; exact .inr (.inr (.inr (.inr (.inr (.inr (.inl ⟨rfl, rfl⟩))))))
 by_cases e8 : k = 8
 ·subst e8; exact .inr (.inr (.inr (.inr (.inr (.inr (.inr (.inl ⟨rfl, rfl⟩)))))))
 by_cases e9 : k = 9
 ·subst e9; exact .inr (.inr (.inr (.inr (.inr (.inr (.inr (.inr (.inl ⟨rfl, rfl⟩))))))))
 by_cases e10 : k = 10
 ·subst e10; exact .inr (.inr (.inr (.inr (.inr (.inr (.inr (.inr (.inr (.inl ⟨rfl, rfl⟩)))))))))
 by_cases e11 : k = 11
 ·subst e11; exact .inr (.inr (.inr (.inr (.inr (.inr (.inr (.inr (.inr (.inr (.inl ⟨rfl, rfl⟩))))))))))
 have h : NoKind k := ⟨e1, e2, e3, e4, e5, e6, e7, e8, e9, e10, e11⟩
 exact .inr (.inr (.inr (.inr (.inr (.inr (.inr (.inr (.inr (.inr (.inr (⟨h, getK_no h s⟩)))))))))))
theorem getK_kind (D : RS → Dm × RS) (k : Int) (s : RS) : (getK D k s).1.kind = k := by
 rcases getK_cases D k s with ⟨h, e⟩ | ⟨h, e⟩ | ⟨h, e⟩ | ⟨h, e⟩ | ⟨h, e⟩ | ⟨h, e⟩ | ⟨h, e⟩ | ⟨h, e⟩ | ⟨h, e⟩ | ⟨h, e⟩ | ⟨h, e⟩ | ⟨_, e⟩
 all_goals
  first
   | (rw [e]; exact h.symm)
   | rw [e]
theorem per_year {k y x : Int} (h : perB k y x = true) (h3 : k = 3) : x = 1 := by
 subst h3
 unfold perB manyK at h
 simp only [Bool.and_eq_true, inB_iff2, decide_eq_true_eq] at h
 obtain ⟨⟨_, _⟩, h3⟩ := h
 simp at h3
 omega
theorem getK_app {D : RS → Dm × RS} (hD : DApp D) {c : Cm} (h : goodCB c = true) (t : List UInt8) : getK D c.kind (some (bodyL c ++ t)) = (c, some t) := by
 obtain ⟨hk, hb⟩ := good_kind h
 have f := good_fit h
 have hb := hb.symm
 clear h
 by_cases h1 : c.kind = 1
 ·rw [bareC, if_pos h1, h1] at hb
  rw [getK, if_pos h1, bodyL, if_pos h1]
  simp only [get1, List.flatten_cons, List.flatten_nil, List.append_nil, List.append_assoc, textS_app _ f.cty, numS_app _ f.ix, numS_app _ f.day, hb]
 by_cases h2 : c.kind = 2
 ·rw [bareC, if_neg (by rw [h2]; decide), if_pos h2, h2] at hb
  rw [getK, if_neg (by rw [h2]; decide), if_pos h2, bodyL, if_neg (by rw [h2]; decide), if_pos h2]
  simp only [get2, List.flatten_cons, List.flatten_nil, List.append_nil, List.append_assoc, textS_app _ f.cty, numS_app _ f.cat, numS_app _ f.day, numS_app _ f.til, numS_app _ f.bp, hb]
 by_cases h3 : c.kind = 3
 ·rw [bareC, if_neg (by rw [h3]; decide), if_neg (by rw [h3]; decide), if_pos h3, h3] at hb
  rw [getK, if_neg (by rw [h3]; decide), if_neg (by rw [h3]; decide), if_pos h3, bodyL, if_neg (by rw [h3]; decide), if_neg (by rw [h3]; decide), if_pos h3]
  simp only [get3, List.flatten_cons, List.flatten_nil, List.append_nil, List.append_assoc, numS_app _ f.day, numS_app _ f.til, hb]
 by_cases h4 : c.kind = 4
 ·rw [bareC, if_neg (by rw [h4]; decide), if_neg (by rw [h4]; decide), if_neg (by rw [h4]; decide), if_pos h4, h4] at hb
  rw [getK, if_neg (by rw [h4]; decide), if_neg (by rw [h4]; decide), if_neg (by rw [h4]; decide), if_pos h4, bodyL, if_neg (by rw [h4]; decide), if_neg (by rw [h4]; decide), if_neg (by rw [h4]; decide), if_pos h4]
  simp only [get4, List.flatten_cons, List.flatten_nil, List.append_nil, List.append_assoc, textS_app _ f.cty, textS_app _ f.txt, numS_app _ f.day, numS_app _ f.til, hb]
 by_cases h5 : c.kind = 5
 ·rw [bareC, if_neg (by rw [h5]; decide), if_neg (by rw [h5]; decide), if_neg (by rw [h5]; decide), if_neg (by rw [h5]; decide), if_pos h5, h5] at hb
  rw [kindB, if_neg (by rw [h5]; decide), if_neg (by rw [h5]; decide), if_neg (by rw [h5]; decide), if_neg (by rw [h5]; decide), if_pos h5] at hk
  simp only [Bool.and_eq_true, beq_iff_eq] at hk
  rw [hk.1.1.2] at hb
  rw [getK, if_neg (by rw [h5]; decide), if_neg (by rw [h5]; decide), if_neg (by rw [h5]; decide), if_neg (by rw [h5]; decide), if_pos h5, bodyL, if_neg (by rw [h5]; decide), if_neg (by rw [h5]; decide), if_neg (by rw [h5]; decide), if_neg (by rw [h5]; decide), if_pos h5]
  simp only [get5, List.flatten_cons, List.flatten_nil, List.append_nil, List.append_assoc, textS_app _ f.txt, numS_app _ f.py, numS_app _ f.px, numS_app _ f.nm, numS_app _ f.dn, hb]
 by_cases h6 : c.kind = 6
 ·rw [bareC, if_neg (by rw [h6]; decide), if_neg (by rw [h6]; decide), if_neg (by rw [h6]; decide), if_neg (by rw [h6]; decide), if_neg (by rw [h6]; decide), if_pos h6, h6] at hb
  rw [getK, if_neg (by rw [h6]; decide), if_neg (by rw [h6]; decide), if_neg (by rw [h6]; decide), if_neg (by rw [h6]; decide), if_neg (by rw [h6]; decide), if_pos h6, bodyL, if_neg (by rw [h6]; decide), if_neg (by rw [h6]; decide), if_neg (by rw [h6]; decide), if_neg (by rw [h6]; decide), if_neg (by rw [h6]; decide), if_pos h6]
  simp only [get6, List.flatten_cons, List.flatten_nil, List.append_nil, textS_app _ f.txt, hb]
 by_cases h7 : c.kind = 7
 ·rw [bareC, if_neg (by rw [h7]; decide), if_neg (by rw [h7]; decide), if_neg (by rw [h7]; decide), if_neg (by rw [h7]; decide), if_neg (by rw [h7]; decide), if_neg (by rw [h7]; decide), if_pos h7, h7] at hb
  rw [kindB, if_neg (by rw [h7]; decide), if_neg (by rw [h7]; decide), if_neg (by rw [h7]; decide), if_neg (by rw [h7]; decide), if_neg (by rw [h7]; decide), if_neg (by rw [h7]; decide), if_pos h7] at hk
  simp only [Bool.and_eq_true, beq_iff_eq] at hk
  rw [per_year hk.1.1 hk.1.2, hk.1.2] at hb
  rw [getK, if_neg (by rw [h7]; decide), if_neg (by rw [h7]; decide), if_neg (by rw [h7]; decide), if_neg (by rw [h7]; decide), if_neg (by rw [h7]; decide), if_neg (by rw [h7]; decide), if_pos h7, bodyL, if_neg (by rw [h7]; decide), if_neg (by rw [h7]; decide), if_neg (by rw [h7]; decide), if_neg (by rw [h7]; decide), if_neg (by rw [h7]; decide), if_neg (by rw [h7]; decide), if_pos h7]
  simp only [get7, List.flatten_cons, List.flatten_nil, List.append_nil, List.append_assoc, numS_app _ f.py, numS_app _ f.nm, hb]
 by_cases h8 : c.kind = 8
 ·rw [bareC, if_neg (by rw [h8]; decide), if_neg (by rw [h8]; decide), if_neg (by rw [h8]; decide), if_neg (by rw [h8]; decide), if_neg (by rw [h8]; decide), if_neg (by rw [h8]; decide), if_neg (by rw [h8]; decide), if_pos h8, h8] at hb
  rw [kindB, if_neg (by rw [h8]; decide), if_neg (by rw [h8]; decide), if_neg (by rw [h8]; decide), if_neg (by rw [h8]; decide), if_neg (by rw [h8]; decide), if_neg (by rw [h8]; decide), if_neg (by rw [h8]; decide), if_pos h8] at hk
  rw [getK, if_neg (by rw [h8]; decide), if_neg (by rw [h8]; decide), if_neg (by rw [h8]; decide), if_neg (by rw [h8]; decide), if_neg (by rw [h8]; decide), if_neg (by rw [h8]; decide), if_neg (by rw [h8]; decide), if_pos h8, bodyL, if_neg (by rw [h8]; decide), if_neg (by rw [h8]; decide), if_neg (by rw [h8]; decide), if_neg (by rw [h8]; decide), if_neg (by rw [h8]; decide), if_neg (by rw [h8]; decide), if_neg (by rw [h8]; decide), if_pos h8]
  simp only [get8, hD _ _ (f.doc h8) (doc_many hk), hb]
 by_cases h9 : c.kind = 9
 ·rw [bareC, if_neg (by rw [h9]; decide), if_neg (by rw [h9]; decide), if_neg (by rw [h9]; decide), if_neg (by rw [h9]; decide), if_neg (by rw [h9]; decide), if_neg (by rw [h9]; decide), if_neg (by rw [h9]; decide), if_neg (by rw [h9]; decide), if_pos (.inl h9), h9] at hb
  rw [getK, if_neg (by rw [h9]; decide), if_neg (by rw [h9]; decide), if_neg (by rw [h9]; decide), if_neg (by rw [h9]; decide), if_neg (by rw [h9]; decide), if_neg (by rw [h9]; decide), if_neg (by rw [h9]; decide), if_neg (by rw [h9]; decide), if_pos h9, bodyL, if_neg (by rw [h9]; decide), if_neg (by rw [h9]; decide), if_neg (by rw [h9]; decide), if_neg (by rw [h9]; decide), if_neg (by rw [h9]; decide), if_neg (by rw [h9]; decide), if_neg (by rw [h9]; decide), if_neg (by rw [h9]; decide), if_pos (.inl h9)]
  simp only [get9, List.flatten_cons, List.flatten_nil, List.append_nil, List.append_assoc, numS_app _ f.pk, numS_app _ f.py, numS_app _ f.px, hb]
 by_cases h10 : c.kind = 10
 ·rw [bareC, if_neg (by rw [h10]; decide), if_neg (by rw [h10]; decide), if_neg (by rw [h10]; decide), if_neg (by rw [h10]; decide), if_neg (by rw [h10]; decide), if_neg (by rw [h10]; decide), if_neg (by rw [h10]; decide), if_neg (by rw [h10]; decide), if_pos (.inr (.inl h10)), h10] at hb
  rw [getK, if_neg (by rw [h10]; decide), if_neg (by rw [h10]; decide), if_neg (by rw [h10]; decide), if_neg (by rw [h10]; decide), if_neg (by rw [h10]; decide), if_neg (by rw [h10]; decide), if_neg (by rw [h10]; decide), if_neg (by rw [h10]; decide), if_neg (by rw [h10]; decide), if_pos h10, bodyL, if_neg (by rw [h10]; decide), if_neg (by rw [h10]; decide), if_neg (by rw [h10]; decide), if_neg (by rw [h10]; decide), if_neg (by rw [h10]; decide), if_neg (by rw [h10]; decide), if_neg (by rw [h10]; decide), if_neg (by rw [h10]; decide), if_pos (.inr h10)]
  simp only [get9, List.flatten_cons, List.flatten_nil, List.append_nil, List.append_assoc, numS_app _ f.pk, numS_app _ f.py, numS_app _ f.px, hb]
 by_cases h11 : c.kind = 11
 ·rw [bareC, if_neg (by rw [h11]; decide), if_neg (by rw [h11]; decide), if_neg (by rw [h11]; decide), if_neg (by rw [h11]; decide), if_neg (by rw [h11]; decide), if_neg (by rw [h11]; decide), if_neg (by rw [h11]; decide), if_neg (by rw [h11]; decide), if_pos (.inr (.inr h11)), h11] at hb
  rw [kindB, if_neg (by rw [h11]; decide), if_neg (by rw [h11]; decide), if_neg (by rw [h11]; decide), if_neg (by rw [h11]; decide), if_neg (by rw [h11]; decide), if_neg (by rw [h11]; decide), if_neg (by rw [h11]; decide), if_neg (by rw [h11]; decide), if_neg (by rw [h11]; decide), if_pos h11] at hk
  simp only [Bool.and_eq_true, beq_iff_eq] at hk
  rw [per_year hk.1 hk.2, hk.2] at hb
  rw [getK, if_neg (by rw [h11]; decide), if_neg (by rw [h11]; decide), if_neg (by rw [h11]; decide), if_neg (by rw [h11]; decide), if_neg (by rw [h11]; decide), if_neg (by rw [h11]; decide), if_neg (by rw [h11]; decide), if_neg (by rw [h11]; decide), if_neg (by rw [h11]; decide), if_neg (by rw [h11]; decide), if_pos h11, bodyL, if_neg (by rw [h11]; decide), if_neg (by rw [h11]; decide), if_neg (by rw [h11]; decide), if_neg (by rw [h11]; decide), if_neg (by rw [h11]; decide), if_neg (by rw [h11]; decide), if_neg (by rw [h11]; decide), if_neg (by rw [h11]; decide), if_neg (by rw [h11]; decide), if_pos h11]
  simp only [get11, List.flatten_cons, List.flatten_nil, List.append_nil, numS_app _ f.py, hb]
 ·unfold kindB at hk
  simp [h1, h2, h3, h4, h5, h6, h7, h8, h9, h10, h11] at hk
theorem getK_back {k : Int} {s : RS} {t : List UInt8} (h : (getK getDocS k s).2 = some t) (hg : goodCB (getK getDocS k s).1 = true) : s = some (bodyL (getK getDocS k s).1 ++ t) := by
 by_cases h1 : k = 1
 ·subst h1
  have e : getK getDocS 1 s = get1 s := rfl
  obtain ⟨a1, s1, q1⟩ : ∃ a t, textS s = (a, t) := ⟨_, _, rfl⟩
  obtain ⟨a2, s2, q2⟩ : ∃ a t, numS s1 = (a, t) := ⟨_, _, rfl⟩
  obtain ⟨a3, s3, q3⟩ : ∃ a t, numS s2 = (a, t) := ⟨_, _, rfl⟩
  simp only [get1, q1, q2, q3] at e
  rw [e] at h ⊢
  simp only at h
  subst h
  have b3 := numS_back (s := s2) (by rw [q3]); rw [q3] at b3; simp only at b3; subst b3
  have b2 := numS_back (s := s1) (by rw [q2]); rw [q2] at b2; simp only at b2; subst b2
  have b1 := textS_back (s := s) (by rw [q1]); rw [q1] at b1; simp only at b1
  rw [b1]
  simp [bodyL]
 by_cases h2 : k = 2
 ·subst h2
  have e : getK getDocS 2 s = get2 s := rfl
  obtain ⟨a1, s1, q1⟩ : ∃ a t, textS s = (a, t) := ⟨_, _, rfl⟩
  obtain ⟨a2, s2, q2⟩ : ∃ a t, numS s1 = (a, t) := ⟨_, _, rfl⟩
  obtain ⟨a3, s3, q3⟩ : ∃ a t, numS s2 = (a, t) := ⟨_, _, rfl⟩
  obtain ⟨a4, s4, q4⟩ : ∃ a t, numS s3 = (a, t) := ⟨_, _, rfl⟩
  obtain ⟨a5, s5, q5⟩ : ∃ a t, numS s4 = (a, t) := ⟨_, _, rfl⟩
  simp only [get2, q1, q2, q3, q4, q5] at e
  rw [e] at h ⊢
  simp only at h
  subst h
  have b5 := numS_back (s := s4) (by rw [q5]); rw [q5] at b5; simp only at b5; subst b5
  have b4 := numS_back (s := s3) (by rw [q4]); rw [q4] at b4; simp only at b4; subst b4
  have b3 := numS_back (s := s2) (by rw [q3]); rw [q3] at b3; simp only at b3; subst b3
  have b2 := numS_back (s := s1) (by rw [q2]); rw [q2] at b2; simp only at b2; subst b2
  have b1 := textS_back (s := s) (by rw [q1]); rw [q1] at b1; simp only at b1
  rw [b1]
  simp [bodyL]
 by_cases h3 : k = 3
 ·subst h3
  have e : getK getDocS 3 s = get3 s := rfl
  obtain ⟨a1, s1, q1⟩ : ∃ a t, numS s = (a, t) := ⟨_, _, rfl⟩
  obtain ⟨a2, s2, q2⟩ : ∃ a t, numS s1 = (a, t) := ⟨_, _, rfl⟩
  simp only [get3, q1, q2] at e
  rw [e] at h ⊢
  simp only at h
  subst h
  have b2 := numS_back (s := s1) (by rw [q2]); rw [q2] at b2; simp only at b2; subst b2
  have b1 := numS_back (s := s) (by rw [q1]); rw [q1] at b1; simp only at b1
  rw [b1]
  simp [bodyL]
 by_cases h4 : k = 4
 ·subst h4
  have e : getK getDocS 4 s = get4 s := rfl
  obtain ⟨a1, s1, q1⟩ : ∃ a t, textS s = (a, t) := ⟨_, _, rfl⟩
  obtain ⟨a2, s2, q2⟩ : ∃ a t, textS s1 = (a, t) := ⟨_, _, rfl⟩
  obtain ⟨a3, s3, q3⟩ : ∃ a t, numS s2 = (a, t) := ⟨_, _, rfl⟩
  obtain ⟨a4, s4, q4⟩ : ∃ a t, numS s3 = (a, t) := ⟨_, _, rfl⟩
  simp only [get4, q1, q2, q3, q4] at e
  rw [e] at h ⊢
  simp only at h
  subst h
  have b4 := numS_back (s := s3) (by rw [q4]); rw [q4] at b4; simp only at b4; subst b4
  have b3 := numS_back (s := s2) (by rw [q3]); rw [q3] at b3; simp only at b3; subst b3
  have b2 := textS_back (s := s1) (by rw [q2]); rw [q2] at b2; simp only at b2; subst b2
  have b1 := textS_back (s := s) (by rw [q1]); rw [q1] at b1; simp only at b1
  rw [b1]
  simp [bodyL]
 by_cases h5 : k = 5
 ·subst h5
  have e : getK getDocS 5 s = get5 s := rfl
  obtain ⟨a1, s1, q1⟩ : ∃ a t, textS s = (a, t) := ⟨_, _, rfl⟩
  obtain ⟨a2, s2, q2⟩ : ∃ a t, numS s1 = (a, t) := ⟨_, _, rfl⟩
  obtain ⟨a3, s3, q3⟩ : ∃ a t, numS s2 = (a, t) := ⟨_, _, rfl⟩
  obtain ⟨a4, s4, q4⟩ : ∃ a t, numS s3 = (a, t) := ⟨_, _, rfl⟩
  obtain ⟨a5, s5, q5⟩ : ∃ a t, numS s4 = (a, t) := ⟨_, _, rfl⟩
  simp only [get5, q1, q2, q3, q4, q5] at e
  rw [e] at h ⊢
  simp only at h
  subst h
  have b5 := numS_back (s := s4) (by rw [q5]); rw [q5] at b5; simp only at b5; subst b5
  have b4 := numS_back (s := s3) (by rw [q4]); rw [q4] at b4; simp only at b4; subst b4
  have b3 := numS_back (s := s2) (by rw [q3]); rw [q3] at b3; simp only at b3; subst b3
  have b2 := numS_back (s := s1) (by rw [q2]); rw [q2] at b2; simp only at b2; subst b2
  have b1 := textS_back (s := s) (by rw [q1]); rw [q1] at b1; simp only at b1
  rw [b1]
  simp [bodyL]
 by_cases h6 : k = 6
 ·subst h6
  have e : getK getDocS 6 s = get6 s := rfl
  obtain ⟨a1, s1, q1⟩ : ∃ a t, textS s = (a, t) := ⟨_, _, rfl⟩
  simp only [get6, q1] at e
  rw [e] at h ⊢
  simp only at h
  subst h
  have b1 := textS_back (s := s) (by rw [q1]); rw [q1] at b1; simp only at b1
  rw [b1]
  simp [bodyL]
 by_cases h7 : k = 7
 ·subst h7
  have e : getK getDocS 7 s = get7 s := rfl
  obtain ⟨a1, s1, q1⟩ : ∃ a t, numS s = (a, t) := ⟨_, _, rfl⟩
  obtain ⟨a2, s2, q2⟩ : ∃ a t, numS s1 = (a, t) := ⟨_, _, rfl⟩
  simp only [get7, q1, q2] at e
  rw [e] at h ⊢
  simp only at h
  subst h
  have b2 := numS_back (s := s1) (by rw [q2]); rw [q2] at b2; simp only at b2; subst b2
  have b1 := numS_back (s := s) (by rw [q1]); rw [q1] at b1; simp only at b1
  rw [b1]
  simp [bodyL]
 by_cases h8 : k = 8
 ·subst h8
  have e : getK getDocS 8 s = get8 getDocS s := rfl
  rw [e] at h hg ⊢
  simp only [get8] at h hg ⊢
  have hk := (good_kind hg).1
  have hk : goodDocB (getDocS s).1 = true := hk
  have hn : (getDocS s).1.ls ≠ [] := fun e => by have := (doc_many hk).1; rw [e] at this; simp at this
  exact getDocS_back h hn
 by_cases h9 : k = 9
 ·subst h9
  have e : getK getDocS 9 s = get9 9 s := rfl
  obtain ⟨a1, s1, q1⟩ : ∃ a t, numS s = (a, t) := ⟨_, _, rfl⟩
  obtain ⟨a2, s2, q2⟩ : ∃ a t, numS s1 = (a, t) := ⟨_, _, rfl⟩
  obtain ⟨a3, s3, q3⟩ : ∃ a t, numS s2 = (a, t) := ⟨_, _, rfl⟩
  simp only [get9, q1, q2, q3] at e
  rw [e] at h ⊢
  simp only at h
  subst h
  have b3 := numS_back (s := s2) (by rw [q3]); rw [q3] at b3; simp only at b3; subst b3
  have b2 := numS_back (s := s1) (by rw [q2]); rw [q2] at b2; simp only at b2; subst b2
  have b1 := numS_back (s := s) (by rw [q1]); rw [q1] at b1; simp only at b1
  rw [b1]
  simp [bodyL]
 by_cases h10 : k = 10
 ·subst h10
  have e : getK getDocS 10 s = get9 10 s := rfl
  obtain ⟨a1, s1, q1⟩ : ∃ a t, numS s = (a, t) := ⟨_, _, rfl⟩
  obtain ⟨a2, s2, q2⟩ : ∃ a t, numS s1 = (a, t) := ⟨_, _, rfl⟩
  obtain ⟨a3, s3, q3⟩ : ∃ a t, numS s2 = (a, t) := ⟨_, _, rfl⟩
  simp only [get9, q1, q2, q3] at e
  rw [e] at h ⊢
  simp only at h
  subst h
  have b3 := numS_back (s := s2) (by rw [q3]); rw [q3] at b3; simp only at b3; subst b3
  have b2 := numS_back (s := s1) (by rw [q2]); rw [q2] at b2; simp only at b2; subst b2
  have b1 := numS_back (s := s) (by rw [q1]); rw [q1] at b1; simp only at b1
  rw [b1]
  simp [bodyL]
 by_cases h11 : k = 11
 ·subst h11
  have e : getK getDocS 11 s = get11 s := rfl
  obtain ⟨a1, s1, q1⟩ : ∃ a t, numS s = (a, t) := ⟨_, _, rfl⟩
  simp only [get11, q1] at e
  rw [e] at h ⊢
  simp only at h
  subst h
  have b1 := numS_back (s := s) (by rw [q1]); rw [q1] at b1; simp only at b1
  rw [b1]
  simp [bodyL]
 ·exfalso
  have hk := (good_kind hg).1
  unfold kindB at hk
  rw [getK_kind] at hk
  simp [h1, h2, h3, h4, h5, h6, h7, h8, h9, h10, h11] at hk
/-- record.Decode, plainly -/
def decS (l : List UInt8) : Option Cm :=
 let a := numS (some l)
 let c := getK getDocS a.1 a.2
 if c.2 = some [] ∧ goodCB c.1 = true then some c.1 else none
/-- what the document's 'read' tells -/
def readS (s : RS) : Cm × RS := let a := numS s; getK readDocS a.1 a.2
def rdecS (l : List UInt8) : Option Cm :=
 if goodCB (readS (some l)).1 = true ∧ encL (readS (some l)).1 = l then some (readS (some l)).1 else none
theorem decS_app {c : Cm} (h : goodCB c = true) : decS (encL c) = some c := by
 have e : numS (some (encL c)) = (c.kind, some (bodyL c)) := by unfold encL; exact numS_app _ (good_fit h).kind _
 have e2 := getK_app getDocS_dapp h []
 rw [List.append_nil] at e2
 unfold decS
 simp only [e, e2, h, and_self, if_true]
theorem readS_app {c : Cm} (h : goodCB c = true) : readS (some (encL c)) = (c, some []) := by
 have e : numS (some (encL c)) = (c.kind, some (bodyL c)) := by unfold encL; exact numS_app _ (good_fit h).kind _
 have e2 := getK_app readDocS_dapp h []
 rw [List.append_nil] at e2
 unfold readS
 simp only [e, e2]
theorem decS_back {l : List UInt8} {c : Cm} (h : decS l = some c) : goodCB c = true ∧ encL c = l := by
 unfold decS at h
 simp only at h
 split at h
 ·rename_i hc
  cases h
  have b1 := getK_back hc.1 hc.2
  have b2 := numS_back (s := some l) b1
  refine ⟨hc.2, ?_⟩
  unfold encL
  rw [getK_kind]
  simp only [Option.some.injEq, List.append_nil] at b2
  exact b2.symm
 ·cases h
theorem rdecS_back {l : List UInt8} {c : Cm} (h : rdecS l = some c) : goodCB c = true ∧ encL c = l := by
 unfold rdecS at h
 split at h
 ·rename_i hc
  cases h
  exact hc
 ·cases h
theorem rdecS_app {c : Cm} (h : goodCB c = true) : rdecS (encL c) = some c := by
 unfold rdecS
 simp only [readS_app h, h, and_self, if_true]
/-- both tell the same -/
theorem decS_eq (l : List UInt8) : decS l = rdecS l := by
 cases h : decS l with
 | some c =>
  obtain ⟨h1, rfl⟩ := decS_back h
  exact (rdecS_app h1).symm
 | none =>
  cases h2 : rdecS l with
  | none => rfl
  | some c =>
   obtain ⟨h3, rfl⟩ := rdecS_back h2
   rw [decS_app h3] at h; cases h
theorem i64_1 : I64 1 := ⟨by decide, by decide⟩
theorem i64_2 : I64 2 := ⟨by decide, by decide⟩
theorem i64_3 : I64 3 := ⟨by decide, by decide⟩
theorem i64_4 : I64 4 := ⟨by decide, by decide⟩
theorem i64_5 : I64 5 := ⟨by decide, by decide⟩
theorem i64_6 : I64 6 := ⟨by decide, by decide⟩
theorem i64_7 : I64 7 := ⟨by decide, by decide⟩
theorem i64_8 : I64 8 := ⟨by decide, by decide⟩
theorem i64_9 : I64 9 := ⟨by decide, by decide⟩
theorem i64_10 : I64 10 := ⟨by decide, by decide⟩
theorem i64_11 : I64 11 := ⟨by decide, by decide⟩
theorem getK_ok {D : RS → Dm × RS} (hD : ∀ s, (D s).1.ok) {k : Int} (hk : I64 k) (s : RS) : (getK D k s).1.ok := by
 have z := Dm.zero_ok
 rcases getK_cases D k s with ⟨_, e⟩ | ⟨_, e⟩ | ⟨_, e⟩ | ⟨_, e⟩ | ⟨_, e⟩ | ⟨_, e⟩ | ⟨_, e⟩ | ⟨_, e⟩ | ⟨_, e⟩ | ⟨_, e⟩ | ⟨_, e⟩ | ⟨_, e⟩
 all_goals
  rw [e]
  exact ⟨by first | exact hk | exact i64_1 | exact i64_2 | exact i64_3 | exact i64_4 | exact i64_5 | exact i64_6 | exact i64_7 | exact i64_8 | exact i64_9 | exact i64_10 | exact i64_11, by first | exact textS_ok _ | exact len_zero, by first | exact textS_ok _ | exact len_zero, by first | exact numS_ok _ | exact i64_zero, by first | exact numS_ok _ | exact i64_zero, by first | exact numS_ok _ | exact i64_zero, by first | exact numS_ok _ | exact i64_zero, by first | exact numS_ok _ | exact i64_zero, by first | exact numS_ok _ | exact i64_zero, by first | exact numS_ok _ | exact i64_zero, by first | exact numS_ok _ | exact i64_zero | exact i64_1 | exact i64_2 | exact i64_3, by first | exact numS_ok _ | exact i64_zero, by first | exact numS_ok _ | exact i64_zero | exact i64_1 | exact i64_2 | exact i64_3, by first | exact hD _ | exact z⟩
theorem getDocS_many (s : RS) : (getDocS s).1.ls.length ≤ 64 := by
 unfold getDocS
 simp only
 split
 ·rename_i h
  have := (inB_iff2 _ _ _).1 h
  simp only [linesS_len]
  omega
 ·exact Nat.zero_le _
theorem readDocS_many (s : RS) : (readDocS s).1.ls.length ≤ 65 := rlinesS_len _ _ _ _
theorem getK_many {D : RS → Dm × RS} {n : Nat} (hD : ∀ s, (D s).1.ls.length ≤ n) (k : Int) (s : RS) : (getK D k s).1.doc.ls.length ≤ n := by
 rcases getK_cases D k s with ⟨_, e⟩ | ⟨_, e⟩ | ⟨_, e⟩ | ⟨_, e⟩ | ⟨_, e⟩ | ⟨_, e⟩ | ⟨_, e⟩ | ⟨_, e⟩ | ⟨_, e⟩ | ⟨_, e⟩ | ⟨_, e⟩ | ⟨_, e⟩
 all_goals
  rw [e]
  first
   | exact hD _
   | exact Nat.zero_le _
end Go.Proofs.Ytnfpmobmfcgfnaa

/- THE WALK OF record.Decode. -/
namespace Go.Proofs.Ytnfpmobmfcgfnaa
open Go.RowKit
theorem results_row_tmp {P : Program} {fn : Func} {p u : Tmp} {ty : TypeId} (h : fn.results = #[.cell p ty, .tmp u]) (tmps : Array Value) (w : World) (g : Nat) (t : TypeId) (cs : Array Value) (fr : Nat × Nat) (d : TypeDesc) (x : Value)
  (hp : tmps.getD p undef = .pointer (some ⟨g, 0, none⟩)) (hx : tmps.getD u undef = x) (hg : w.heap[g]? = some (.cells cs t fr))
  (hu : P.underlying ty = some d) (hd : (match d with | .struct _ | .array _ _ => true | _ => false) = true) (hi : (P.info? ty).map (·.size) = some cs.size) :
  (results fn tmps).run P w = .ok (.tuple #[.agg cs, x]) w := by
 rw [results_cell_tmp h, hp, hx]
 simp [asAddr, run_loadVar_row w g t ty cs fr d hg hu hd hi, Result.andThen]
theorem done_s {w : World} {g B : Nat} {s : RS} (h : RdS w g B s) : Calls Try.prog 74 #[.pointer (some ⟨g, 0, none⟩)] w fun e w' => e = .returned (.int .i64 (if s = some [] then 0 else 10)) ∧ w = w' := by
 cases s with
 | none =>
  obtain ⟨l, v, h⟩ := h
  refine (mdone_any h).mono ?_
  rintro e w' ⟨rfl, rfl⟩
  exact ⟨by simp, rfl⟩
 | some l =>
  obtain ⟨v, h⟩ := h
  refine (mdone_any h).mono ?_
  rintro e w' ⟨rfl, rfl⟩
  refine ⟨?_, rfl⟩
  cases l with
  | nil => simp
  | cons a t => simp
/-- a decoder's answer -/
def DecPost (o : Option Cm) (w : World) (e : Ending) (w' : World) : Prop :=
 ∃ lv, e = .returned (.tuple #[.agg ((o.getD Cm.zero).vs lv), .int .i64 (if o.isSome then 0 else 10)]) ∧ OwN lnK w' w.heap.size lv (o.getD Cm.zero).doc.ls ∧ Below w.heap.size w w'
theorem decS_ok {l : List UInt8} {c : Cm} (h : decS l = some c) : c.ok ∧ c.doc.ls.length ≤ 64 := by
 unfold decS at h
 simp only at h
 split at h
 ·cases h
  exact ⟨getK_ok getDocS_ok (numS_ok _) _, getK_many getDocS_many _ _⟩
 ·cases h
/-- behind get: the reader, the command in its box, the box of the result -/
structure DZ (w0 w : World) (g B : Nat) (s : RS) (b bl : Nat) (V : Array Value) (lv : Value) (ls : List Ln) : Prop where
 rd : RdS w g B s
 bk : Blk w b V 53
 zb : Blk w bl (Cm.zero.vs (.slice none 0 0)) 53
 ow : OwN lnK w w0.heap.size lv ls
 nl : lv.ownBlock ≠ some bl
 lo : w0.heap.size ≤ bl
 on : Below w0.heap.size w0 w
section
variable {w0 w w' : World} {g B : Nat} {s : RS} {b bl : Nat} {V : Array Value} {lv : Value} {ls : List Ln}
theorem DZ.below (h : DZ w0 w g B s b bl V lv ls) (k : Below w.heap.size w w') : DZ w0 w' g B s b bl V lv ls :=
 ⟨h.rd.below k, (k.block b h.bk.lt).trans h.bk, (k.block bl h.zb.lt).trans h.zb, h.ow.below k, h.nl, h.lo, h.on.trans (k.mono h.on.size)⟩
theorem DZ.fin (h : DZ w0 w g B s b bl V lv ls) (U : Array Value) : OwN lnK (w.setRow bl U) w0.heap.size lv ls ∧ Below w0.heap.size w0 (w.setRow bl U) := by
 have k := (h.zb.row U).2
 have := h.lo
 exact ⟨h.ow.kept k (fun g' e hc => h.nl (by rw [e, hc])), h.on.trans (k.toBelow h.on.size fun b hb => by omega)⟩
end
set_option maxRecDepth 100000 in
set_option maxHeartbeats 16000000 in
theorem decode_any {w : World} {B : Nat} {v : Value} {L : List UInt8} (h : Byt w B v L) (hB : B ≤ w.heap.size) : Calls Try.prog 33 #[v] w (DecPost (decS L) w) := by
  obtain ⟨k, s1, h1⟩ : ∃ a t, numS (some L) = (a, t) := ⟨_, _, rfl⟩
  obtain ⟨C, s2, h2⟩ : ∃ a t, getK getDocS k s1 = (a, t) := ⟨_, _, rfl⟩
  have hok : C.ok := by
    have hk : I64 k := by have := numS_ok (some L); rw [h1] at this; exact this
    have := getK_ok getDocS_ok hk s1
    rw [h2] at this
    exact this
  have hmany : C.doc.ls.length ≤ 64 := by
    have := getK_many getDocS_many k s1
    rw [h2] at this
    exact this
  have hdec : decS L = if s2 = some [] ∧ goodCB C = true then some C else none := by simp only [decS, h1, h2]
  have H1 := Lib.hid h1
  have H2 := Lib.hid h2
  have HOK := Lib.hid hok
  have HMA := Lib.hid hmany
  have HD := Lib.hid hdec
  have hb1 := (Below.refl w.heap.size w).alloc (Nat.le_refl _) (.cells (Cm.zero.vs (.slice none 0 0)) 53)
  have HY1 := Lib.hid (show Byt (w.alloc (.cells (Cm.zero.vs (.slice none 0 0)) 53)) B v L from h.alloc hB _)
  have HB0 := Lib.hid (show Blk (w.alloc (.cells (Cm.zero.vs (.slice none 0 0)) 53)) w.heap.size (Cm.zero.vs (.slice none 0 0)) 53 from heap_alloc_new w _)
  have HL0 := Lib.hid hb1
  have HBW := Lib.hid hB
  clear h1 h2 hok hmany hdec h hb1 hB
  go_enter Try.func33, Try.ntmps33
  go_upto_region 1 with fail
  rw [zero_vs]
  generalize World.alloc w _ = w1 at *
  generalize hb : w.heap.size = bl at HB0 ⊢
  have HBL := Lib.hid hb
  clear hb
  have ho := open_any w1 v B L HY1.out (by have h1 := HB0.out.lt; have h2 := HBW.out; have h3 := HBL.out; omega)
  go_upto_region 2 with (go_at_call 71; (with_reducible refine ho.mono ?_); rintro e w2 ⟨rfl, hrd, hb2⟩; have HRD := Lib.hid (show RdS w2 w1.heap.size B (some L) from ⟨_, hrd⟩); have HB2 := Lib.hid hb2; clear hrd hb2 ho)
  have hz2 := (HB2.out.block bl HB0.out.lt).trans HB0.out
  have HL2 := Lib.hid (HL0.out.trans (HB2.out.mono HL0.out.size))
  have HNG := Lib.hid (show bl < w1.heap.size from HB0.out.lt)
  have HZ2 := Lib.hid (show Blk w2 bl (Cm.zero.vs (.slice none 0 0)) 53 from hz2)
  clear hz2 HL0 HB0 HY1 HB2
  generalize w1.heap.size = g at *
  have q1 := num_s HRD.out
  rw [H1.out] at q1
  go_upto_region 3 with (first
    | (go_at_call 73; (with_reducible refine q1.mono ?_); rintro e w3 ⟨rfl, hr3, ho3⟩; have HR3 := Lib.hid hr3; have HO3 := Lib.hid ho3; clear q1 hr3 ho3; have q2 := get_any k HR3.out; rw [H2.out] at q2)
    | (go_at_call 72; (with_reducible refine q2.mono ?_); rintro e w4 ⟨lv, rfl, how, hr4, ho4⟩; have HR4 := Lib.hid hr4; have HO4 := Lib.hid ho4; have HOW := Lib.hid how; clear q2 hr4 ho4; obtain ⟨A1, c1, rfl, _, _⟩ := how.sl.form; clear how
       generalize hV : C.vs (.slice A1 C.doc.ls.length c1) = V
       have HV := Lib.hid hV
       have HV1 := Lib.hid (show V.all (·.oneCell') = true by rw [← hV]; exact cm_one _ _ _ _)
       have HV2 := Lib.hid (show V.size = 22 by rw [← hV]; rfl)
       have HVI := Lib.hid (show (Try.prog.info? 53).map (·.size) = some V.size by rw [HV2.out, cm_info])
       clear hV)
    | ((with_reducible show wpList _ _ _ (⟨none, .store _ _ _, _, _, _, _⟩ :: _) _ _); go_must (refine wpList_store_row rfl 53 (.tmp 5) (.tmp 11) rfl w4.heap.size V rfl rfl 53 _ (heap_alloc_new w4 _) HVI.out (by rw [HV2.out]; rfl) HV1.out ?_)))
  rw [zero_vs]
  have hal := (Below.refl w4.heap.size w4).alloc (Nat.le_refl _) (.cells (Cm.zero.vs (.slice none 0 0)) 53)
  have hbk0 : Blk (w4.alloc (.cells (Cm.zero.vs (.slice none 0 0)) 53)) w4.heap.size (Cm.zero.vs (.slice none 0 0)) 53 := heap_alloc_new w4 _
  have hkr := (hbk0.row V).2
  have hg4 := HR4.out.lt
  have hlw := HL2.out.size
  have hbl := HBL.out
  have hng := HNG.out
  have ho34 : Only g w2 w4 := HO3.out.trans HO4.out
  have hs23 := HO3.out.size
  have hs24 := ho34.size
  have hz4 : Blk w4 bl (Cm.zero.vs (.slice none 0 0)) 53 := ho34.heap HZ2.out (Nat.ne_of_lt HNG.out)
  have hb4 := HL2.out.trans (ho34.toBelow (B := w.heap.size) hlw fun b hb => by omega)
  have HDZ := Lib.hid (show DZ w ((w4.alloc (.cells (Cm.zero.vs (.slice none 0 0)) 53)).setRow w4.heap.size V) g B s2 w4.heap.size bl V (.slice A1 C.doc.ls.length c1) C.doc.ls from
    ⟨(HR4.out.below hal).kept hkr (by omega) (fun x hx => by have := HR4.out.le; omega), (hbk0.row V).1, hkr.heap ((hal.block bl hz4.lt).trans hz4) (by have := hz4.lt; omega),
     ((HOW.out.more (by omega)).below hal).kept hkr (fun g' e => by have := (HOW.out.lt g' e).2; omega), fun e => by have := (HOW.out.lt bl e).1; have := HZ2.out.lt; omega, by omega,
     (hb4.trans (hal.mono hb4.size)).trans (hkr.toBelow (by have := hal.size; have := hb4.size; omega) fun b hb => by have := hb4.size; omega)⟩)
  clear hal hbk0 hkr hg4 hlw hbl hng ho34 hs23 hs24 hz4 hb4 HR3 HO3 HR4 HO4 HOW HRD HL2 HNG HZ2 HBW
  generalize w4.heap.size = b5 at *
  generalize World.setRow _ _ _ = w5 at HDZ ⊢
  have hdn := done_s HDZ.out.rd
  have HZI := Lib.hid (show (Try.prog.info? 53).map (·.size) = some (Cm.zero.vs (.slice none 0 0)).size by rw [cm_size, cm_info])
  have HZ1 := Lib.hid (show (Cm.zero.vs (.slice none 0 0)).all (·.oneCell') = true from cm_one _ _ _ _)
  have HZV := Lib.hid zero_vs
  have H0 := Lib.hid (show w5.heap[bl]? = some (.cells (Cm.zero.vs (.slice none 0 0)) 53 (0, 0)) from HDZ.out.zb)
  have H5 := Lib.hid (show w5.heap[b5]? = some (.cells V 53 (0, 0)) from HDZ.out.bk)
  generalize hZZ : Cm.zero.vs (.slice none 0 0) = ZZ at *
  have HZZ := Lib.hid hZZ
  clear hZZ
  by_cases hs : s2 = some []
  · rw [if_pos hs] at hdn
    have hgd := good_any (w := w5) (v := .agg V) (c := C) ⟨.slice A1 C.doc.ls.length c1, by rw [HV.out], HDZ.out.ow.sl.lns (fun o ho => HOK.out.doc.ls o ho), HOK.out⟩ (Nat.le_refl _) (Nat.le_trans HMA.out (by decide))
    have hD := HD.out
    rw [hs] at hD
    simp only [true_and] at hD
    generalize hG : goodCB C = G at *
    have HD2 := Lib.hid hD
    clear hs hD hG HD
    cases G
    · go_wp2_with (first
        | (go_at_call 74; (with_reducible refine hdn.mono ?_); rintro e w6 ⟨rfl, rfl⟩; clear hdn)
        | ((with_reducible show wpList _ _ _ (⟨some 16, _, _, _, _, _⟩ :: _) _ _); go_must (refine wpList_load_want rfl 53 (.tmp 5) rfl b5 rfl 53 V (0, 0) _ H5.out Try.underlying53 rfl HVI.out ?_))
        | (go_at_call 26; (with_reducible refine hgd.mono ?_); rintro e w7 ⟨rfl, hb7⟩; have HB7 := Lib.hid hb7; clear hgd hb7)
        | ((with_reducible show wpList _ _ _ (⟨none, .store _ _ _, _, _, _, _⟩ :: _) _ _); go_must (refine wpList_store_row rfl 53 (.tmp 2) (.tmp 20) rfl bl ZZ rfl (by rw [← HZZ.out]; rfl) 53 _ ((HDZ.out.below HB7.out).zb) HZI.out (by rw [HZZ.out]) HZ1.out ?_)))
      have HE := (HDZ.out.below HB7.out).fin ZZ
      refine bodyPost_ret (results_row_tmp rfl _ _ bl 53 _ (0, 0) _ _ rfl rfl (setRow_heap _ _ _ _ _ _ ((HDZ.out.below HB7.out).zb)) Try.underlying53 rfl HZI.out) rfl ?_
      rw [HD2.out]
      exact ⟨.slice none 0 0, by rw [← HZZ.out]; rfl, OwN.nil_ _ _ _, HE.2⟩
    · go_wp2_with (first
        | (go_at_call 74; (with_reducible refine hdn.mono ?_); rintro e w6 ⟨rfl, rfl⟩; clear hdn)
        | ((with_reducible show wpList _ _ _ (⟨some 16, _, _, _, _, _⟩ :: _) _ _); go_must (refine wpList_load_want rfl 53 (.tmp 5) rfl b5 rfl 53 V (0, 0) _ H5.out Try.underlying53 rfl HVI.out ?_))
        | (go_at_call 26; (with_reducible refine hgd.mono ?_); rintro e w7 ⟨rfl, hb7⟩; have HB7 := Lib.hid hb7; have H7 := Lib.hid (show w7.heap[b5]? = some (.cells V 53 (0, 0)) from (HDZ.out.below hb7).bk); clear hgd hb7)
        | (with_reducible refine wpList_load_row rfl 53 (.tmp 5) rfl b5 rfl 53 V (0, 0) _ H7.out Try.underlying53 rfl HVI.out ?_)
        | ((with_reducible show wpList _ _ _ (⟨none, .store _ _ _, _, _, _, _⟩ :: _) _ _); go_must (refine wpList_store_row rfl 53 (.tmp 2) (.tmp 21) rfl bl V rfl rfl 53 _ ((HDZ.out.below HB7.out).zb) HVI.out (by rw [HV2.out]; rfl) HV1.out ?_)))
      have HE := (HDZ.out.below HB7.out).fin V
      refine bodyPost_ret (results_row_tmp rfl _ _ bl 53 _ (0, 0) _ _ rfl rfl (setRow_heap _ _ _ _ _ _ ((HDZ.out.below HB7.out).zb)) Try.underlying53 rfl HVI.out) rfl ?_
      rw [HD2.out]
      exact ⟨.slice A1 C.doc.ls.length c1, by rw [← HV.out]; rfl, HE.1, HE.2⟩
  · rw [if_neg hs] at hdn
    have hD := HD.out
    rw [if_neg (fun h => hs h.1)] at hD
    have HD2 := Lib.hid hD
    clear hs hD HD
    go_wp2_with (first
      | (go_at_call 74; (with_reducible refine hdn.mono ?_); rintro e w6 ⟨rfl, rfl⟩; clear hdn)
      | ((with_reducible show wpList _ _ _ (⟨none, .store _ _ _, _, _, _, _⟩ :: _) _ _); go_must (refine wpList_store_row rfl 53 (.tmp 2) (.tmp 20) rfl bl ZZ rfl (by rw [← HZZ.out]; rfl) 53 _ H0.out HZI.out rfl HZ1.out ?_)))
    have HE := HDZ.out.fin ZZ
    refine bodyPost_ret (results_row_tmp rfl _ _ bl 53 _ (0, 0) _ _ rfl rfl (setRow_heap _ _ _ _ _ _ H0.out) Try.underlying53 rfl HZI.out) rfl ?_
    rw [HD2.out]
    exact ⟨.slice none 0 0, by rw [← HZZ.out]; rfl, OwN.nil_ _ _ _, HE.2⟩
end Go.Proofs.Ytnfpmobmfcgfnaa

