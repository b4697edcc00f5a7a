/- WHAT IS GOOD FITS INTO BYTES; A COMMAND's BYTES. -/
import Derived.Test.YtnfpmobmfcgfnaaReK
import Derived.Test.YtnfpmobmfcgfnaaPq
import Derived.Test.YtnfpmobmfcgfnaaPd
import Derived.Test.YtnfpmobmfcgfnaaPe
import Derived.Test.YtnfpmobmfcgfnaaPf
import Derived.Test.YtnfpmobmfcgfnaaReG
import Derived.Test.YtnfpmobmfcgfnaaPg
import Derived.Test.YtnfpmobmfcgfnaaPa
namespace Go.Proofs.Ytnfpmobmfcgfnaa
open Go.RowKit
theorem size_len (s : ByteArray) : s.size = s.data.toList.length := (Array.length_toList).symm
theorem country_len {c : List UInt8} (h : countryL c = true) : c.length = 2 := by
 simp only [countryL, Bool.and_eq_true, decide_eq_true_eq] at h
 exact h.1.1
theorem mems_len : ∀ x ∈ mems, x.length = 2 := by decide
theorem mem_len {c : List UInt8} (h : memB c = true) : c.length = 2 := mems_len c (List.contains_iff_mem.1 h)
theorem cur_len {c : List UInt8} (h : curL c = true) : c.length = 3 := by
 simp only [curL, Bool.and_eq_true, decide_eq_true_eq] at h
 exact h.1.1.1
theorem allFit_len2 : ∀ {f n : List UInt8}, allFit f n = true → n.length = f.length
 | [], [], _ => rfl
 | [], _ :: _, h => by simp [allFit] at h
 | _ :: _, [], h => by simp [allFit] at h
 | f :: fs, b :: bs, h => by
  simp only [allFit, Bool.and_eq_true] at h
  rw [List.length_cons, List.length_cons, allFit_len2 h.2]
theorem tab_len : ∀ p ∈ tab, ∀ f ∈ p.2, f.length ≤ 20 := by decide
theorem lookup_mem {α β : Type} [BEq α] : ∀ {l : List (α × β)} {a : α} {b : β}, l.lookup a = some b → ∃ p ∈ l, p.2 = b
 | [], _, _, h => by cases h
 | (x, y) :: r, a, b, h => by
  rw [List.lookup_cons] at h
  split at h
  ·cases h; exact ⟨(x, y), by simp, rfl⟩
  ·obtain ⟨p, h1, h2⟩ := lookup_mem h
   exact ⟨p, List.mem_cons_of_mem _ h1, h2⟩
theorem forms_len {c n : List UInt8} (h : fitsL (formsT c) n = true) : n.length ≤ 20 := by
 unfold fitsL at h
 obtain ⟨f, hf, hn⟩ := List.any_eq_true.1 h
 rw [allFit_len2 hn]
 unfold formsT at hf
 cases hl : tab.lookup c with
 | none => rw [hl] at hf; simp at hf
 | some x =>
  rw [hl] at hf
  obtain ⟨p, h1, rfl⟩ := lookup_mem hl
  exact tab_len p h1 f hf
theorem right_len {c n : List UInt8} (h : rightL c n = true) : c.length = 2 ∧ n.length ≤ 20 := by
 unfold rightL at h
 rw [Bool.and_eq_true] at h
 refine ⟨country_len h.1, ?_⟩
 have h2 := h.2
 split at h2
 ·exact forms_len h2
 ·simp only [Bool.and_eq_true, decide_eq_true_eq] at h2
  exact h2.1.2
theorem inB_iff2 (n lo hi : Int) : inB n lo hi = true ↔ lo ≤ n ∧ n ≤ hi := by
 simp [inB]
theorem empty_size {s : ByteArray} (h : s.toList.isEmpty = true) : s.size = 0 := by
 rw [ByteArray.toList_eq, List.isEmpty_iff] at h
 rw [size_len, h]; rfl
theorem line_fit {o : Ln} {s : Bool} (h : goodLineB o s = true) : o.fit := by
 unfold goodLineB at h
 simp only [Bool.and_eq_true, inB_iff2] at h
 obtain ⟨⟨⟨⟨h1, h2⟩, h3⟩, _⟩, h5⟩ := h
 have key : (-9223372036854775808 < o.sup ∧ o.sup ≤ 9223372036854775807) ∧ o.fr.size ≤ 65536 ∧ o.tw.size ≤ 65536 ∧ o.pl.size ≤ 65536 := by
  split at h5
  ·simp only [Bool.and_eq_true] at h5
   have := country_len h5.1.1.1
   have := country_len h5.1.1.2
   have := empty_size h5.1.2
   rw [size_len, size_len o.tw]
   exact ⟨by omega, by omega, by omega, by omega⟩
  ·split at h5
   ·simp only [Bool.and_eq_true] at h5
    have := country_len h5.1.1.1
    have := country_len h5.1.1.2
    have := empty_size h5.1.2
    rw [size_len, size_len o.tw]
    exact ⟨by omega, by omega, by omega, by omega⟩
   ·split at h5
    ·simp only [Bool.and_eq_true] at h5
     have := empty_size h5.1.1.1
     have := empty_size h5.1.1.2
     have := country_len h5.2
     rw [size_len o.pl]
     exact ⟨by omega, by omega, by omega, by omega⟩
    ·split at h5
     ·simp only [Bool.and_eq_true] at h5
      have := empty_size h5.1.1.1
      have := empty_size h5.1.1.2
      have := empty_size h5.2
      exact ⟨by omega, by omega, by omega, by omega⟩
     ·cases h5
 exact ⟨key.1, by omega, key.2.1, key.2.2.1, key.2.2.2, by omega, by omega⟩
theorem doc_fit {d : Dm} (h : goodDocB d = true) : d.fit := by
 unfold goodDocB at h
 simp only [Bool.and_eq_true, inB_iff2, decide_eq_true_eq, Bool.or_eq_true] at h
 obtain ⟨⟨⟨⟨⟨⟨⟨⟨h1, h2⟩, _⟩, h4⟩, h5⟩, h6⟩, h7⟩, h8⟩, h9⟩ := h
 have hc := country_len h5
 have hn : d.num.size ≤ 65536 := by
  rcases h7 with h | h
  ·have := empty_size h; omega
  ·have := (right_len h).2; rw [size_len]; omega
 have hu : d.cur.size ≤ 65536 := by
  rcases h8 with h | h
  ·have := empty_size h; omega
  ·have := cur_len h; rw [size_len]; omega
 exact ⟨by omega, by omega, by omega, by rw [size_len]; omega, hn, hu, by omega, fun l hl => line_fit (List.all_eq_true.1 h9 l hl)⟩
structure Cm.fit (c : Cm) : Prop where
 kind : -9223372036854775808 < c.kind ∧ c.kind ≤ 9223372036854775807
 cty : c.cty.size ≤ 65536
 txt : c.txt.size ≤ 65536
 cat : -9223372036854775808 < c.cat ∧ c.cat ≤ 9223372036854775807
 bp : -9223372036854775808 < c.bp ∧ c.bp ≤ 9223372036854775807
 day : -9223372036854775808 < c.day ∧ c.day ≤ 9223372036854775807
 til : -9223372036854775808 < c.til ∧ c.til ≤ 9223372036854775807
 nm : -9223372036854775808 < c.nm ∧ c.nm ≤ 9223372036854775807
 dn : -9223372036854775808 < c.dn ∧ c.dn ≤ 9223372036854775807
 ix : -9223372036854775808 < c.ix ∧ c.ix ≤ 9223372036854775807
 pk : -9223372036854775808 < c.pk ∧ c.pk ≤ 9223372036854775807
 py : -9223372036854775808 < c.py ∧ c.py ≤ 9223372036854775807
 px : -9223372036854775808 < c.px ∧ c.px ≤ 9223372036854775807
 doc : c.kind = 8 → c.doc.fit
theorem per_fit {k y x : Int} (h : perB k y x = true) : (1 ≤ k ∧ k ≤ 3) ∧ (1970 ≤ y ∧ y ≤ 9999) ∧ 1 ≤ x ∧ x ≤ 12 := by
 unfold perB manyK at h
 simp only [Bool.and_eq_true, inB_iff2, decide_eq_true_eq] at h
 obtain ⟨⟨h1, h2⟩, h3⟩ := h
 by_cases h4 : k = 1
 ·rw [if_pos h4] at h3; omega
 by_cases h5 : k = 2
 ·rw [if_neg h4, if_pos h5] at h3; omega
 by_cases h6 : k = 3
 ·rw [if_neg h4, if_neg h5, if_pos h6] at h3; omega
 ·rw [if_neg h4, if_neg h5, if_neg h6] at h3; omega
theorem str_fit {d u : Int} (h : strB d u = true) : (0 ≤ d ∧ d ≤ 2932896) ∧ 0 ≤ u ∧ u ≤ 2932896 := by
 unfold strB at h
 simp only [Bool.and_eq_true, inB_iff2, decide_eq_true_eq] at h
 exact ⟨h.1.1, h.1.2⟩
theorem good_kind {c : Cm} (h : goodCB c = true) : kindB c = true ∧ c = bareC c := by
 unfold goodCB at h
 rw [Bool.and_eq_true, decide_eq_true_eq] at h
 exact ⟨h.2, h.1⟩
theorem good_fit {c : Cm} (h : goodCB c = true) : c.fit := by
 obtain ⟨hk, hb⟩ := good_kind h
 rw [← Cm.eq_iff] at hb
 clear h
 by_cases h1 : c.kind = 1
 ·rw [kindB, if_pos h1] at hk
  simp only [Bool.and_eq_true] at hk
  obtain ⟨⟨q1, q2⟩, q3⟩ := hk
  have t1 := mem_len q1
  rw [inB_iff2] at q2 q3
  rw [bareC, if_pos h1] at hb
  simp only [Cm.zero] at hb
  obtain ⟨b1, b2, b3, b4, b5, b6, b7, b8, b9, b10, b11, b12, b13, b14⟩ := hb
  exact ⟨by omega, by rw [size_len]; omega, by rw [b3]; decide, by omega, by omega, by omega, by omega, by omega, by omega, by omega, by omega, by omega, by omega, fun e => by omega⟩
 by_cases h2 : c.kind = 2
 ·rw [kindB, if_neg (by rw [h2]; decide), if_pos h2] at hk
  simp only [Bool.and_eq_true] at hk
  obtain ⟨⟨⟨q1, q2⟩, q3⟩, q4⟩ := hk
  have t1 := mem_len q1
  have t3 := str_fit q3
  rw [inB_iff2] at q2 q4
  rw [bareC, if_neg (by rw [h2]; decide), if_pos h2] at hb
  simp only [Cm.zero] at hb
  obtain ⟨b1, b2, b3, b4, b5, b6, b7, b8, b9, b10, b11, b12, b13, b14⟩ := hb
  exact ⟨by omega, by rw [size_len]; omega, by rw [b3]; decide, by omega, by omega, by omega, by omega, by omega, by omega, by omega, by omega, by omega, by omega, fun e => by omega⟩
 by_cases h3 : c.kind = 3
 ·rw [kindB, if_neg (by rw [h3]; decide), if_neg (by rw [h3]; decide), if_pos h3] at hk
  have t3 := str_fit hk
  rw [bareC, if_neg (by rw [h3]; decide), if_neg (by rw [h3]; decide), if_pos h3] at hb
  simp only [Cm.zero] at hb
  obtain ⟨b1, b2, b3, b4, b5, b6, b7, b8, b9, b10, b11, b12, b13, b14⟩ := hb
  exact ⟨by omega, by rw [b2]; decide, by rw [b3]; decide, by omega, by omega, by omega, by omega, by omega, by omega, by omega, by omega, by omega, by omega, fun e => by omega⟩
 by_cases h4 : c.kind = 4
 ·rw [kindB, if_neg (by rw [h4]; decide), if_neg (by rw [h4]; decide), if_neg (by rw [h4]; decide), if_pos h4] at hk
  simp only [Bool.and_eq_true] at hk
  obtain ⟨q1, q2⟩ := hk
  have t1 := right_len q1
  have t3 := str_fit q2
  rw [bareC, if_neg (by rw [h4]; decide), if_neg (by rw [h4]; decide), if_neg (by rw [h4]; decide), if_pos h4] at hb
  simp only [Cm.zero] at hb
  obtain ⟨b1, b2, b3, b4, b5, b6, b7, b8, b9, b10, b11, b12, b13, b14⟩ := hb
  exact ⟨by omega, by rw [size_len]; omega, by rw [size_len]; omega, by omega, by omega, by omega, by omega, by omega, by omega, by omega, by omega, by omega, by omega, fun e => by omega⟩
 by_cases h5 : c.kind = 5
 ·rw [kindB, if_neg (by rw [h5]; decide), if_neg (by rw [h5]; decide), if_neg (by rw [h5]; decide), if_neg (by rw [h5]; decide), if_pos h5] at hk
  simp only [Bool.and_eq_true] at hk
  obtain ⟨⟨⟨⟨q1, q2⟩, q3⟩, q4⟩, q5⟩ := hk
  have t1 := cur_len q1
  have t2 := per_fit q2
  rw [inB_iff2] at q4 q5
  rw [bareC, if_neg (by rw [h5]; decide), if_neg (by rw [h5]; decide), if_neg (by rw [h5]; decide), if_neg (by rw [h5]; decide), if_pos h5] at hb
  simp only [Cm.zero] at hb
  obtain ⟨b1, b2, b3, b4, b5, b6, b7, b8, b9, b10, b11, b12, b13, b14⟩ := hb
  exact ⟨by omega, by rw [b2]; decide, by rw [size_len]; omega, by omega, by omega, by omega, by omega, by omega, by omega, by omega, by omega, by omega, by omega, fun e => by omega⟩
 by_cases h6 : c.kind = 6
 ·rw [kindB, if_neg (by rw [h6]; decide), if_neg (by rw [h6]; decide), if_neg (by rw [h6]; decide), if_neg (by rw [h6]; decide), if_neg (by rw [h6]; decide), if_pos h6] at hk
  have t1 := of_decide_eq_true hk
  rw [bareC, if_neg (by rw [h6]; decide), if_neg (by rw [h6]; decide), if_neg (by rw [h6]; decide), if_neg (by rw [h6]; decide), if_neg (by rw [h6]; decide), if_pos h6] at hb
  simp only [Cm.zero] at hb
  obtain ⟨b1, b2, b3, b4, b5, b6, b7, b8, b9, b10, b11, b12, b13, b14⟩ := hb
  exact ⟨by omega, by rw [b2]; decide, t1, by omega, by omega, by omega, by omega, by omega, by omega, by omega, by omega, by omega, by omega, fun e => by omega⟩
 by_cases h7 : c.kind = 7
 ·rw [kindB, if_neg (by rw [h7]; decide), if_neg (by rw [h7]; decide), if_neg (by rw [h7]; decide), if_neg (by rw [h7]; decide), if_neg (by rw [h7]; decide), if_neg (by rw [h7]; decide), if_pos h7] at hk
  simp only [Bool.and_eq_true] at hk
  obtain ⟨⟨q1, q2⟩, q3⟩ := hk
  have t2 := per_fit q1
  rw [inB_iff2] at q3
  rw [bareC, if_neg (by rw [h7]; decide), if_neg (by rw [h7]; decide), if_neg (by rw [h7]; decide), if_neg (by rw [h7]; decide), if_neg (by rw [h7]; decide), if_neg (by rw [h7]; decide), if_pos h7] at hb
  simp only [Cm.zero] at hb
  obtain ⟨b1, b2, b3, b4, b5, b6, b7, b8, b9, b10, b11, b12, b13, b14⟩ := hb
  exact ⟨by omega, by rw [b2]; decide, by rw [b3]; decide, by omega, by omega, by omega, by omega, by omega, by omega, by omega, by omega, by omega, by omega, fun e => by omega⟩
 by_cases h8 : c.kind = 8
 ·rw [kindB, if_neg (by rw [h8]; decide), if_neg (by rw [h8]; decide), if_neg (by rw [h8]; decide), if_neg (by rw [h8]; decide), if_neg (by rw [h8]; decide), if_neg (by rw [h8]; decide), if_neg (by rw [h8]; decide), if_pos h8] at hk
  have t2 := doc_fit hk
  rw [bareC, if_neg (by rw [h8]; decide), if_neg (by rw [h8]; decide), if_neg (by rw [h8]; decide), if_neg (by rw [h8]; decide), if_neg (by rw [h8]; decide), if_neg (by rw [h8]; decide), if_neg (by rw [h8]; decide), if_pos h8] at hb
  simp only [Cm.zero] at hb
  obtain ⟨b1, b2, b3, b4, b5, b6, b7, b8, b9, b10, b11, b12, b13, b14⟩ := hb
  exact ⟨by omega, by rw [b2]; decide, by rw [b3]; decide, by omega, by omega, by omega, by omega, by omega, by omega, by omega, by omega, by omega, by omega, fun _ => t2⟩
 by_cases h9 : c.kind = 9
 ·rw [kindB, if_neg (by rw [h9]; decide), if_neg (by rw [h9]; decide), if_neg (by rw [h9]; decide), if_neg (by rw [h9]; decide), if_neg (by rw [h9]; decide), if_neg (by rw [h9]; decide), if_neg (by rw [h9]; decide), if_neg (by rw [h9]; decide), if_pos (.inl h9)] at hk
  simp only [Bool.and_eq_true] at hk
  obtain ⟨q1, q2⟩ := hk
  have t2 := per_fit q1
  rw [bareC, if_neg (by rw [h9]; decide), if_neg (by rw [h9]; decide), if_neg (by rw [h9]; decide), if_neg (by rw [h9]; decide), if_neg (by rw [h9]; decide), if_neg (by rw [h9]; decide), if_neg (by rw [h9]; decide), if_neg (by rw [h9]; decide), if_pos (.inl h9)] at hb
  simp only [Cm.zero] at hb
  obtain ⟨b1, b2, b3, b4, b5, b6, b7, b8, b9, b10, b11, b12, b13, b14⟩ := hb
  exact ⟨by omega, by rw [b2]; decide, by rw [b3]; decide, by omega, by omega, by omega, by omega, by omega, by omega, by omega, by omega, by omega, by omega, fun e => by omega⟩
 by_cases h10 : c.kind = 10
 ·rw [kindB, if_neg (by rw [h10]; decide), if_neg (by rw [h10]; decide), if_neg (by rw [h10]; decide), if_neg (by rw [h10]; decide), if_neg (by rw [h10]; decide), if_neg (by rw [h10]; decide), if_neg (by rw [h10]; decide), if_neg (by rw [h10]; decide), if_pos (.inr h10)] at hk
  simp only [Bool.and_eq_true] at hk
  obtain ⟨q1, q2⟩ := hk
  have t2 := per_fit q1
  rw [bareC, if_neg (by rw [h10]; decide), if_neg (by rw [h10]; decide), if_neg (by rw [h10]; decide), if_neg (by rw [h10]; decide), if_neg (by rw [h10]; decide), if_neg (by rw [h10]; decide), if_neg (by rw [h10]; decide), if_neg (by rw [h10]; decide), if_pos (.inr (.inl h10))] at hb
  simp only [Cm.zero] at hb
  obtain ⟨b1, b2, b3, b4, b5, b6, b7, b8, b9, b10, b11, b12, b13, b14⟩ := hb
  exact ⟨by omega, by rw [b2]; decide, by rw [b3]; decide, by omega, by omega, by omega, by omega, by omega, by omega, by omega, by omega, by omega, by omega, fun e => by omega⟩
 by_cases h11 : c.kind = 11
 ·rw [kindB, if_neg (by rw [h11]; decide), if_neg (by rw [h11]; decide), if_neg (by rw [h11]; decide), if_neg (by rw [h11]; decide), if_neg (by rw [h11]; decide), if_neg (by rw [h11]; decide), if_neg (by rw [h11]; decide), if_neg (by rw [h11]; decide), if_neg (by rw [h11]; decide), if_pos h11] at hk
  simp only [Bool.and_eq_true] at hk
  obtain ⟨q1, q2⟩ := hk
  have t2 := per_fit q1
  rw [bareC, if_neg (by rw [h11]; decide), if_neg (by rw [h11]; decide), if_neg (by rw [h11]; decide), if_neg (by rw [h11]; decide), if_neg (by rw [h11]; decide), if_neg (by rw [h11]; decide), if_neg (by rw [h11]; decide), if_neg (by rw [h11]; decide), if_pos (.inr (.inr h11))] at hb
  simp only [Cm.zero] at hb
  obtain ⟨b1, b2, b3, b4, b5, b6, b7, b8, b9, b10, b11, b12, b13, b14⟩ := hb
  exact ⟨by omega, by rw [b2]; decide, by rw [b3]; decide, by omega, by omega, by omega, by omega, by omega, by omega, by omega, by omega, by omega, by omega, fun e => by omega⟩
 ·unfold kindB at hk
  simp [h1, h2, h3, h4, h5, h6, h7, h8, h9, h10, h11] at hk
/-- what stands behind the kind -/
def bodyL (c : Cm) : List UInt8 :=
 if c.kind = 1 then ([textL c.cty, numL c.ix, numL c.day] : List (List UInt8)).flatten
 else if c.kind = 2 then ([textL c.cty, numL c.cat, numL c.day, numL c.til, numL c.bp] : List (List UInt8)).flatten
 else if c.kind = 3 then ([numL c.day, numL c.til] : List (List UInt8)).flatten
 else if c.kind = 4 then ([textL c.cty, textL c.txt, numL c.day, numL c.til] : List (List UInt8)).flatten
 else if c.kind = 5 then ([textL c.txt, numL c.py, numL c.px, numL c.nm, numL c.dn] : List (List UInt8)).flatten
 else if c.kind = 6 then ([textL c.txt] : List (List UInt8)).flatten
 else if c.kind = 7 then ([numL c.py, numL c.nm] : List (List UInt8)).flatten
 else if c.kind = 8 then docL c.doc
 else if c.kind = 9 ∨ c.kind = 10 then ([numL c.pk, numL c.py, numL c.px] : List (List UInt8)).flatten
 else if c.kind = 11 then ([numL c.py] : List (List UInt8)).flatten
 else []
def encL (c : Cm) : List UInt8 := numL c.kind ++ bodyL c
end Go.Proofs.Ytnfpmobmfcgfnaa

/- THE TWO READERS AS ONE: what is read, plainly. -/
namespace Go.Proofs.Ytnfpmobmfcgfnaa
open Go.RowKit
/-- a reader: what is left, or bad -/
abbrev RS := Option (List UInt8)
def stepS {α : Type} (f : List UInt8 → Option (α × List UInt8)) (z : α) (s : RS) : α × RS :=
 match s with
 | none => (z, none)
 | some l => match f l with
  | some (x, t) => (x, some t)
  | none => (z, none)
def numS : RS → Int × RS := stepS rdNum 0
def textS : RS → ByteArray × RS := stepS rdText ⟨#[]⟩
def flagS : RS → Bool × RS := stepS rdFlag false
def RdS (w : World) (g B : Nat) (s : RS) : Prop :=
 match s with
 | some l => ∃ v, Rd w g B l false v
 | none => ∃ l v, Rd w g B l true v
def QdS (w : World) (g B : Nat) (A : Option Addr) (c : Nat) (L : List UInt8) (s : RS) : Prop :=
 match s with
 | some l => ∃ p, L.drop p = l ∧ Rr w g B A c L p false
 | none => ∃ p, Rr w g B A c L p true
theorem rpost_s {α : Type} {val : α → Value} {z : α} {f : List UInt8 → Option (α × List UInt8)} {w w' : World} {g B : Nat} {e : Ending} {bad : Bool} {l : List UInt8} {s : RS} (hs : s = if bad then none else some l) (h : RPost val z w g B bad (f l) e w') :
  e = .returned (val (stepS f z s).1) ∧ RdS w' g B (stepS f z s).2 ∧ Only g w w' := by
 subst hs
 cases bad
 ·simp only [Bool.false_eq_true, if_false, stepS]
  unfold RPost at h
  cases hf : f l with
  | none =>
   rw [hf] at h
   obtain ⟨l', v', h1, h2, h3⟩ := h
   exact ⟨h1, ⟨l', v', h2⟩, h3⟩
  | some p =>
   obtain ⟨x, t⟩ := p
   rw [hf] at h
   obtain ⟨v', h1, h2, h3⟩ := h
   exact ⟨h1, ⟨v', h2⟩, h3⟩
 ·simp only [if_true, stepS]
  unfold RPost at h
  obtain ⟨l', v', h1, h2, h3⟩ := h
  exact ⟨h1, ⟨l', v', h2⟩, h3⟩
theorem qpost_s {α : Type} {val : α → Value} {z : α} {f : List UInt8 → Option (α × List UInt8)} {w w' : World} {g B : Nat} {A : Option Addr} {c : Nat} {L : List UInt8} {e : Ending} {bad : Bool} {p : Nat} {s : RS} (hs : s = if bad then none else some (L.drop p)) (h : QPost val z w g B A c L bad (f (L.drop p)) e w') :
  e = .returned (val (stepS f z s).1) ∧ QdS w' g B A c L (stepS f z s).2 ∧ Only g w w' := by
 subst hs
 cases bad
 ·simp only [Bool.false_eq_true, if_false, stepS]
  unfold QPost at h
  cases hf : f (L.drop p) with
  | none =>
   rw [hf] at h
   obtain ⟨p', h1, h2, h3⟩ := h
   exact ⟨h1, ⟨p', h2⟩, h3⟩
  | some q =>
   obtain ⟨x, t⟩ := q
   rw [hf] at h
   obtain ⟨p', h1, h2, h3, h4⟩ := h
   exact ⟨h1, ⟨p', h2, h3⟩, h4⟩
 ·simp only [if_true, stepS]
  unfold QPost at h
  obtain ⟨p', h1, h2, h3⟩ := h
  exact ⟨h1, ⟨p', h2⟩, h3⟩
section
variable {w : World} {g B : Nat} {s : RS}
theorem num_s (h : RdS w g B s) : Calls Try.prog 73 #[.pointer (some ⟨g, 0, none⟩)] w fun e w' => e = .returned (.int .i64 (numS s).1) ∧ RdS w' g B (numS s).2 ∧ Only g w w' := by
 cases s with
 | none => obtain ⟨l, v, h⟩ := h; exact (mNum_any h).mono fun e w' h => rpost_s (val := fun n : Int => .int .i64 n) rfl h
 | some l => obtain ⟨v, h⟩ := h; exact (mNum_any h).mono fun e w' h => rpost_s (val := fun n : Int => .int .i64 n) rfl h
theorem text_s (h : RdS w g B s) : Calls Try.prog 100 #[.pointer (some ⟨g, 0, none⟩)] w fun e w' => e = .returned (.string (textS s).1) ∧ RdS w' g B (textS s).2 ∧ Only g w w' := by
 cases s with
 | none => obtain ⟨l, v, h⟩ := h; exact (mText_any h).mono fun e w' h => rpost_s (val := fun s : ByteArray => .string s) rfl h
 | some l => obtain ⟨v, h⟩ := h; exact (mText_any h).mono fun e w' h => rpost_s (val := fun s : ByteArray => .string s) rfl h
theorem flag_s (h : RdS w g B s) : Calls Try.prog 116 #[.pointer (some ⟨g, 0, none⟩)] w fun e w' => e = .returned (.bool (flagS s).1) ∧ RdS w' g B (flagS s).2 ∧ Only g w w' := by
 cases s with
 | none => obtain ⟨l, v, h⟩ := h; exact (mFlag_any h).mono fun e w' h => rpost_s (val := fun b : Bool => .bool b) rfl h
 | some l => obtain ⟨v, h⟩ := h; exact (mFlag_any h).mono fun e w' h => rpost_s (val := fun b : Bool => .bool b) rfl h
variable {A : Option Addr} {c : Nat} {L : List UInt8}
theorem qnum_s (h : QdS w g B A c L s) : Calls Try.prog 105 #[.pointer (some ⟨g, 0, none⟩)] w fun e w' => e = .returned (.int .i64 (numS s).1) ∧ QdS w' g B A c L (numS s).2 ∧ Only g w w' := by
 cases s with
 | none => obtain ⟨p, h⟩ := h; exact (qnum_any h).mono fun e w' h => qpost_s (val := fun n : Int => .int .i64 n) rfl h
 | some l => obtain ⟨p, rfl, h⟩ := h; exact (qnum_any h).mono fun e w' h => qpost_s (val := fun n : Int => .int .i64 n) rfl h
theorem qtext_s (h : QdS w g B A c L s) : Calls Try.prog 106 #[.pointer (some ⟨g, 0, none⟩)] w fun e w' => e = .returned (.string (textS s).1) ∧ QdS w' g B A c L (textS s).2 ∧ Only g w w' := by
 cases s with
 | none => obtain ⟨p, h⟩ := h; exact (qtext_any h).mono fun e w' h => qpost_s (val := fun s : ByteArray => .string s) rfl h
 | some l => obtain ⟨p, rfl, h⟩ := h; exact (qtext_any h).mono fun e w' h => qpost_s (val := fun s : ByteArray => .string s) rfl h
theorem qflag_s (h : QdS w g B A c L s) : Calls Try.prog 121 #[.pointer (some ⟨g, 0, none⟩)] w fun e w' => e = .returned (.bool (flagS s).1) ∧ QdS w' g B A c L (flagS s).2 ∧ Only g w w' := by
 cases s with
 | none => obtain ⟨p, h⟩ := h; exact (qflag_any h).mono fun e w' h => qpost_s (val := fun b : Bool => .bool b) rfl h
 | some l => obtain ⟨p, rfl, h⟩ := h; exact (qflag_any h).mono fun e w' h => qpost_s (val := fun b : Bool => .bool b) rfl h
end
/-- a line, read -/
def lineS (s : RS) : Ln × RS :=
 let a := numS s; let b := numS a.2; let c := textS b.2; let d := textS c.2; let e := textS d.2; let f := numS e.2; let g := flagS f.2; let h := numS g.2; let i := flagS h.2
 (⟨a.1, b.1, c.1, d.1, e.1, f.1, g.1, h.1, i.1⟩, i.2)
def linesS : Nat → RS → List Ln × RS
 | 0, s => ([], s)
 | n + 1, s => let a := lineS s; let b := linesS n a.2; (a.1 :: b.1, b.2)
/-- the document's head, and how many lines are told -/
def headS (s : RS) : Dm × Int × RS :=
 let a := textS s; let b := flagS a.2; let c := flagS b.2; let d := textS c.2; let e := numS d.2; let f := textS e.2; let g := textS f.2; let h := textS g.2; let i := numS h.2
 (⟨a.1, b.1, c.1, d.1, e.1, f.1, g.1, h.1, []⟩, i.1, i.2)
def getDocS (s : RS) : Dm × RS :=
 let h := headS s
 if inB h.2.1 1 64 = true then let b := linesS h.2.1.toNat h.2.2; ({ h.1 with ls := b.1 }, b.2) else (h.1, h.2.2)
/-- the reference's lines: as long as it isn't bad, and not more than 65 -/
def rlinesS : Nat → Int → Nat → RS → List Ln × RS
 | 0, _, _, s => ([], s)
 | k + 1, n, i, s => if (decide ((i : Int) < n) && s.isSome && decide (i ≤ 64)) = true then let a := lineS s; let b := rlinesS k n (i + 1) a.2; (a.1 :: b.1, b.2) else ([], s)
def readDocS (s : RS) : Dm × RS :=
 let h := headS s
 let b := rlinesS 65 h.2.1 0 h.2.2
 ({ h.1 with ls := b.1 }, b.2)
/- what is written is read -/
theorem numS_app (n : Int) (h : -9223372036854775808 < n ∧ n ≤ 9223372036854775807) (t : List UInt8) : numS (some (numL n ++ t)) = (n, some t) := by
 simp only [numS, stepS, rd_num n h.1 h.2 t]
theorem textS_app (s : ByteArray) (h : s.size ≤ 65536) (t : List UInt8) : textS (some (textL s ++ t)) = (s, some t) := by
 simp only [textS, stepS, rd_text s h t]
theorem flagS_app (b : Bool) (t : List UInt8) : flagS (some (flagL b ++ t)) = (b, some t) := by
 simp only [flagS, stepS, rd_flag b t]
theorem lineS_app {o : Ln} (h : o.fit) (t : List UInt8) : lineS (some (lineL o ++ t)) = (o, some t) := by
 simp only [lineL, lineB, List.flatten_cons, List.flatten_nil, List.append_nil, List.append_assoc]
 simp only [lineS, numS_app _ h.sup, numS_app _ h.cat, textS_app _ h.fr, textS_app _ h.tw, textS_app _ h.pl, numS_app _ h.am, flagS_app, numS_app _ h.co]
theorem linesS_app : ∀ {ls : List Ln}, (∀ l ∈ ls, l.fit) → ∀ t, linesS ls.length (some (linesL ls ++ t)) = (ls, some t)
 | [], _, t => rfl
 | x :: r, h, t => by
  have e : linesL (x :: r) ++ t = lineL x ++ (linesL r ++ t) := by simp [linesL]
  rw [e, List.length_cons, linesS, lineS_app (h x (by simp)), linesS_app (ls := r) (fun l hl => h l (List.mem_cons_of_mem _ hl))]
theorem headS_app {d : Dm} (h : d.fit) (t : List UInt8) : headS (some ((docB d).flatten ++ t)) = ({ d with ls := [] }, (d.ls.length : Int), some t) := by
 simp only [docB, List.flatten_cons, List.flatten_nil, List.append_nil, List.append_assoc]
 simp only [headS, textS_app _ h.id, flagS_app, textS_app _ h.ref, numS_app _ h.day, textS_app _ h.cty, textS_app _ h.num, textS_app _ h.cur, numS_app (d.ls.length : Int) ⟨by omega, by have := h.many; omega⟩]
theorem getDocS_app {d : Dm} (h : d.fit) (hm : 1 ≤ d.ls.length ∧ d.ls.length ≤ 64) (t : List UInt8) : getDocS (some (docL d ++ t)) = (d, some t) := by
 have e : docL d ++ t = (docB d).flatten ++ (linesL d.ls ++ t) := by simp [docL]
 have hi : inB (d.ls.length : Int) 1 64 = true := (inB_iff2 _ _ _).2 ⟨by omega, by omega⟩
 rw [e]
 simp only [getDocS, headS_app h, hi, if_true, Int.toNat_natCast, linesS_app h.ls]
theorem rlinesS_app : ∀ {ls : List Ln} (k i : Nat) (n : Int), (∀ l ∈ ls, l.fit) → n = (i : Int) + (ls.length : Int) → ls.length < k → i + ls.length ≤ 64 → ∀ t, rlinesS k n i (some (linesL ls ++ t)) = (ls, some t)
 | [], 0, _, _, _, _, h, _, _ => by simp at h
 | [], k + 1, i, n, _, hn, _, _, t => by
  have : ¬ ((i : Int) < n) := by simp at hn; omega
  simp [rlinesS, linesL, this]
 | x :: r, 0, _, _, _, _, h, _, _ => by simp at h
 | x :: r, k + 1, i, n, h, hn, hk, h64, t => by
  have e : linesL (x :: r) ++ t = lineL x ++ (linesL r ++ t) := by simp [linesL]
  rw [List.length_cons] at hn hk h64
  have h1 : (decide ((i : Int) < n) && (some (lineL x ++ (linesL r ++ t))).isSome && decide (i ≤ 64)) = true := by
   simp
   exact ⟨by omega, by omega⟩
  have h2 := rlinesS_app (ls := r) k (i + 1) n (fun l hl => h l (List.mem_cons_of_mem _ hl)) (by omega) (by omega) (by omega) t
  rw [e, rlinesS, if_pos h1, lineS_app (h x (by simp))]
  simp only [h2]
theorem readDocS_app {d : Dm} (h : d.fit) (hm : d.ls.length ≤ 64) (t : List UInt8) : readDocS (some (docL d ++ t)) = (d, some t) := by
 have e : docL d ++ t = (docB d).flatten ++ (linesL d.ls ++ t) := by simp [docL]
 rw [e]
 simp only [readDocS, headS_app h, rlinesS_app 65 0 (d.ls.length : Int) h.ls (by omega) (by omega) (by omega)]
/- what is read is what would be written -/
theorem numS_back {s : RS} {t : List UInt8} (h : (numS s).2 = some t) : s = some (numL (numS s).1 ++ t) := by
 cases s with
 | none => cases h
 | some l =>
  simp only [numS, stepS] at *
  cases hf : rdNum l with
  | none => rw [hf] at h; cases h
  | some p => obtain ⟨x, u⟩ := p; rw [hf] at h; cases h; rw [rd_num_back hf]
theorem textS_back {s : RS} {t : List UInt8} (h : (textS s).2 = some t) : s = some (textL (textS s).1 ++ t) := by
 cases s with
 | none => cases h
 | some l =>
  simp only [textS, stepS] at *
  cases hf : rdText l with
  | none => rw [hf] at h; cases h
  | some p => obtain ⟨x, u⟩ := p; rw [hf] at h; cases h; rw [(rd_text_back hf).1]
theorem flagS_back {s : RS} {t : List UInt8} (h : (flagS s).2 = some t) : s = some (flagL (flagS s).1 ++ t) := by
 cases s with
 | none => cases h
 | some l =>
  simp only [flagS, stepS] at *
  cases hf : rdFlag l with
  | none => rw [hf] at h; cases h
  | some p => obtain ⟨x, u⟩ := p; rw [hf] at h; cases h; rw [rd_flag_back hf]
end Go.Proofs.Ytnfpmobmfcgfnaa

/- THE WALK OF record.getLine (printed by gen/gengln.py). -/
namespace Go.Proofs.Ytnfpmobmfcgfnaa
open Go.RowKit
theorem RdS.kept {w w' : World} {g B : Nat} {s : RS} {S : Nat → Prop} (h : RdS w g B s) (k : Kept S w w') (hg : S g) (hs : ∀ b, b < B → S b) : RdS w' g B s := by
 cases s with
 | none => obtain ⟨l, v, h⟩ := h; exact ⟨l, v, h.kept k hg hs⟩
 | some l => obtain ⟨v, h⟩ := h; exact ⟨v, h.kept k hg hs⟩
theorem RdS.below {w w' : World} {g B : Nat} {s : RS} (h : RdS w g B s) (k : Below w.heap.size w w') : RdS w' g B s := h.kept (S := fun _ => True) (Kept.ofBelow k) trivial fun _ _ => trivial
theorem RdS.lt {w : World} {g B : Nat} {s : RS} (h : RdS w g B s) : g < w.heap.size := by
 cases s with
 | none => obtain ⟨l, v, h⟩ := h; exact h.lt
 | some l => obtain ⟨v, h⟩ := h; exact h.lt
theorem RdS.le {w : World} {g B : Nat} {s : RS} (h : RdS w g B s) : B ≤ g := by
 cases s with
 | none => obtain ⟨l, v, h⟩ := h; exact h.le
 | some l => obtain ⟨v, h⟩ := h; exact h.le
theorem LBlk.set {w : World} {b : Nat} {o o' : Ln} (h : LBlk w b o) (i : Nat) (v : Value) (he : o.vs.setIfInBounds i v = o'.vs) : LBlk (w.setCell ⟨b, i, none⟩ v) b o' ∧ Kept (fun x => x ≠ b) w (w.setCell ⟨b, i, none⟩ v) := by
 have := Lib.heap_setCell_same (i := i) h v
 rw [he] at this
 exact ⟨this, (Kept.refl _ w).setCell _ _ (fun _ h => h rfl)⟩
theorem LBlk.free {w : World} {b : Nat} {o : Ln} (h : LBlk w b o) (i : Nat) : w.frozen? ⟨b, i, none⟩ = false := free_of h i
theorem Only.trans' {w0 w w' : World} {g b : Nat} (h : Only g w0 w) (k : Kept (fun x => x ≠ b) w w') (hb : w0.heap.size ≤ b) : Only g w0 w' :=
 ⟨k.os.trans h.os, k.tape.trans h.tape, k.output.trans h.output, Nat.le_trans h.size k.size, fun x hx hne => (k.block x (Nat.lt_of_lt_of_le hx h.size) (by omega)).trans (h.block x hx hne)⟩
/-- a reader and a line, on their way -/
structure LR (w0 : World) (g B : Nat) (s : RS) (b : Nat) (o : Ln) (w : World) : Prop where
 rd : RdS w g B s
 ln : LBlk w b o
 on : Only g w0 w
 bg : w0.heap.size ≤ b
theorem LR.call {w0 w w' : World} {g B b : Nat} {s s' : RS} {o : Ln} (h : LR w0 g B s b o w) (hg : g < w0.heap.size) (hr : RdS w' g B s') (ho : Only g w w') : LR w0 g B s' b o w' :=
 ⟨hr, ho.heap h.ln (by have := h.bg; omega), h.on.trans ho, h.bg⟩
theorem LR.set {w0 w : World} {g B b : Nat} {s : RS} {o o' : Ln} (h : LR w0 g B s b o w) (hg : g < w0.heap.size) (i : Nat) (v : Value) (he : o.vs.setIfInBounds i v = o'.vs) : LR w0 g B s b o' (w.setCell ⟨b, i, none⟩ v) := by
 obtain ⟨h1, h2⟩ := h.ln.set i v he
 have hbg := h.bg
 have hle := h.rd.le
 exact ⟨h.rd.kept h2 (by omega) (fun x hx => by omega), h1, h.on.trans' h2 hbg, hbg⟩
set_option maxRecDepth 100000 in
set_option maxHeartbeats 16000000 in
theorem getline_any {w : World} {g B : Nat} {s : RS} (h : RdS w g B s) : Calls Try.prog 117 #[.pointer (some ⟨g, 0, none⟩)] w fun e w' => e = .returned (.agg (lineS s).1.vs) ∧ RdS w' g B (lineS s).2 ∧ Only g w w' := by
 obtain ⟨a1, s1, h1⟩ : ∃ a t, numS s = (a, t) := ⟨_, _, rfl⟩
 obtain ⟨a2, s2, h2⟩ : ∃ a t, numS s1 = (a, t) := ⟨_, _, rfl⟩
 obtain ⟨a3, s3, h3⟩ : ∃ a t, textS s2 = (a, t) := ⟨_, _, rfl⟩
 obtain ⟨a4, s4, h4⟩ : ∃ a t, textS s3 = (a, t) := ⟨_, _, rfl⟩
 obtain ⟨a5, s5, h5⟩ : ∃ a t, textS s4 = (a, t) := ⟨_, _, rfl⟩
 obtain ⟨a6, s6, h6⟩ : ∃ a t, numS s5 = (a, t) := ⟨_, _, rfl⟩
 obtain ⟨a7, s7, h7⟩ : ∃ a t, flagS s6 = (a, t) := ⟨_, _, rfl⟩
 obtain ⟨a8, s8, h8⟩ : ∃ a t, numS s7 = (a, t) := ⟨_, _, rfl⟩
 obtain ⟨a9, s9, h9⟩ : ∃ a t, flagS s8 = (a, t) := ⟨_, _, rfl⟩
 have hl : lineS s = (⟨a1, a2, a3, a4, a5, a6, a7, a8, a9⟩, s9) := by simp only [lineS, h1, h2, h3, h4, h5, h6, h7, h8, h9]
 rw [hl]
 have hal := (Below.refl w.heap.size w).alloc (Nat.le_refl _) (.cells Ln.zero.vs 55)
 have HR0 := Lib.hid (show LR w g B s w.heap.size Ln.zero (w.alloc (.cells Ln.zero.vs 55)) from ⟨h.below hal, heap_alloc_new w (.cells Ln.zero.vs 55 (0, 0)), Kept.ofBelow hal, Nat.le_refl _⟩)
 have HGL := Lib.hid h.lt
 have H1 := Lib.hid h1
 have H2 := Lib.hid h2
 have H3 := Lib.hid h3
 have H4 := Lib.hid h4
 have H5 := Lib.hid h5
 have H6 := Lib.hid h6
 have H7 := Lib.hid h7
 have H8 := Lib.hid h8
 have H9 := Lib.hid h9
 clear h h1 h2 h3 h4 h5 h6 h7 h8 h9 hl hal
 simp only [Ln.zero, Ln.vs] at HR0
 go_enter Try.func117, Try.ntmps117
 go_upto_region 2 with fail
 generalize World.alloc w _ = w1 at *
 generalize hbl : w.heap.size = bl at HR0 ⊢
 have HBL := Lib.hid hbl
 clear hbl
 have HR0 := Lib.hid (show LR w g B s bl Ln.zero w1 from HR0.out)
 have q1 := num_s HR0.out.rd
 rw [H1.out] at q1
 go_upto_region 3 with (first
  | (go_at_call 73; (with_reducible refine q1.mono ?_); rintro e x1 ⟨rfl, hrx, hox⟩; have HC1 := Lib.hid (HR0.out.call HGL.out hrx hox); clear q1 hrx hox; have q2 := num_s HC1.out.rd; rw [H2.out] at q2)
  | (go_at_call 73; (with_reducible refine q2.mono ?_); rintro e x2 ⟨rfl, hrx, hox⟩; have HC2 := Lib.hid (HC1.out.call HGL.out hrx hox); clear q2 hrx hox; have y0 := (show LnAt _ ⟨bl, 0, none⟩ _ from LBlk.at_ HC2.out.ln).c0; have k0 := HC2.out.ln.free 0; have y1 := (show LnAt _ ⟨bl, 0, none⟩ _ from LBlk.at_ HC2.out.ln).c1; have k1 := HC2.out.ln.free 1))
 have hs1 := HC2.out.set HGL.out 0 (.int .i64 a1) (o' := { Ln.zero with sup := a1 }) rfl
 have hs2 := hs1.set HGL.out 1 (.int .i64 a2) (o' := { Ln.zero with sup := a1, cat := a2 }) rfl
 have HR2 := Lib.hid hs2
 clear hs1 hs2 HC1 HC2 y0 y1 k0 k1
 generalize World.setCell _ _ _ = w2 at HR2 ⊢
 have q3 := text_s HR2.out.rd
 rw [H3.out] at q3
 go_upto_region 4 with (first
  | (go_at_call 100; (with_reducible refine q3.mono ?_); rintro e x3 ⟨rfl, hrx, hox⟩; have HC3 := Lib.hid (HR2.out.call HGL.out hrx hox); clear q3 hrx hox; have q4 := text_s HC3.out.rd; rw [H4.out] at q4)
  | (go_at_call 100; (with_reducible refine q4.mono ?_); rintro e x4 ⟨rfl, hrx, hox⟩; have HC4 := Lib.hid (HC3.out.call HGL.out hrx hox); clear q4 hrx hox; have q5 := text_s HC4.out.rd; rw [H5.out] at q5)
  | (go_at_call 100; (with_reducible refine q5.mono ?_); rintro e x5 ⟨rfl, hrx, hox⟩; have HC5 := Lib.hid (HC4.out.call HGL.out hrx hox); clear q5 hrx hox; have y2 := (show LnAt _ ⟨bl, 0, none⟩ _ from LBlk.at_ HC5.out.ln).c2; have k2 := HC5.out.ln.free 2; have y3 := (show LnAt _ ⟨bl, 0, none⟩ _ from LBlk.at_ HC5.out.ln).c3; have k3 := HC5.out.ln.free 3; have y4 := (show LnAt _ ⟨bl, 0, none⟩ _ from LBlk.at_ HC5.out.ln).c4; have k4 := HC5.out.ln.free 4))
 have hs3 := HC5.out.set HGL.out 2 (.string a3) (o' := { Ln.zero with sup := a1, cat := a2, fr := a3 }) rfl
 have hs4 := hs3.set HGL.out 3 (.string a4) (o' := { Ln.zero with sup := a1, cat := a2, fr := a3, tw := a4 }) rfl
 have hs5 := hs4.set HGL.out 4 (.string a5) (o' := { Ln.zero with sup := a1, cat := a2, fr := a3, tw := a4, pl := a5 }) rfl
 have HR5 := Lib.hid hs5
 clear hs3 hs4 hs5 HC3 HC4 HC5 y2 y3 y4 k2 k3 k4
 generalize World.setCell _ _ _ = w3 at HR5 ⊢
 have q6 := num_s HR5.out.rd
 rw [H6.out] at q6
 go_upto_region 5 with (first
  | (go_at_call 73; (with_reducible refine q6.mono ?_); rintro e x6 ⟨rfl, hrx, hox⟩; have HC6 := Lib.hid (HR5.out.call HGL.out hrx hox); clear q6 hrx hox; have y5 := (show LnAt _ ⟨bl, 0, none⟩ _ from LBlk.at_ HC6.out.ln).c5; have k5 := HC6.out.ln.free 5))
 have hs6 := HC6.out.set HGL.out 5 (.int .i64 a6) (o' := { Ln.zero with sup := a1, cat := a2, fr := a3, tw := a4, pl := a5, am := a6 }) rfl
 have HR6 := Lib.hid hs6
 clear hs6 HC6 y5 k5
 generalize World.setCell _ _ _ = w4 at HR6 ⊢
 have q7 := flag_s HR6.out.rd
 rw [H7.out] at q7
 go_upto_region 6 with (first
  | (go_at_call 116; (with_reducible refine q7.mono ?_); rintro e x7 ⟨rfl, hrx, hox⟩; have HC7 := Lib.hid (HR6.out.call HGL.out hrx hox); clear q7 hrx hox; have y6 := (show LnAt _ ⟨bl, 0, none⟩ _ from LBlk.at_ HC7.out.ln).c6; have k6 := HC7.out.ln.free 6))
 have hs7 := HC7.out.set HGL.out 6 (.bool a7) (o' := { Ln.zero with sup := a1, cat := a2, fr := a3, tw := a4, pl := a5, am := a6, gr := a7 }) rfl
 have HR7 := Lib.hid hs7
 clear hs7 HC7 y6 k6
 generalize World.setCell _ _ _ = w5 at HR7 ⊢
 have q8 := num_s HR7.out.rd
 rw [H8.out] at q8
 go_upto_region 7 with (first
  | (go_at_call 73; (with_reducible refine q8.mono ?_); rintro e x8 ⟨rfl, hrx, hox⟩; have HC8 := Lib.hid (HR7.out.call HGL.out hrx hox); clear q8 hrx hox; have y7 := (show LnAt _ ⟨bl, 0, none⟩ _ from LBlk.at_ HC8.out.ln).c7; have k7 := HC8.out.ln.free 7))
 have hs8 := HC8.out.set HGL.out 7 (.int .i64 a8) (o' := { Ln.zero with sup := a1, cat := a2, fr := a3, tw := a4, pl := a5, am := a6, gr := a7, co := a8 }) rfl
 have HR8 := Lib.hid hs8
 clear hs8 HC8 y7 k7
 generalize World.setCell _ _ _ = w6 at HR8 ⊢
 have q9 := flag_s HR8.out.rd
 rw [H9.out] at q9
 go_upto_region 8 with (first
  | (go_at_call 116; (with_reducible refine q9.mono ?_); rintro e x9 ⟨rfl, hrx, hox⟩; have HC9 := Lib.hid (HR8.out.call HGL.out hrx hox); clear q9 hrx hox; have y8 := (show LnAt _ ⟨bl, 0, none⟩ _ from LBlk.at_ HC9.out.ln).c8; have k8 := HC9.out.ln.free 8))
 have hs9 := HC9.out.set HGL.out 8 (.bool a9) (o' := { Ln.zero with sup := a1, cat := a2, fr := a3, tw := a4, pl := a5, am := a6, gr := a7, co := a8, mx := a9 }) rfl
 have HR9 := Lib.hid hs9
 clear hs9 HC9 y8 k8
 generalize World.setCell _ _ _ = w7 at HR9 ⊢
 have HZ := Lib.hid (show LR w g B s9 bl ⟨a1, a2, a3, a4, a5, a6, a7, a8, a9⟩ w7 from HR9.out)
 clear HR9
 generalize hV : Ln.vs ⟨a1, a2, a3, a4, a5, a6, a7, a8, a9⟩ = V
 have HL1 := Lib.hid (show w7.heap[bl]? = some (.cells V 55 (0, 0)) by rw [← hV]; exact HZ.out.ln)
 have HL2 := Lib.hid (show V.all (·.oneCell') = true by rw [← hV]; simp [Ln.vs, Value.oneCell'])
 have HL3 := Lib.hid (show V.size = 9 by rw [← hV]; rfl)
 have HL4 := Lib.hid (show (Try.prog.info? 55).map (·.size) = some V.size by rw [HL3.out]; kernel_rfl)
 have HV := Lib.hid hV
 clear hV
 go_wp2_with (first
  | (with_reducible refine wpList_load_row rfl 55 (.tmp 2) rfl bl rfl 55 V (0, 0) _ HL1.out Try.underlying55 rfl HL4.out ?_)
  | ((with_reducible show wpList _ _ _ (⟨none, .store _ _ _, _, _, _, _⟩ :: _) _ _); go_must (refine wpList_store_row rfl 55 (.tmp 2) (.tmp 39) rfl bl V rfl rfl 55 _ HL1.out HL4.out rfl HL2.out ?_)))
 have hk : Kept (fun x => x ≠ bl) w7 (w7.setRow bl V) := ⟨rfl, rfl, rfl, by simp [World.setRow], fun k _ hne => setRow_other w7 bl k _ hne⟩
 have hbg := HZ.out.bg
 have hle := HZ.out.rd.le
 have hlt := HGL.out
 exact bodyPost_ret (results_cell_row rfl _ _ bl 55 _ (0, 0) _ rfl (setRow_heap _ _ _ _ _ _ HL1.out) Try.underlying55 rfl HL4.out) rfl ⟨by rw [HV.out], HZ.out.rd.kept hk (by omega) (fun x hx => by omega), HZ.out.on.trans' hk hbg⟩
end Go.Proofs.Ytnfpmobmfcgfnaa

/- A READER AND A DOCUMENT ON THEIR WAY; what the readers give may be held (ok). -/
namespace Go.Proofs.Ytnfpmobmfcgfnaa
open Go.RowKit
theorem numS_ok (s : RS) : I64 (numS s).1 := by
 cases s with
 | none => exact i64_zero
 | some l =>
  simp only [numS, stepS]
  cases h : rdNum l with
  | none => exact i64_zero
  | some p =>
   obtain ⟨n, t⟩ := p
   have := rdNum_range h
   exact ⟨by simp only; omega, by simp only; omega⟩
theorem textS_small (s : RS) : (textS s).1.size ≤ 65536 := by
 cases s with
 | none => exact Nat.zero_le _
 | some l =>
  simp only [textS, stepS]
  cases h : rdText l with
  | none => exact Nat.zero_le _
  | some p =>
   obtain ⟨n, t⟩ := p
   exact (rd_text_back h).2
theorem textS_ok (s : RS) : (textS s).1.size ≤ maxLen := Nat.le_trans (textS_small s) (by decide)
theorem lineS_ok (s : RS) : (lineS s).1.ok := ⟨numS_ok _, numS_ok _, textS_ok _, textS_ok _, textS_ok _, numS_ok _, numS_ok _⟩
theorem linesS_len : ∀ (n : Nat) (s : RS), (linesS n s).1.length = n
 | 0, _ => rfl
 | n + 1, s => by rw [linesS]; simp only [List.length_cons, linesS_len n]
theorem linesS_ok : ∀ (n : Nat) (s : RS), ∀ o ∈ (linesS n s).1, o.ok
 | 0, _ => fun o h => by cases h
 | n + 1, s => fun o h => by
  rw [linesS] at h
  rcases List.mem_cons.1 h with rfl | h
  ·exact lineS_ok s
  ·exact linesS_ok n _ o h
theorem linesS_snoc : ∀ (n : Nat) (s : RS), linesS (n + 1) s = ((linesS n s).1 ++ [(lineS (linesS n s).2).1], (lineS (linesS n s).2).2)
 | 0, s => rfl
 | n + 1, s => by
  rw [linesS, linesS_snoc n]
  rfl
theorem headS_ok (s : RS) : (headS s).1.ok ∧ I64 (headS s).2.1 := ⟨⟨textS_ok _, textS_ok _, numS_ok _, textS_ok _, textS_ok _, textS_ok _, fun l h => by cases h⟩, numS_ok _⟩
theorem getDocS_ok (s : RS) : (getDocS s).1.ok := by
 have h := (headS_ok s).1
 simp only [getDocS]
 split
 ·exact ⟨h.id, h.ref, h.day, h.cty, h.num, h.cur, linesS_ok _ _⟩
 ·exact h
theorem rlinesS_ok : ∀ (k : Nat) (n : Int) (i : Nat) (s : RS), ∀ o ∈ (rlinesS k n i s).1, o.ok
 | 0, _, _, _ => fun o h => by cases h
 | k + 1, n, i, s => fun o h => by
  rw [rlinesS] at h
  split at h
  ·rcases List.mem_cons.1 h with rfl | h
   ·exact lineS_ok s
   ·exact rlinesS_ok k n (i + 1) _ o h
  ·cases h
theorem rlinesS_len : ∀ (k : Nat) (n : Int) (i : Nat) (s : RS), (rlinesS k n i s).1.length ≤ k
 | 0, _, _, _ => Nat.le_refl _
 | k + 1, n, i, s => by
  rw [rlinesS]
  split
  ·exact Nat.succ_le_succ (rlinesS_len k n (i + 1) _)
  ·exact Nat.zero_le _
theorem readDocS_ok (s : RS) : (readDocS s).1.ok := by
 have h := (headS_ok s).1
 exact ⟨h.id, h.ref, h.day, h.cty, h.num, h.cur, rlinesS_ok _ _ _ _⟩
/-- what both readers bear -/
structure Rok (R : RS → World → Prop) (g B : Nat) : Prop where
 kept : ∀ {s : RS} {w w' : World} {S : Nat → Prop}, R s w → Kept S w w' → S g → (∀ b, b < B → S b) → R s w'
 lt : ∀ {s : RS} {w : World}, R s w → g < w.heap.size
 le : ∀ {s : RS} {w : World}, R s w → B ≤ g
theorem rdS_ok (g B : Nat) : Rok (fun s w => RdS w g B s) g B := ⟨fun h k hg hs => h.kept k hg hs, fun h => h.lt, fun h => h.le⟩
theorem QdS.kept {w w' : World} {g B : Nat} {A : Option Addr} {c : Nat} {L : List UInt8} {s : RS} {S : Nat → Prop} (h : QdS w g B A c L s) (k : Kept S w w') (hg : S g) (hs : ∀ b, b < B → S b) : QdS w' g B A c L s := by
 cases s with
 | none => obtain ⟨p, h⟩ := h; exact ⟨p, h.kept k hg hs⟩
 | some l => obtain ⟨p, e, h⟩ := h; exact ⟨p, e, h.kept k hg hs⟩
theorem QdS.lt {w : World} {g B : Nat} {A : Option Addr} {c : Nat} {L : List UInt8} {s : RS} (h : QdS w g B A c L s) : g < w.heap.size := by
 cases s with
 | none => obtain ⟨p, h⟩ := h; exact h.lt
 | some l => obtain ⟨p, e, h⟩ := h; exact h.lt
theorem QdS.le {w : World} {g B : Nat} {A : Option Addr} {c : Nat} {L : List UInt8} {s : RS} (h : QdS w g B A c L s) : B ≤ g := by
 cases s with
 | none => obtain ⟨p, h⟩ := h; exact h.le
 | some l => obtain ⟨p, e, h⟩ := h; exact h.le
theorem qdS_ok (g B : Nat) (A : Option Addr) (c : Nat) (L : List UInt8) : Rok (fun s w => QdS w g B A c L s) g B := ⟨fun h k hg hs => h.kept k hg hs, fun h => h.lt, fun h => h.le⟩
theorem Rok.below {R : RS → World → Prop} {g B : Nat} (k : Rok R g B) {s : RS} {w w' : World} (h : R s w) (hb : Below w.heap.size w w') : R s w' := k.kept (S := fun _ => True) h (Kept.ofBelow hb) trivial fun _ _ => trivial
/-- a block of cells -/
def Blk (w : World) (b : Nat) (cs : Array Value) (t : TypeId) : Prop := w.heap[b]? = some (.cells cs t (0, 0))
theorem Blk.set {w : World} {b : Nat} {cs cs' : Array Value} {t : TypeId} (h : Blk w b cs t) (i : Nat) (v : Value) (he : cs.setIfInBounds i v = cs') : Blk (w.setCell ⟨b, i, none⟩ v) b cs' t ∧ Kept (fun x => x ≠ b) w (w.setCell ⟨b, i, none⟩ v) := by
 have := Lib.heap_setCell_same (i := i) h v
 rw [he] at this
 exact ⟨this, (Kept.refl _ w).setCell _ _ (fun _ h => h rfl)⟩
theorem Blk.row {w : World} {b : Nat} {cs : Array Value} {t : TypeId} (h : Blk w b cs t) (V : Array Value) : Blk (w.setRow b V) b V t ∧ Kept (fun x => x ≠ b) w (w.setRow b V) :=
 ⟨setRow_heap _ _ _ _ _ _ h, ⟨rfl, rfl, rfl, by simp [World.setRow], fun k _ hne => setRow_other w b k _ hne⟩⟩
theorem Blk.free {w : World} {b : Nat} {cs : Array Value} {t : TypeId} (h : Blk w b cs t) (i : Nat) : w.frozen? ⟨b, i, none⟩ = false := free_of h i
theorem Blk.lt {w : World} {b : Nat} {cs : Array Value} {t : TypeId} (h : Blk w b cs t) : b < w.heap.size := lt_of_blk h
/-- a reader, a block, and lines that were read, on their way -/
structure BR (R : RS → World → Prop) (w0 : World) (g : Nat) (s : RS) (b : Nat) (cs : Array Value) (t : TypeId) (lv : Value) (ls : List Ln) (w : World) : Prop where
 rd : R s w
 bk : Blk w b cs t
 ow : OwN lnK w w0.heap.size lv ls
 nb : lv.ownBlock ≠ some b
 on : Only g w0 w
 bg : w0.heap.size ≤ b
section
variable {R : RS → World → Prop} {w0 w w' : World} {g B b : Nat} {s s' : RS} {cs cs' : Array Value} {t : TypeId} {lv : Value} {ls : List Ln}
theorem BR.mk0 (hR : Rok R g B) (h : R s w) (o : Array Value) (t : TypeId) : BR R w g s w.heap.size o t (.slice none 0 0) [] (w.alloc (.cells o t)) :=
 have hal := (Below.refl w.heap.size w).alloc (Nat.le_refl _) (.cells o t)
 ⟨hR.below h hal, heap_alloc_new w (.cells o t (0, 0)), OwN.nil_ _ _ _, by simp [Value.ownBlock], Kept.ofBelow hal, Nat.le_refl _⟩
theorem BR.call (h : BR R w0 g s b cs t lv ls w) (hg : g < w0.heap.size) (hr : R s' w') (ho : Only g w w') : BR R w0 g s' b cs t lv ls w' :=
 ⟨hr, ho.heap h.bk (by have := h.bg; omega), h.ow.kept ho (fun g' e => by have := (h.ow.lt g' e).1; omega), h.nb, h.on.trans ho, h.bg⟩
theorem BR.wr (h : BR R w0 g s b cs t lv ls w) (hR : Rok R g B) (hg : g < w0.heap.size) (hb : Blk w' b cs' t) (k : Kept (fun x => x ≠ b) w w') : BR R w0 g s b cs' t lv ls w' := by
 have hbg := h.bg
 have hle := hR.le h.rd
 exact ⟨hR.kept h.rd k (by omega) (fun x hx => by omega), hb, h.ow.kept k (fun g' e hc => h.nb (by rw [e, hc])), h.nb, h.on.trans' k hbg, hbg⟩
theorem BR.set (h : BR R w0 g s b cs t lv ls w) (hR : Rok R g B) (hg : g < w0.heap.size) (i : Nat) (v : Value) (he : cs.setIfInBounds i v = cs') : BR R w0 g s b cs' t lv ls (w.setCell ⟨b, i, none⟩ v) := by
 obtain ⟨h1, h2⟩ := h.bk.set i v he
 exact h.wr hR hg h1 h2
theorem BR.row (h : BR R w0 g s b cs t lv ls w) (hR : Rok R g B) (hg : g < w0.heap.size) (V : Array Value) : BR R w0 g s b V t lv ls (w.setRow b V) := by
 obtain ⟨h1, h2⟩ := h.bk.row V
 exact h.wr hR hg h1 h2
/-- what is made new beside it -/
theorem BR.below (h : BR R w0 g s b cs t lv ls w) (hR : Rok R g B) (k : Below w.heap.size w w') : BR R w0 g s b cs t lv ls w' :=
 ⟨hR.below h.rd k, (k.block b h.bk.lt).trans h.bk, h.ow.below k, h.nb, h.on.trans (Kept.ofBelow k), h.bg⟩
theorem BR.ret (h : BR R w0 g s b cs t lv ls w) (hok : ∀ o ∈ ls, o.ok) : Lns w w.heap.size lv ls := h.ow.sl.lns hok
end
end Go.Proofs.Ytnfpmobmfcgfnaa

