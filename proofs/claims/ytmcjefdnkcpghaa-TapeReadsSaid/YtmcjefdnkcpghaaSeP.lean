/- SECTORS, PLAINLY: what a write does to each of them. -/
import Derived.Test.YtmcjefdnkcpghaaSeF
namespace Go.Proofs.Ytmcjefdnkcpghaa
def bsA (l : List UInt8) : ByteArray := ⟨l.toArray⟩
theorem bsA_list (l : List UInt8) : (bsA l).data.toList = l := by simp [bsA]
theorem bsA_of (s : ByteArray) : bsA s.data.toList = s := by cases s; simp [bsA]
theorem bsA_size (l : List UInt8) : (bsA l).size = l.length := by simp [bsA, ByteArray.size]
theorem page_get (L : List UInt8) (i j : Nat) (hj : j < 64) : (page L i)[j]? = L[64 * i + j]? := by
  unfold page; rw [List.getElem?_take, if_pos hj, List.getElem?_drop]
theorem page_ext {L M : List UInt8} {i : Nat} (h : ∀ j, j < 64 → L[64 * i + j]? = M[64 * i + j]?) : page L i = page M i := by
  apply List.ext_getElem?
  intro j
  by_cases hj : j < 64
  · rw [page_get _ _ _ hj, page_get _ _ _ hj, h j hj]
  · have e1 : (page L i).length ≤ 64 := by unfold page; exact List.length_take_le _ _
    have e2 : (page M i).length ≤ 64 := by unfold page; exact List.length_take_le _ _
    rw [List.getElem?_eq_none (by omega), List.getElem?_eq_none (by omega)]
theorem splice_get (L m : List UInt8) (o k : Nat) (h : o + m.length ≤ L.length) : (splice L o m)[k]? = if o ≤ k ∧ k < o + m.length then m[k - o]? else L[k]? := by
  unfold splice
  have hl : (L.take o).length = o := by rw [List.length_take]; omega
  by_cases h1 : k < o
  · rw [List.getElem?_append_left (by omega), List.getElem?_take, if_pos h1, if_neg (by omega)]
  · rw [List.getElem?_append_right (by omega), hl]
    by_cases h2 : k < o + m.length
    · rw [List.getElem?_append_left (by omega), if_pos ⟨by omega, h2⟩]
    · rw [List.getElem?_append_right (by omega), List.getElem?_drop, if_neg (by omega)]
      congr 1; omega
/-- the sector that was written -/
theorem page_splice_same {L m : List UInt8} {n k t : Nat} (hl : L.length = 64 * n) (hk : k < n) (hm : m.length = 64) (ht : t ≤ 64) : page (splice L (k * 64) (m.take t)) k = m.take t ++ (page L k).drop t := by
  have htl : (m.take t).length = t := by rw [List.length_take]; omega
  apply List.ext_getElem?
  intro j
  by_cases hj : j < 64
  · rw [page_get _ _ _ hj, splice_get _ _ _ _ (by rw [htl]; omega), htl]
    by_cases h1 : j < t
    · rw [if_pos (by omega), List.getElem?_append_left (by omega)]; congr 1; omega
    · rw [if_neg (by omega), List.getElem?_append_right (by omega), htl, List.getElem?_drop, page_get _ _ _ (by omega)]
      congr 1; omega
  · have e1 : (page (splice L (k * 64) (m.take t)) k).length ≤ 64 := by unfold page; exact List.length_take_le _ _
    have e2 : (m.take t ++ (page L k).drop t).length = 64 := by rw [List.length_append, htl, List.length_drop, page_len hl hk]; omega
    rw [List.getElem?_eq_none (by omega), List.getElem?_eq_none (by omega)]
/-- all others -/
theorem page_splice_other {L m : List UInt8} {n k j t : Nat} (hl : L.length = 64 * n) (hk : k < n) (hm : m.length = 64) (ht : t ≤ 64) (hne : j ≠ k) : page (splice L (k * 64) (m.take t)) j = page L j := by
  have htl : (m.take t).length = t := by rw [List.length_take]; omega
  apply page_ext
  intro i hi
  rw [splice_get _ _ _ _ (by rw [htl]; omega), htl, if_neg]
  omega
/-- the sectors of a disk, as texts -/
def pagesS (L : List UInt8) (n : Nat) : List ByteArray := (List.range n).map fun i => bsA (page L i)
theorem pagesS_len (L : List UInt8) (n : Nat) : (pagesS L n).length = n := by simp [pagesS]
theorem pagesS_get (L : List UInt8) (n i : Nat) (h : i < n) : (pagesS L n)[i]? = some (bsA (page L i)) := by simp [pagesS, h]
theorem pagesS_write {L m : List UInt8} {n k t : Nat} (hl : L.length = 64 * n) (hk : k < n) (hm : m.length = 64) (ht : t ≤ 64) : (pagesS L n).set k (bsA (m.take t ++ (page L k).drop t)) = pagesS (splice L (k * 64) (m.take t)) n := by
  apply List.ext_getElem?
  intro i
  by_cases hi : i < n
  · rw [pagesS_get _ _ _ hi, List.getElem?_set]
    by_cases h : k = i
    · subst h
      rw [if_pos rfl, if_pos (by rw [pagesS_len]; exact hk), page_splice_same hl hk hm ht]
    · rw [if_neg h, pagesS_get _ _ _ hi, page_splice_other hl hk hm ht (fun e => h e.symm)]
  · rw [List.getElem?_eq_none (by rw [List.length_set, pagesS_len]; omega), List.getElem?_eq_none (by rw [pagesS_len]; omega)]
theorem page_full {L m : List UInt8} {n k : Nat} (hl : L.length = 64 * n) (hk : k < n) (hm : m.length = 64) : m.take 64 ++ (page L k).drop 64 = m := by
  rw [List.take_of_length_le (by omega), List.drop_of_length_le (by rw [page_len hl hk]; exact Nat.le_refl _), List.append_nil]
end Go.Proofs.Ytmcjefdnkcpghaa
