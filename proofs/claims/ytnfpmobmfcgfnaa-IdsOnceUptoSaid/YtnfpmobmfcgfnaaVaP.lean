/- COUNTRIES AND NUMBERS OF TAXABLE PERSONS: plain functions on bytes. No program here. -/
import Derived.WalkKit
namespace Go.Proofs.Ytnfpmobmfcgfnaa
def letB (b : UInt8) : Bool := decide (65 ≤ b.toNat) && decide (b.toNat ≤ 90)
def digB (b : UInt8) : Bool := decide (48 ≤ b.toNat) && decide (b.toNat ≤ 57)
def countryL (c : List UInt8) : Bool := decide (c.length = 2) && letB (c.getD 0 0) && letB (c.getD 1 0)
/-- a form's byte and a byte -/
def fitB (f b : UInt8) : Bool :=
  if f = 57 then digB b
  else if f = 65 then letB b
  else if f = 88 then letB b || digB b
  else if f = 43 then letB b || digB b || b == 43 || b == 42
  else f == b
def allFit : List UInt8 → List UInt8 → Bool
  | [], [] => true
  | f :: fs, b :: bs => fitB f b && allFit fs bs
  | _, _ => false
def fitsL (l : List (List UInt8)) (n : List UInt8) : Bool := l.any fun f => allFit f n
def tab : List (List UInt8 × List (List UInt8)) := [([65, 84], [[85, 57, 57, 57, 57, 57, 57, 57, 57]]),
  ([66, 69], [[48, 57, 57, 57, 57, 57, 57, 57, 57, 57], [49, 57, 57, 57, 57, 57, 57, 57, 57, 57]]),
  ([66, 71], [[57, 57, 57, 57, 57, 57, 57, 57, 57], [57, 57, 57, 57, 57, 57, 57, 57, 57, 57]]),
  ([67, 89], [[57, 57, 57, 57, 57, 57, 57, 57, 65]]),
  ([67, 90], [[57, 57, 57, 57, 57, 57, 57, 57], [57, 57, 57, 57, 57, 57, 57, 57, 57], [57, 57, 57, 57, 57, 57, 57, 57, 57, 57]]),
  ([68, 69], [[57, 57, 57, 57, 57, 57, 57, 57, 57]]),
  ([68, 75], [[57, 57, 57, 57, 57, 57, 57, 57]]),
  ([69, 69], [[57, 57, 57, 57, 57, 57, 57, 57, 57]]),
  ([69, 76], [[57, 57, 57, 57, 57, 57, 57, 57, 57]]),
  ([69, 83], [[88, 57, 57, 57, 57, 57, 57, 57, 88]]),
  ([70, 73], [[57, 57, 57, 57, 57, 57, 57, 57]]),
  ([70, 82], [[88, 88, 57, 57, 57, 57, 57, 57, 57, 57, 57]]),
  ([72, 82], [[57, 57, 57, 57, 57, 57, 57, 57, 57, 57, 57]]),
  ([72, 85], [[57, 57, 57, 57, 57, 57, 57, 57]]),
  ([73, 69], [[57, 43, 57, 57, 57, 57, 57, 65], [57, 57, 57, 57, 57, 57, 57, 65, 65]]),
  ([73, 84], [[57, 57, 57, 57, 57, 57, 57, 57, 57, 57, 57]]),
  ([76, 84], [[57, 57, 57, 57, 57, 57, 57, 57, 57], [57, 57, 57, 57, 57, 57, 57, 57, 57, 57, 57, 57]]),
  ([76, 85], [[57, 57, 57, 57, 57, 57, 57, 57]]),
  ([76, 86], [[57, 57, 57, 57, 57, 57, 57, 57, 57, 57, 57]]),
  ([77, 84], [[57, 57, 57, 57, 57, 57, 57, 57]]),
  ([78, 76], [[57, 57, 57, 57, 57, 57, 57, 57, 57, 66, 57, 57]]),
  ([80, 76], [[57, 57, 57, 57, 57, 57, 57, 57, 57, 57]]),
  ([80, 84], [[57, 57, 57, 57, 57, 57, 57, 57, 57]]),
  ([82, 79], [[57, 57], [57, 57, 57], [57, 57, 57, 57], [57, 57, 57, 57, 57], [57, 57, 57, 57, 57, 57], [57, 57, 57, 57, 57, 57, 57], [57, 57, 57, 57, 57, 57, 57, 57], [57, 57, 57, 57, 57, 57, 57, 57, 57], [57, 57, 57, 57, 57, 57, 57, 57, 57, 57]]),
  ([83, 69], [[57, 57, 57, 57, 57, 57, 57, 57, 57, 57, 57, 57]]),
  ([83, 73], [[57, 57, 57, 57, 57, 57, 57, 57]]),
  ([83, 75], [[57, 57, 57, 57, 57, 57, 57, 57, 57, 57]])]
def mems : List (List UInt8) := [[65, 84], [66, 69], [66, 71], [67, 89], [67, 90], [68, 69], [68, 75], [69, 69], [69, 76], [69, 83], [70, 73], [70, 82], [72, 82], [72, 85], [73, 69], [73, 84], [76, 84], [76, 85], [76, 86], [77, 84], [78, 76], [80, 76], [80, 84], [82, 79], [83, 69], [83, 73], [83, 75]]
def lst : List UInt8 := [65, 84, 32, 85, 57, 57, 57, 57, 57, 57, 57, 57, 59, 66, 69, 32, 48, 57, 57, 57, 57, 57, 57, 57, 57, 57, 32, 49, 57, 57, 57, 57, 57, 57, 57, 57, 57, 59, 66, 71, 32, 57, 57, 57, 57, 57, 57, 57, 57, 57, 32, 57, 57, 57, 57, 57, 57, 57, 57, 57, 57, 59, 67, 89, 32, 57, 57, 57, 57, 57, 57, 57, 57, 65, 59, 67, 90, 32, 57, 57, 57, 57, 57, 57, 57, 57, 32, 57, 57, 57, 57, 57, 57, 57, 57, 57, 32, 57, 57, 57, 57, 57, 57, 57, 57, 57, 57, 59, 68, 69, 32, 57, 57, 57, 57, 57, 57, 57, 57, 57, 59, 68, 75, 32, 57, 57, 57, 57, 57, 57, 57, 57, 59, 69, 69, 32, 57, 57, 57, 57, 57, 57, 57, 57, 57, 59, 69, 76, 32, 57, 57, 57, 57, 57, 57, 57, 57, 57, 59, 69, 83, 32, 88, 57, 57, 57, 57, 57, 57, 57, 88, 59, 70, 73, 32, 57, 57, 57, 57, 57, 57, 57, 57, 59, 70, 82, 32, 88, 88, 57, 57, 57, 57, 57, 57, 57, 57, 57, 59, 72, 82, 32, 57, 57, 57, 57, 57, 57, 57, 57, 57, 57, 57, 59, 72, 85, 32, 57, 57, 57, 57, 57, 57, 57, 57, 59, 73, 69, 32, 57, 43, 57, 57, 57, 57, 57, 65, 32, 57, 57, 57, 57, 57, 57, 57, 65, 65, 59, 73, 84, 32, 57, 57, 57, 57, 57, 57, 57, 57, 57, 57, 57, 59, 76, 84, 32, 57, 57, 57, 57, 57, 57, 57, 57, 57, 32, 57, 57, 57, 57, 57, 57, 57, 57, 57, 57, 57, 57, 59, 76, 85, 32, 57, 57, 57, 57, 57, 57, 57, 57, 59, 76, 86, 32, 57, 57, 57, 57, 57, 57, 57, 57, 57, 57, 57, 59, 77, 84, 32, 57, 57, 57, 57, 57, 57, 57, 57, 59, 78, 76, 32, 57, 57, 57, 57, 57, 57, 57, 57, 57, 66, 57, 57, 59, 80, 76, 32, 57, 57, 57, 57, 57, 57, 57, 57, 57, 57, 59, 80, 84, 32, 57, 57, 57, 57, 57, 57, 57, 57, 57, 59, 82, 79, 32, 57, 57, 32, 57, 57, 57, 32, 57, 57, 57, 57, 32, 57, 57, 57, 57, 57, 32, 57, 57, 57, 57, 57, 57, 32, 57, 57, 57, 57, 57, 57, 57, 32, 57, 57, 57, 57, 57, 57, 57, 57, 32, 57, 57, 57, 57, 57, 57, 57, 57, 57, 32, 57, 57, 57, 57, 57, 57, 57, 57, 57, 57, 59, 83, 69, 32, 57, 57, 57, 57, 57, 57, 57, 57, 57, 57, 57, 57, 59, 83, 73, 32, 57, 57, 57, 57, 57, 57, 57, 57, 59, 83, 75, 32, 57, 57, 57, 57, 57, 57, 57, 57, 57, 57, 59]
def memB (c : List UInt8) : Bool := mems.contains c
def formsT (c : List UInt8) : List (List UInt8) := (tab.lookup c).getD []
/-- the reference's readings of its list -/
def memStep (i : Nat) (st : List (List UInt8) × Bool) : List (List UInt8) × Bool :=
  (if st.2 then st.1 ++ [(lst.drop i).take 2] else st.1, lst.getD i 0 == 59)
def memUp : Nat → List (List UInt8) × Bool
  | 0 => ([], true)
  | i + 1 => memStep i (memUp i)
def frmStep (c : List UInt8) (b : UInt8) (st : List UInt8 × List UInt8 × List (List UInt8)) : List UInt8 × List UInt8 × List (List UInt8) :=
  if b ≠ 32 ∧ b ≠ 59 then (st.1, st.2.1 ++ [b], st.2.2)
  else (if b = 59 then [] else if st.1 = [] then st.2.1 else st.1, [], if st.1 = [] then st.2.2 else if st.1 = c then st.2.2 ++ [st.2.1] else st.2.2)
def frmUp (c : List UInt8) : Nat → List UInt8 × List UInt8 × List (List UInt8)
  | 0 => ([], [], [])
  | i + 1 => frmStep c (lst.getD i 0) (frmUp c i)
theorem lst_len : lst.length = 479 := by decide +kernel
theorem memUp_all : (memUp 479).1 = mems := by decide +kernel
theorem memUp_len : ∀ i, i < 479 → (memUp i).1.length ≤ 27 := by
  have h : (List.range 479).all (fun i => decide ((memUp i).1.length ≤ 27)) = true := by decide +kernel
  intro i hi
  simpa using List.all_eq_true.1 h i (List.mem_range.2 hi)
theorem frmUp_all : ∀ c ∈ mems, (frmUp c 479).2.2 = formsT c := by
  have h : mems.all (fun c => decide ((frmUp c 479).2.2 = formsT c)) = true := by decide +kernel
  intro c hc
  simpa using List.all_eq_true.1 h c hc
theorem tab_mems : tab.map (·.1) = mems := by decide +kernel
theorem formsT_none {c : List UInt8} (h : memB c = false) : formsT c = [] := by
  unfold formsT
  have : tab.lookup c = none := by
    rw [List.lookup_eq_none_iff]
    intro p hp
    have hm : p.1 ∈ mems := by rw [← tab_mems]; exact List.mem_map.2 ⟨p, hp, rfl⟩
    rw [bne_iff_ne]
    intro e
    unfold memB at h
    rw [e] at h
    simp [hm] at h
  rw [this]; rfl
def rightL (c n : List UInt8) : Bool := countryL c && (if memB c then fitsL (formsT c) n else decide (1 ≤ n.length) && decide (n.length ≤ 20) && n.all fun b => letB b || digB b)
/-- what is kept of a byte -/
def keepB (b : UInt8) : List UInt8 := if b = 32 ∨ b = 46 ∨ b = 45 ∨ b = 47 then [] else if 97 ≤ b.toNat ∧ b.toNat ≤ 122 then [b - 32] else [b]
def cleanL (s : List UInt8) : List UInt8 := s.flatMap keepB
theorem cleanL_snoc (s : List UInt8) (b : UInt8) : cleanL (s ++ [b]) = cleanL s ++ keepB b := by simp [cleanL, List.flatMap_append]
theorem keepB_keep (b x : UInt8) (h : x ∈ keepB b) : keepB x = [x] := by
  unfold keepB at h
  split at h
  · cases h
  · rename_i h1
    split at h
    · rename_i h2
      simp only [List.mem_singleton] at h
      subst h
      have hx : (b - 32).toNat = b.toNat - 32 := by
        have h32 : (32 : UInt8) ≤ b := by rw [UInt8.le_iff_toNat_le]; show 32 ≤ b.toNat; omega
        rw [UInt8.toNat_sub_of_le _ _ h32]; rfl
      unfold keepB
      have ne : ∀ k : UInt8, k.toNat ≤ 47 → b - 32 ≠ k := fun k hk e => by
        have := congrArg UInt8.toNat e; omega
      rw [if_neg (by simp only [not_or]; exact ⟨ne _ (by decide), ne _ (by decide), ne _ (by decide), ne _ (by decide)⟩), if_neg (by omega)]
    · rename_i h2
      simp only [List.mem_singleton] at h
      subst h
      unfold keepB
      rw [if_neg h1, if_neg h2]
theorem clean_of (l : List UInt8) (h : ∀ x ∈ l, keepB x = [x]) : cleanL l = l := by
  induction l with
  | nil => rfl
  | cons a t ih =>
    unfold cleanL
    rw [List.flatMap_cons, h a (by simp)]
    show a :: cleanL t = _
    rw [ih fun x hx => h x (by simp [hx])]
theorem clean_clean (s : List UInt8) : cleanL (cleanL s) = cleanL s := by
  apply clean_of
  intro x hx
  obtain ⟨b, _, hb⟩ := List.mem_flatMap.1 hx
  exact keepB_keep b x hb
theorem clean_len (s : List UInt8) : (cleanL s).length ≤ s.length := by
  induction s with
  | nil => simp [cleanL]
  | cons a t ih =>
    unfold cleanL at *
    rw [List.flatMap_cons, List.length_append, List.length_cons]
    have : (keepB a).length ≤ 1 := by unfold keepB; split <;> (try split) <;> simp
    omega
/-- a text's country and number -/
def cleanP (s : List UInt8) : Option (List UInt8 × List UInt8) :=
  if 2 ≤ (cleanL s).length ∧ rightL ((cleanL s).take 2) ((cleanL s).drop 2) = true then some ((cleanL s).take 2, (cleanL s).drop 2) else none
theorem cleanP_again {s c n : List UInt8} (h : cleanP s = some (c, n)) : cleanP (c ++ n) = some (c, n) ∧ rightL c n = true := by
  unfold cleanP at h
  split at h
  · rename_i hc
    simp only [Option.some.injEq, Prod.mk.injEq] at h
    obtain ⟨rfl, rfl⟩ := h
    rw [List.take_append_drop]
    unfold cleanP
    rw [clean_clean, if_pos hc]
    exact ⟨rfl, hc.2⟩
  · cases h
end Go.Proofs.Ytnfpmobmfcgfnaa
