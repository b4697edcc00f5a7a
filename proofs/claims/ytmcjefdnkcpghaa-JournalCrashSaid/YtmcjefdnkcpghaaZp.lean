/- A SLICE OF octroilaw11.Part AS A LIST; THE WALK OF Light. -/
import Derived.Test.YtmcjefdnkcpghaaZc2
namespace Go.Proofs.Ytmcjefdnkcpghaa
open Go.RowKit
/-- a part: its number, how many, the slice of bytes (the value, and what it reads as), whether it is raw -/
structure Ptv where
  seq : Int
  many : Int
  bv : Value
  b : List UInt8
  raw : Bool
structure Ptv.ok (o : Ptv) : Prop where
  s1 : -9223372036854775808 ≤ o.seq
  s2 : o.seq ≤ 9223372036854775807
  m1 : -9223372036854775808 ≤ o.many
  m2 : o.many ≤ 9223372036854775807
structure PtAt (w : World) (B : Nat) (p : Addr) (o : Ptv) : Prop where
  c0 : w.cell? p = some (.int .i64 o.seq)
  c1 : w.cell? ⟨p.block, p.off + 1, none⟩ = some (.int .i64 o.many)
  c2 : w.cell? ⟨p.block, p.off + 2, none⟩ = some o.bv
  c3 : w.cell? ⟨p.block, p.off + 3, none⟩ = some (.bool o.raw)
  by_ : Byt w B o.bv o.b
def Parts (w : World) (B : Nat) (v : Value) (ls : List Ptv) : Prop :=
  ∃ (A : Option Addr) (c : Nat), v = .slice A ls.length c ∧ ls.length ≤ c ∧ c ≤ maxLen ∧
    (0 < ls.length → ∃ ad : Addr, A = some ad ∧ ad.block < B ∧ ∀ (j : Nat) (o : Ptv), ls[j]? = some o → o.ok ∧ PtAt w B (ad.add (j * 4)) o)
section
variable {w w' : World} {B B' : Nat} {v : Value} {ls : List Ptv}
theorem PtAt.keep {p : Addr} {o : Ptv} (h : PtAt w B p o) (hp : p.block < B) (hk : ∀ p : Addr, p.block < B → w'.cell? p = w.cell? p) : PtAt w' B p o :=
  ⟨(hk _ hp).trans h.c0, (hk ⟨_, _, none⟩ hp).trans h.c1, (hk ⟨_, _, none⟩ hp).trans h.c2, (hk ⟨_, _, none⟩ hp).trans h.c3, h.by_.keep hk⟩
theorem Parts.keep (h : Parts w B v ls) (hk : ∀ p : Addr, p.block < B → w'.cell? p = w.cell? p) : Parts w' B v ls := by
  obtain ⟨A, c, hv, hc, hm, hr⟩ := h
  refine ⟨A, c, hv, hc, hm, fun h0 => ?_⟩
  obtain ⟨ad, hA, hb, hx⟩ := hr h0
  exact ⟨ad, hA, hb, fun j x hj => ⟨(hx j x hj).1, (hx j x hj).2.keep (by rw [addr_add_block]; exact hb) hk⟩⟩
theorem Parts.below (h : Parts w B v ls) (hb : Below B w w') : Parts w' B v ls := h.keep fun _ hp => hb.cell hp
theorem Parts.more (h : Parts w B v ls) (hB : B ≤ B') : Parts w B' v ls := by
  obtain ⟨A, c, hv, hc, hm, hr⟩ := h
  refine ⟨A, c, hv, hc, hm, fun h0 => ?_⟩
  obtain ⟨ad, hA, hb, hx⟩ := hr h0
  exact ⟨ad, hA, by omega, fun j x hj => ⟨(hx j x hj).1, (hx j x hj).2.c0, (hx j x hj).2.c1, (hx j x hj).2.c2, (hx j x hj).2.c3, (hx j x hj).2.by_.more hB⟩⟩
theorem Parts.form (h : Parts w B v ls) : ∃ A c, v = .slice A ls.length c ∧ ls.length ≤ c ∧ c ≤ 9223372036854775807 := by
  obtain ⟨A, c, hv, hc, hm, _⟩ := h
  unfold maxLen at hm
  exact ⟨A, c, hv, hc, by omega⟩
/-- the k-th of them -/
theorem Parts.at_ (h : Parts w B v ls) (k : Nat) (hk : k < ls.length) : ∃ ad c, v = .slice (some ad) ls.length c ∧ ad.block < B ∧ ls[k].ok ∧ PtAt w B (ad.add (k * 4)) ls[k] := by
  obtain ⟨A, c, hv, hc, hm, hr⟩ := h
  obtain ⟨ad, rfl, hb, hx⟩ := hr (by omega)
  exact ⟨ad, c, hv, hb, hx k _ (List.getElem?_eq_getElem hk)⟩
end
def lightB (many : Int) (ls : List Ptv) : Bool := decide (1 ≤ many) && decide (many ≤ 40) && decide (ls.length ≤ 20) && ls.all fun x => decide (x.b.length ≤ 1000)
theorem lightB_yes {many : Int} {ls : List Ptv} (h : lightB many ls = true) : 1 ≤ many ∧ many ≤ 40 ∧ ls.length ≤ 20 ∧ ∀ x ∈ ls, x.b.length ≤ 1000 := by
  unfold lightB at h
  simp only [Bool.and_eq_true, decide_eq_true_eq, List.all_eq_true] at h
  exact ⟨h.1.1.1, h.1.1.2, h.1.2, h.2⟩
set_option maxRecDepth 100000 in
set_option maxHeartbeats 2000000 in
theorem light_any {w : World} {B : Nat} {v : Value} {ls : List Ptv} (hs : Parts w B v ls) (hB : B ≤ w.heap.size) (many : Int) : Calls Try.prog 63 #[.int .i64 many, v] w fun e w' => e = .returned (.bool (lightB many ls)) ∧ Below w.heap.size w w' := by
  have hfo := hs.form
  obtain ⟨A, c, rfl, hc, hm⟩ := hfo
  have HS := Lib.hid hs
  clear hs
  have hbb := Below.refl w.heap.size w
  by_cases h1 : many < 1
  · rw [show lightB many ls = false by unfold lightB; rw [decide_eq_false (by omega : ¬ 1 ≤ many)]; rfl]
    have e1 : decide (many < 1) = true := decide_eq_true h1
    go_enter Try.func63, Try.ntmps63
    go_wp2
    go_ret
    exact ⟨rfl, hbb⟩
  have e1 : decide (many < 1) = false := decide_eq_false h1
  by_cases h2 : 40 < many
  · rw [show lightB many ls = false by unfold lightB; rw [decide_eq_false (by omega : ¬ many ≤ 40)]; simp]
    have e2 : decide (40 < many) = true := decide_eq_true h2
    go_enter Try.func63, Try.ntmps63
    go_wp2
    go_ret
    exact ⟨rfl, hbb⟩
  have e2 : decide (40 < many) = false := decide_eq_false h2
  by_cases h3 : 20 < ls.length
  · rw [show lightB many ls = false by unfold lightB; rw [decide_eq_false (by omega : ¬ ls.length ≤ 20)]; simp]
    have e3 : decide ((20 : Int) < (ls.length : Int)) = true := decide_eq_true (by omega)
    go_enter Try.func63, Try.ntmps63
    go_wp2
    go_ret
    exact ⟨rfl, hbb⟩
  have e3 : decide ((20 : Int) < (ls.length : Int)) = false := decide_eq_false (by omega)
  rw [show lightB many ls = ls.all fun x => decide (x.b.length ≤ 1000) by unfold lightB; rw [decide_eq_true (by omega : 1 ≤ many), decide_eq_true (by omega : many ≤ 40), decide_eq_true (by omega : ls.length ≤ 20)]; simp]
  generalize hR : (ls.all fun x => decide (x.b.length ≤ 1000)) = R
  have HR := Lib.hid hR
  clear hR hbb
  go_enter Try.func63, Try.ntmps63
  go_wp2
  go_loopg [6, 20] ls.length (fun gk x6 x20 wr => ∃ k : Nat, gk = ls.length - k ∧ k ≤ ls.length ∧ x20 = .int .i64 (k : Int) ∧ ((ls.drop k).all fun x => decide (x.b.length ≤ 1000)) = R ∧ Below w.heap.size w wr)
  case atStart => exact ⟨0, rfl, Nat.zero_le _, rfl, HR.out, Below.refl _ _⟩
  case round =>
    obtain ⟨k, hgk, hk, rfl, hal, hbel⟩ := hrel
    have HG := Lib.hid hgk
    have HAL := Lib.hid hal
    have hwr := hbel.size
    clear hgk hal HR
    by_cases h : k < ls.length
    · obtain ⟨ad, c', hv, hadB, hok, hat⟩ := (HS.out.below (hbel.mono hB)).at_ k h
      cases hv
      have hal := HAL.out
      rw [List.drop_eq_getElem_cons h, List.all_cons] at hal
      have HAL2 := Lib.hid hal
      have i1 : (0 : Int) ≤ (k : Int) := by omega
      have i2 : (k : Int) < (ls.length : Int) := by omega
      have i3 : IntKind.i64.wrap ((k : Int) + 1) = (k : Int) + 1 := by rw [IntKind.wrap_i64]; omega
      generalize ls[k] = o at *
      obtain ⟨sq, mn, bv, b, raw⟩ := o
      obtain ⟨c0, c1, c2', c3, hby⟩ := hat
      simp only at c0 c1 c2' c3 hby hal
      obtain ⟨Ab, cb, rfl, hcb, hmb, _⟩ := id hby
      unfold maxLen at hmb
      have HB2 := Lib.hid (hbel.alloc hwr (.cells #[.int .i64 sq, .int .i64 mn, .slice Ab b.length cb, .bool raw] 154))
      clear hal hok hby hbel
      by_cases h4 : 1000 < b.length
      · have e4 : decide ((1000 : Int) < (b.length : Int)) = true := decide_eq_true (by omega)
        have hR := HAL2.out
        rw [show decide (b.length ≤ 1000) = false from decide_eq_false (by omega), Bool.false_and] at hR
        subst hR
        go_wp2
        go_ret
        exact ⟨rfl, HB2.out⟩
      · have e4 : decide ((1000 : Int) < (b.length : Int)) = false := decide_eq_false (by omega)
        have hR := HAL2.out
        rw [show decide (b.length ≤ 1000) = true from decide_eq_true (by omega), Bool.true_and] at hR
        have HAL3 := Lib.hid hR
        clear hR
        go_wp2
        go_roundg (ls.length - (k + 1))
        case measure => have := HG.out; omega
        case rel => exact ⟨k + 1, rfl, by omega, by simp, HAL3.out, HB2.out⟩
    · obtain rfl : k = ls.length := by omega
      have hR := HAL.out
      rw [List.drop_length, List.all_nil] at hR
      subst hR
      go_wp2
      go_ret
      exact ⟨rfl, hbel⟩
end Go.Proofs.Ytmcjefdnkcpghaa
/- ROWS APPENDED TO A ROW; THE WALK OF octroilaw11.Pages. -/
namespace Go.Proofs.Ytmcjefdnkcpghaa
open Go.RowKit
section
variable {D : Nat → Prop} {w w' : World} {base B : Nat} {v x : Value} {ls ms : List (List UInt8)} {ts us : List Tri}
/-- a slice of slices that read as ls -/
def RowV (D : Nat → Prop) (w : World) (B : Nat) (v : Value) (ls : List (List UInt8)) : Prop := ∃ ts, Sl triK w B v ts ∧ RowsN D w ts ls
theorem OwB.rowV (h : OwB D w base v ls) : RowV D w w.heap.size v ls := by
  obtain ⟨ts, h1, _, h3⟩ := h
  exact ⟨ts, h1.sl, h3⟩
theorem RowV.form (h : RowV D w B v ls) : ∃ A c, v = .slice A ls.length c ∧ ls.length ≤ c ∧ c ≤ 9223372036854775807 ∧ (0 < ls.length → ∃ ad, A = some ad) := by
  obtain ⟨ts, ⟨A, c, hv, hc, hm, hr⟩, hl, _⟩ := h
  unfold maxLen at hm
  rw [hl] at hv hc hr
  exact ⟨A, c, hv, hc, by omega, fun h0 => by obtain ⟨ad, e, _⟩ := hr h0; exact ⟨ad, e⟩⟩
theorem RowV.take {A : Option Addr} {n c : Nat} (h : RowV D w B (.slice A n c) ls) (k : Nat) (hk : k ≤ ls.length) : RowV D w B (.slice A k c) (ls.take k) := by
  obtain ⟨ts, ⟨A', c', hv, hc, hm, hr⟩, hl, hx⟩ := h
  cases hv
  have hkl : (ts.take k).length = k := by rw [List.length_take]; omega
  refine ⟨ts.take k, ⟨A, c, by rw [hkl], by omega, hm, fun h0 => ?_⟩, by simp [hl], fun j t l a b => ?_⟩
  · obtain ⟨ad, e, hb, hx⟩ := hr (by omega)
    refine ⟨ad, e, hb, fun j x hj => ?_⟩
    rw [List.getElem?_take] at hj
    split at hj
    · exact hx j x hj
    · cases hj
  · rw [List.getElem?_take] at a b
    split at a
    · next hjk => rw [if_pos hjk] at b; exact hx j t l a b
    · cases a
theorem OwB.grownR (h : RowsN D w ts ls) (h0 : Ow triK w base x ts) (hx : RowsN D w us ms) {v' : Value} (h1 : Ow triK w' base v' (ts ++ us)) (hg : w.grownBy w' x.ownBlock) (hD0 : ∀ g, x.ownBlock = some g → D g) (hat : v'.ownBlock = x.ownBlock ∨ v'.ownBlock = some w.heap.size) (hD : D w.heap.size) : OwB D w' base v' (ls ++ ms) := by
  have hk := h0.kind
  refine ⟨ts ++ us, h1, fun g hg => ?_, by simp [h.1, hx.1], fun j t' l' a b => ?_⟩
  · rcases hat with e | e
    · exact hD0 g (e ▸ hg)
    · rw [e] at hg; cases hg; exact hD
  · by_cases hj : j < ts.length
    · rw [List.getElem?_append_left hj] at a
      rw [List.getElem?_append_left (by rw [← h.1]; exact hj)] at b
      exact (h.2 j t' l' a b).grown hg hk
    · rw [List.getElem?_append_right (by omega)] at a
      rw [List.getElem?_append_right (by rw [← h.1]; omega), ← h.1] at b
      exact (hx.2 _ t' l' a b).grown hg hk
/-- append of a row of slices -/
theorem wpList_append_rows {ops : Array Oper} {rest : List Oper} {o : Oper} {a : Act} {Q : Exit → Act → World → Prop} (hgd : o.guard = none) (s y : Operand)
    (ho : o.op = .call { callee := .builtin .append, args := #[s, y], argTypes := #[35, 35] })
    (hs : a.eval s = v) (hown : OwB D w base v ls) (hx : RowV D w B x ms) (hy : a.eval y = x)
    (hlen : ls.length + ms.length ≤ 1000000) (hbase : base ≤ w.heap.size) (hD : ∀ b, w.heap.size ≤ b → D b)
    (h : ∀ v' w', OwB D w' base v' (ls ++ ms) → w.grownBy w' v.ownBlock → (v'.ownBlock = v.ownBlock ∨ v'.ownBlock = some w.heap.size) → wpList Try.prog ops Q rest (a.put o.dst v') w') :
    wpList Try.prog ops Q (o :: rest) a w := by
  obtain ⟨ts, h1, h2, h3⟩ := hown
  obtain ⟨us, hu, hr⟩ := hx
  refine wpList_append_sl triK w hgd s y 35 ho Try.underlying35 base v ts hs h1 _ _ us hy hu (by have := h3.1; have := hr.1; omega) (by decide) hbase ?_
  intro v' w' ho' hg' hat'
  exact h v' w' (OwB.grownR (x := v) h3 h1 hr ho' hg' h2 hat' (hD _ (Nat.le_refl _))) hg' hat'
end
theorem needI_pages2 {seq : Nat} {l : List UInt8} {s : Int} (h : rightB s l.length = true) : ((pagesL seq l).length : Int) = needI l.length := by
  obtain ⟨_, _, h1, h2⟩ := rightB_yes h
  unfold pagesL needI
  rw [if_neg (by omega)]
  simp only [List.length_cons, List.length_append, List.length_nil, cutsL_len l.length l (Nat.le_refl _)]
  omega
theorem pages_cases2 (seq : Int) (l : List UInt8) (hl : l.length ≤ 5000) : ∃ P E, pagesR seq l = (P, E) ∧ P.length ≤ 1000 ∧ (E = 0 ∧ (P.length : Int) = needI l.length ∨ E = 2) := by
  unfold pagesR
  by_cases h : rightB seq l.length = true
  · rw [if_pos h]
    refine ⟨_, _, rfl, ?_, .inl ⟨rfl, needI_pages2 h⟩⟩
    have := needI_pages2 (seq := seq.toNat) h
    unfold needI at this
    split at this <;> omega
  · rw [if_neg h]; exact ⟨[], 2, rfl, by simp, .inr rfl⟩
def partP (o : Ptv) : List (List UInt8) :=
  if o.raw then [(o.b ++ List.replicate 64 0).take 64]
  else if 0 ≤ o.many ∧ o.many < ((pagesR o.seq o.b).1.length : Int) then (pagesR o.seq o.b).1.take o.many.toNat else (pagesR o.seq o.b).1
def partsP (ls : List Ptv) : List (List UInt8) := (ls.map partP).flatten
theorem partP_len (o : Ptv) (h : o.b.length ≤ 1000) : (partP o).length ≤ 1000 := by
  obtain ⟨P, E, hPE, hP, _⟩ := pages_cases2 o.seq o.b (by omega)
  unfold partP
  rw [hPE]
  split
  · simp
  · split
    · simp only [List.length_take]; omega
    · exact hP
theorem partsP_take (ls : List Ptv) (k : Nat) (h : k < ls.length) : partsP (ls.take (k + 1)) = partsP (ls.take k) ++ partP ls[k] := by
  unfold partsP
  rw [List.take_succ_eq_append_getElem h, List.map_append, List.flatten_append]
  simp
theorem partsP_len (ls : List Ptv) (h : ∀ x ∈ ls, x.b.length ≤ 1000) : ∀ k, k ≤ ls.length → (partsP (ls.take k)).length ≤ k * 1000 := by
  intro k
  induction k with
  | zero => intro _; simp [partsP]
  | succ k ih =>
    intro hk
    rw [partsP_take ls k (by omega), List.length_append]
    have := ih (by omega)
    have := partP_len ls[k] (h _ (List.getElem_mem _))
    omega
theorem pagesL_all (s : Nat) (l : List UInt8) : ∀ p ∈ pagesL s l, p.length = 64 := by
  intro p hp
  unfold pagesL at hp
  simp only [List.cons_append, List.mem_cons, List.mem_append, List.not_mem_nil, or_false] at hp
  rcases hp with rfl | hp | rfl
  · exact firstL_len _ _ _
  · exact cutsL_all l p hp
  · exact lastL_len _ _
theorem partP_all (o : Ptv) : ∀ p ∈ partP o, p.length = 64 := by
  have hpr : ∀ p ∈ (pagesR o.seq o.b).1, p.length = 64 := by
    unfold pagesR
    split
    · exact pagesL_all _ _
    · intro p hp; cases hp
  unfold partP
  split
  · intro p hp
    simp only [List.mem_singleton] at hp
    subst hp
    simp
  · split
    · intro p hp; exact hpr p (List.mem_of_mem_take hp)
    · exact hpr
theorem partsP_all (ls : List Ptv) : ∀ p ∈ partsP ls, p.length = 64 := by
  intro p hp
  unfold partsP at hp
  obtain ⟨q, hq, hp⟩ := List.mem_flatten.1 hp
  obtain ⟨o, _, rfl⟩ := List.mem_map.1 hq
  exact partP_all o p hp
end Go.Proofs.Ytmcjefdnkcpghaa
/- THE WALK OF octroilaw11.Pages. -/
namespace Go.Proofs.Ytmcjefdnkcpghaa
open Go.RowKit
/-- append([]byte{}, b...), and 64 zeros behind it -/
theorem raw_zeros {W w2 : World} {v2 : Value} {b : List UInt8} (hb : b.length ≤ 1000) (ho : Own w2 W.heap.size v2 ([] ++ b)) (hg : (W.alloc (.cells #[] 5)).grownBy w2 (some W.heap.size)) (hne : v2 ≠ .slice none 0 0) :
    ∃ ad c w3, (Builtin.append_ #[23, 3] 23 #[v2, .int .i64 64]).run Try.prog w2 = .ok (.slice (some ad) (b.length + 64) c) w3 ∧ (b.length + 64 ≤ c ∧ c ≤ 9223372036854775807) ∧ BytN (fun _ => True) w3 (.slice (some ad) 64 c) ((b ++ List.replicate 64 0).take 64) ∧ Below W.heap.size W w3 := by
  rw [List.nil_append] at ho
  have hsz : W.heap.size ≤ w2.heap.size := by have := hg.size; simp only [World.size_alloc] at this; omega
  obtain ⟨v', w', hr, ho', hg'⟩ := run_append_zeros_own w2 W.heap.size 23 v2 _ ho hne 64 (by omega) hsz
  have hbel : Below W.heap.size W w' := by
    have h3 := Below.grown ((Below.refl W.heap.size W).alloc (Nat.le_refl _) (.cells #[] 5)) hg (by simp) (fun g e => by cases e; exact Nat.le_refl _)
    exact Below.grown h3 hg' hsz (fun g e => ho.block g e)
  have hlen : (b ++ List.replicate 64 (0 : UInt8)).length = b.length + 64 := by simp
  have hby := ho'.byt
  have hbn := Own.bytn (D := fun _ => True) ho' (fun _ _ => trivial)
  obtain ⟨A, c, rfl, hc, hm, hx⟩ := id hby
  rw [hlen] at hr hby hbn hc hx
  obtain ⟨ad, rfl, _, _⟩ := hx (by omega)
  unfold maxLen at hm
  refine ⟨ad, c, w', hr, ⟨hc, by omega⟩, ⟨?_, fun ad' n c' e h0 => ?_⟩, hbel⟩
  · exact byt_take3 64 (by rw [hlen]; exact hby) (by omega)
  · cases e
    exact hbn.2 ad _ c rfl (by omega)
set_option maxRecDepth 100000 in
set_option maxHeartbeats 4000000 in
theorem ppages_any {w : World} {B : Nat} {v : Value} {ls : List Ptv} (hs : Parts w B v ls) (hB : B ≤ w.heap.size) (h20 : ls.length ≤ 20) (hb : ∀ x ∈ ls, x.b.length ≤ 1000) :
    Calls Try.prog 66 #[v] w fun e w' => ∃ v', e = .returned v' ∧ OwB (fun _ => True) w' w.heap.size v' (partsP ls) ∧ Below w.heap.size w w' := by
  obtain ⟨A, c, rfl, hc, hm⟩ := hs.form
  have HS := Lib.hid hs
  have HPT := Lib.hid (partsP_take ls)
  have HPL := Lib.hid (partsP_len ls hb)
  have HB := Lib.hid hb
  clear hs hb
  go_enter Try.func66, Try.ntmps66
  go_wp2
  go_loopg [3, 5, 6, 7, 10] ls.length (fun gk x3 x5 x6 x7 x10 wr => ∃ k : Nat, gk = ls.length - k ∧ k ≤ ls.length ∧ x10 = .int .i64 (k : Int) ∧ OwB (fun _ => True) wr w.heap.size x3 (partsP (ls.take k)) ∧ Below w.heap.size w wr)
  case atStart => exact ⟨0, rfl, Nat.zero_le _, rfl, OwB.nil_ _ _ _, Below.refl _ _⟩
  case round =>
    obtain ⟨k, hgk, hk, rfl, hown, hbel⟩ := hrel
    have HG := Lib.hid hgk
    have HO := Lib.hid hown
    have hwr := hbel.size
    have hpl := HPL.out k hk
    clear hgk
    obtain ⟨A3, n3, c3, rfl, hn3⟩ := hown.form
    by_cases h : k < ls.length
    · obtain ⟨ad, c', hv, hadB, hok, hat⟩ := (HS.out.below (hbel.mono hB)).at_ k h
      cases hv
      have hbl := HB.out _ (List.getElem_mem h)
      have hpt := HPT.out k h
      have i1 : (0 : Int) ≤ (k : Int) := by omega
      have i2 : (k : Int) < (ls.length : Int) := by omega
      have i3 : IntKind.i64.wrap ((k : Int) + 1) = (k : Int) + 1 := by rw [IntKind.wrap_i64]; omega
      generalize ls[k] = o at *
      generalize hP0 : partsP (ls.take k) = P0 at *
      subst hn3
      have HPT2 := Lib.hid hpt
      have hpq := partP_len o hbl
      have HPO := Lib.hid (show partP o = partP o from rfl)
      obtain ⟨sq, mn, bv, b, raw⟩ := o
      obtain ⟨c0, c1, c2', c3', hby⟩ := hat
      simp only at c0 c1 c2' c3' hby hbl
      obtain ⟨Ab, cb, rfl, hcb, hmb, _⟩ := id hby
      unfold maxLen at hmb
      have hb0 := hbel.alloc hwr (.cells #[.int .i64 sq, .int .i64 mn, .slice Ab b.length cb, .bool raw] 154)
      have hx0 := heap_alloc_new wr (.cells #[.int .i64 sq, .int .i64 mn, .slice Ab b.length cb, .bool raw] 154 (0, 0))
      have hby0 := hby.below (((Below.refl B wr).alloc (by omega) (.cells #[.int .i64 sq, .int .i64 mn, .slice Ab b.length cb, .bool raw] 154)))
      have HBY0 := Lib.hid hby0
      have HB0 := Lib.hid hb0
      have HO0 := Lib.hid (HO.out.below ((Below.refl wr.heap.size wr).alloc (Nat.le_refl _) (.cells #[.int .i64 sq, .int .i64 mn, .slice Ab b.length cb, .bool raw] 154)))
      clear hpt hok hby hbel hown hb0 hby0
      cases raw with
      | true =>
        have hz := fun (v2 : Value) (w2 : World) => @raw_zeros (wr.alloc (.cells #[.int .i64 sq, .int .i64 mn, .slice Ab b.length cb, .bool true] 154)) w2 v2 b hbl
        have hlit := own_lit (wr.alloc (.cells #[.int .i64 sq, .int .i64 mn, .slice Ab b.length cb, .bool true] 154)) [] (by simp)
        simp only [World.size_alloc, List.map_nil, List.length_nil] at hlit hz
        have hby1 := HBY0.out.below ((Below.refl B (wr.alloc (.cells #[.int .i64 sq, .int .i64 mn, .slice Ab b.length cb, .bool true] 154))).alloc (by simp; omega) (.cells #[] 5))
        have HZ := Lib.hid hz
        have HLIT := Lib.hid hlit
        have HBY1 := Lib.hid hby1
        have HPE := Lib.hid (show partP ⟨sq, mn, .slice Ab b.length cb, b, true⟩ = [(b ++ List.replicate 64 0).take 64] from rfl)
        clear hz hlit hby1 hx0
        go_wp2_with (first
          | ((with_reducible show wpList _ _ _ (⟨some 20, _, _, _, _, _⟩ :: _) _ _); go_must (refine wpList_append_byt _ rfl (.tmp 17) (.tmp 19) rfl (wr.heap.size + 1) _ [] rfl HLIT.out _ _ b rfl HBY1.out (by simp; omega) (by simp) ?_); intro v2 w2 ho2 hg2 hob2; obtain ⟨ad3, c3', w3, hr3, ⟨hc3a, hc3b⟩, hbn3, hb3⟩ := HZ.out v2 w2 ho2 hg2 (by rintro rfl; rcases hob2 with h | h <;> cases h); have HO3 := Lib.hid (HO0.out.below (hb3.mono (by simp))); have hi3 : (64 : Int) ≤ (c3' : Int) := (by omega); have hs3 := hb3.size; have HB3 := Lib.hid hb3; have HBN3 := Lib.hid hbn3; clear hb3 hbn3)
          | ((with_reducible show wpList _ _ _ (⟨some 21, _, _, _, _, _⟩ :: _) _ _); go_must (refine Lib.wpList_append_run w2 rfl (.tmp 20) (.const (.int .i64 64)) 23 3 rfl _ _ rfl rfl _ w3 hr3 ?_))
          | ((with_reducible show wpList _ _ _ (⟨some 24, _, _, _, _, _⟩ :: _) _ _); go_must (refine wpList_append_one rfl (.tmp 16) (.tmp 23) rfl rfl HO3.out (some ad3) 64 c3' HBN3.out rfl (by omega) (by simp only [World.size_alloc] at hs3; omega) (fun _ _ => trivial) ?_); intro v4 w4 ho4 hg4 _; have HO4 := Lib.hid ho4; clear ho4))
        go_roundg (ls.length - (k + 1))
        case measure => have := HG.out; omega
        case rel =>
          refine ⟨k + 1, rfl, by omega, by simp, by rw [HPT2.out, HPE.out]; exact HO4.out, ?_⟩
          obtain ⟨ts, o1, _, _⟩ := HO3.out
          have hs5 : w.heap.size ≤ w3.heap.size := by simp only [World.size_alloc] at hs3; omega
          exact (HB0.out.trans (HB3.out.mono (by omega))).grown hg4 hs5 (fun k hk => (o1.lt k hk).1)
      | false =>
        obtain ⟨P, E, hPE, hPl, _⟩ := pages_cases2 sq b (by omega)
        have hrp := rpages_any sq _ b _ HBY0.out (by omega)
        unfold PagesPost at hrp
        have hpe : partP ⟨sq, mn, .slice Ab b.length cb, b, false⟩ = if 0 ≤ mn ∧ mn < (P.length : Int) then P.take mn.toNat else P := by unfold partP; rw [hPE]; rfl
        rw [hPE] at hrp
        have x0 := cells_of hx0 0 _ rfl
        have x2 := cells_of hx0 2 _ rfl
        have HPE := Lib.hid hpe
        have HX0 := Lib.hid hx0
        clear hPE hpe hx0
        go_wp2_with fail
        refine hrp.mono ?_
        rintro e w2 ⟨v2, rfl, ho2, hb2⟩
        have hx2 := (hb2.block _ (lt_of_block HX0.out)).trans HX0.out
        have y1 := cells_of hx2 1 _ rfl
        have HRV := Lib.hid (ho2.mono (D' := fun _ => True) (fun _ _ => trivial)).rowV
        obtain ⟨A2, c2, rfl, hc2a, hc2b, hc2c⟩ := HRV.out.form
        have HO2 := Lib.hid (HO0.out.below hb2)
        have HB2 := Lib.hid (HB0.out.trans (hb2.mono HB0.out.size))
        have hs2 := HB2.out.size
        clear hrp hx2 ho2 hb2 x0 x2
        have hpl2 : P0.length ≤ 20000 := by omega
        by_cases hm1 : 0 ≤ mn
        · have e1 : decide (0 ≤ mn) = true := decide_eq_true hm1
          by_cases hm2 : mn < (P.length : Int)
          · obtain ⟨m, rfl⟩ : ∃ m : Nat, mn = (m : Int) := ⟨mn.toNat, by omega⟩
            have hmP : m < P.length := by omega
            have e2 : decide ((m : Int) < (P.length : Int)) = true := decide_eq_true hm2
            obtain ⟨ad2, rfl⟩ := hc2c (by omega)
            have hrv2 := HRV.out.take m (by omega)
            have HRV2 := Lib.hid hrv2
            have hpe := HPE.out
            rw [if_pos ⟨hm1, hm2⟩, Int.toNat_natCast] at hpe
            have HPE2 := Lib.hid hpe
            have i4 : (m : Int) ≤ (c2 : Int) := by omega
            clear hrv2 hpe
            go_wp2_with ((with_reducible show wpList _ _ _ (⟨some 49, _, _, _, _, _⟩ :: _) _ _); go_must (refine wpList_append_rows rfl (.tmp 47) (.tmp 48) rfl rfl HO2.out HRV2.out rfl (by rw [List.length_take]; omega) hs2 (fun _ _ => trivial) ?_); intro v4 w4 ho4 hg4 _; have HO4 := Lib.hid ho4; clear ho4)
            go_roundg (ls.length - (k + 1))
            case measure => have := HG.out; omega
            case rel =>
              refine ⟨k + 1, rfl, by omega, by simp, by rw [HPT2.out, HPE2.out]; exact HO4.out, ?_⟩
              obtain ⟨ts, o1, _, _⟩ := HO2.out
              exact HB2.out.grown hg4 hs2 (fun k hk => (o1.lt k hk).1)
          · have e2 : decide (mn < (P.length : Int)) = false := decide_eq_false hm2
            have hpe := HPE.out
            rw [if_neg (by omega)] at hpe
            have HPE2 := Lib.hid hpe
            clear hpe
            go_wp2_with ((with_reducible show wpList _ _ _ (⟨some 49, _, _, _, _, _⟩ :: _) _ _); go_must (refine wpList_append_rows rfl (.tmp 47) (.tmp 48) rfl rfl HO2.out HRV.out rfl (by omega) hs2 (fun _ _ => trivial) ?_); intro v4 w4 ho4 hg4 _; have HO4 := Lib.hid ho4; clear ho4)
            go_roundg (ls.length - (k + 1))
            case measure => have := HG.out; omega
            case rel =>
              refine ⟨k + 1, rfl, by omega, by simp, by rw [HPT2.out, HPE2.out]; exact HO4.out, ?_⟩
              obtain ⟨ts, o1, _, _⟩ := HO2.out
              exact HB2.out.grown hg4 hs2 (fun k hk => (o1.lt k hk).1)
        · have e1 : decide (0 ≤ mn) = false := decide_eq_false hm1
          have hpe := HPE.out
          rw [if_neg (by omega)] at hpe
          have HPE2 := Lib.hid hpe
          clear hpe
          go_wp2_with ((with_reducible show wpList _ _ _ (⟨some 49, _, _, _, _, _⟩ :: _) _ _); go_must (refine wpList_append_rows rfl (.tmp 47) (.tmp 48) rfl rfl HO2.out HRV.out rfl (by omega) hs2 (fun _ _ => trivial) ?_); intro v4 w4 ho4 hg4 _; have HO4 := Lib.hid ho4; clear ho4)
          go_roundg (ls.length - (k + 1))
          case measure => have := HG.out; omega
          case rel =>
            refine ⟨k + 1, rfl, by omega, by simp, by rw [HPT2.out, HPE2.out]; exact HO4.out, ?_⟩
            obtain ⟨ts, o1, _, _⟩ := HO2.out
            exact HB2.out.grown hg4 hs2 (fun k hk => (o1.lt k hk).1)
    · obtain rfl : k = ls.length := by omega
      rw [List.take_length] at HO
      go_wp2
      go_ret
      exact ⟨_, rfl, HO.out, hbel⟩
end Go.Proofs.Ytmcjefdnkcpghaa
/- THE WALK OF octroilaw11.Laid. -/
namespace Go.Proofs.Ytmcjefdnkcpghaa
open Go.RowKit
/-- a whole write on a disk with power and without a fuse -/
theorem write_plain {d : Dv} (hok : d.ok) (hf : d.fuse = none) (hd : d.dead = false) (i : Nat) (hi : i < d.n) (m : List UInt8) (hm : m.length = 64) :
    (d.write (i : Int) m).2 = 0 ∧ (d.write (i : Int) m).1.fuse = none ∧ (d.write (i : Int) m).1.dead = false ∧ (d.write (i : Int) m).1.writes = d.writes + 1 ∧ page (d.write (i : Int) m).1.L i = m := by
  have hc : d.can (i : Int) = 0 := by unfold Dv.can; rw [hd, if_neg (by simp), if_neg (by omega)]
  have hw : d.write (i : Int) m = ({ d with L := splice d.L ((i : Int).toNat * 64) (m.take 64), writes := d.writes + 1 }, 0) := by
    unfold Dv.write
    rw [if_neg (by simp [hc]), if_neg (by simp [hm]), hf]
  rw [hw]
  refine ⟨rfl, hf, hd, rfl, ?_⟩
  simp only [Int.toNat_natCast]
  rw [page_splice_same hok.len hi hm (Nat.le_refl _), page_full hok.len hi hm]
structure LaidD (N : Nat) (ps : List (List UInt8)) (k : Nat) (d : Dv) : Prop where
  ok : d.ok
  n : d.n = N
  fuse : d.fuse = none
  dead : d.dead = false
  writes : d.writes ≤ k
  pg : ∀ i, i < N → page d.L i = if i < k then (ps[i]?).getD z64 else z64
theorem LaidD.step {N k : Nat} {ps : List (List UInt8)} {d : Dv} (h : LaidD N ps k d) (hk : k < N) (hN : N ≤ 4096) {p : List UInt8} (hp : ps[k]? = some p) (hl : p.length = 64) :
    (d.write (k : Int) p).2 = 0 ∧ LaidD N ps (k + 1) (d.write (k : Int) p).1 := by
  have hw := h.writes
  obtain ⟨h1, h2, h3, h4, h5⟩ := write_plain h.ok h.fuse h.dead k (by rw [h.n]; exact hk) p hl
  refine ⟨h1, write_okk h.ok (by omega) _ _, (write_n _ _ _).trans h.n, h2, h3, by omega, fun i hi => ?_⟩
  by_cases hik : i = k
  · subst hik
    rw [h5, if_pos (by omega), hp]; rfl
  · rw [write_other h.ok _ _ _ (by omega), h.pg i hi]
    by_cases h6 : i < k
    · rw [if_pos h6, if_pos (by omega)]
    · rw [if_neg h6, if_neg (by omega)]
theorem LaidD.end_ {N k : Nat} {ps : List (List UInt8)} {d : Dv} (h : LaidD N ps k d) (hk : k ≤ N) (he : k = N ∨ ps.length ≤ k) : LaidD N ps N d :=
  ⟨h.ok, h.n, h.fuse, h.dead, Nat.le_trans h.writes hk, fun i hi => by
    rw [h.pg i hi, if_pos hi]
    by_cases h6 : i < k
    · rw [if_pos h6]
    · rw [if_neg h6, List.getElem?_eq_none (by omega)]; rfl⟩
theorem Pl.start {w0 w : World} {b6 g : Nat} {d : Dv} {Z : Nat → Prop} {u v0 v1 v2 v3 v4 : Value} (hd : Dk w Z g d) (hhi : ∀ b, Z b → w0.heap.size ≤ b) (hkd : ∀ b, Z b → KindD w b) (hbx : RBox w b6 u) (hlo : w0.heap.size ≤ b6) (hr : Rv w w.heap.size (.agg #[v0, v1, v2, v3, v4]) d) (hbel : Below w0.heap.size w0 w) :
    Pl w0 b6 g d Z (.agg #[v0, v1, v2, v3, v4]) (((((w.setCell ⟨b6, 0, none⟩ v0).setCell ⟨b6, 1, none⟩ v1).setCell ⟨b6, 2, none⟩ v2).setCell ⟨b6, 3, none⟩ v3).setCell ⟨b6, 4, none⟩ v4) := by
  obtain ⟨hs, hk⟩ := hbx.set v0 v1 v2 v3 v4
  obtain ⟨u0, u1, u2, u3, u4, _, hb⟩ := id hbx
  have hne : ∀ b, Z b → b ≠ b6 := fun b hz => (hkd b hz).ne hb (by decide) (by decide) (by decide)
  refine ⟨hd.kept hk hne, hhi, fun b hz => ?_, hs, hlo, hr.other hbx hk, ?_⟩
  · obtain ⟨cs, t, hh, ht⟩ := hkd b hz
    exact ⟨cs, t, hk.heap hh (hne b hz), ht⟩
  · exact hbel.trans (hk.toBelow (B := w0.heap.size) hbel.size (fun b hb e => by omega))
/-- another box stays -/
theorem RBox.other {W : World} {b b' : Nat} {u u' : Value} (hx : RBox W b' u') (hb : RBox W b u) (hne : b' ≠ b) (v0 v1 v2 v3 v4 : Value) :
    RBox (((((W.setCell ⟨b, 0, none⟩ v0).setCell ⟨b, 1, none⟩ v1).setCell ⟨b, 2, none⟩ v2).setCell ⟨b, 3, none⟩ v3).setCell ⟨b, 4, none⟩ v4) b' u' := by
  obtain ⟨_, hk⟩ := hb.set v0 v1 v2 v3 v4
  obtain ⟨u0, u1, u2, u3, u4, e, h⟩ := hx
  exact ⟨u0, u1, u2, u3, u4, e, hk.heap h hne⟩
/-- what Laid hands back -/
def LaidPost (w : World) (N : Nat) (ps : List (List UInt8)) (e : Ending) (w' : World) : Prop :=
  ∃ g v d Z, e = .returned (.tuple #[.pointer (some ⟨g, 0, none⟩), v, .bool true]) ∧ Dk w' Z g d ∧ (∀ b, Z b → w.heap.size ≤ b) ∧ (∀ b, Z b → KindD w' b) ∧ Rv w' w'.heap.size v d ∧ LaidD N ps N d ∧ Below w.heap.size w w'
theorem LaidPost.drew {w w' : World} {N : Nat} {ps : List (List UInt8)} {e : Ending} (h : LaidPost w N ps e w') : LaidPost w N ps e w'.drew := by
  obtain ⟨g, v, d, Z, e, h1, h2, h3, h4, h5, h6⟩ := h
  have hb : Below w'.heap.size w' w'.drew := (Below.refl _ _).drew
  exact ⟨g, v, d, Z, e, h1.below hb, h2, fun b hz => (h3 b hz).below hb, (h4.below hb).heap, h5, h6.trans (hb.mono h6.size)⟩
set_option maxRecDepth 100000 in
set_option maxHeartbeats 4000000 in
theorem laid_any {w : World} {B : Nat} {v : Value} {ps : List (List UInt8)} (hs : Byts w B v ps) (hB : B ≤ w.heap.size) (h64 : ∀ p ∈ ps, p.length = 64) (_hlen : ps.length ≤ 100000) (N : Nat) (h1 : 1 ≤ N) (h2 : N ≤ 4096) :
    Calls Try.prog 65 #[.int .i64 (N : Int), v] w (LaidPost w N ps) := by
  obtain ⟨A, c, rfl, hc, hm⟩ := hs.form
  unfold maxLen at hm
  have HS := Lib.hid hs
  have H64 := Lib.hid h64
  clear hs h64
  have hnew := fun w => new_any N h1 h2 w
  have hrnew := fun w => rnew_any N h2 w
  have hx5 := heap_alloc_new w (.cells #[.slice none 0 0, .int .i64 0, .int .i64 0, .bool false, .int .i64 0] 55 (0, 0))
  have HX5 := Lib.hid (show RBox (w.alloc (.cells #[.slice none 0 0, .int .i64 0, .int .i64 0, .bool false, .int .i64 0] 55)) w.heap.size (.agg #[.slice none 0 0, .int .i64 0, .int .i64 0, .bool false, .int .i64 0]) from ⟨_, _, _, _, _, rfl, hx5⟩)
  have HB5 := Lib.hid ((Below.refl w.heap.size w).alloc (Nat.le_refl _) (.cells #[.slice none 0 0, .int .i64 0, .int .i64 0, .bool false, .int .i64 0] 55))
  have HNEW := Lib.hid hnew
  have HRNEW := Lib.hid hrnew
  clear hx5 hnew hrnew
  go_enter Try.func65, Try.ntmps65
  go_wp2_with (first
    | (go_at_call 34; (with_reducible refine (HNEW.out _).mono ?_); rintro e w1 ⟨g, rfl, hd1, hb1⟩)
    | (go_at_call 41; (with_reducible refine (HRNEW.out _).mono ?_); rintro e w2 ⟨v2, rfl, hr2, hb2⟩; obtain ⟨A2, c2, After2, Torn2, rfl⟩ := hr2.form))
  have hs1 := hb1.size
  have hs2 := hb2.size
  simp only [World.size_alloc] at hs1
  have hstart : ∃ Z, Pl w w2.heap.size g (Dv.new N) Z (.agg #[.slice A2 (Dv.new N).n c2, .int .i64 After2, .int .i64 Torn2, .bool (Dv.new N).dead, .int .i64 ((Dv.new N).writes : Int)]) (w2.alloc (.cells #[.slice A2 (Dv.new N).n c2, .int .i64 After2, .int .i64 Torn2, .bool (Dv.new N).dead, .int .i64 ((Dv.new N).writes : Int)] 55)) ∧ RBox (w2.alloc (.cells #[.slice A2 (Dv.new N).n c2, .int .i64 After2, .int .i64 Torn2, .bool (Dv.new N).dead, .int .i64 ((Dv.new N).writes : Int)] 55)) w.heap.size (.agg #[.slice none 0 0, .int .i64 0, .int .i64 0, .bool false, .int .i64 0]) := by
    obtain ⟨Z0, hz1, hz2, hz3⟩ := hd1.tight
    have hal : Below w2.heap.size w2 (w2.alloc (.cells #[.slice A2 (Dv.new N).n c2, .int .i64 After2, .int .i64 Torn2, .bool (Dv.new N).dead, .int .i64 ((Dv.new N).writes : Int)] 55)) := (Below.refl _ _).alloc (Nat.le_refl _) _
    have hbb := hb2.trans (hal.mono hb2.size)
    refine ⟨Z0, ⟨hz1.below hbb, fun b hb => (by have := (hz2 b hb).1; simp only [World.size_alloc] at this; omega), fun b hb => (hz3 b hb).below hbb, ⟨_, _, _, _, _, rfl, heap_alloc_new w2 _⟩, by omega, (hr2.below hal).heap, HB5.out.trans ((hb1.trans (hbb.mono (by simp only [World.size_alloc]; omega))).mono (by simp))⟩, (HX5.out.below hb1).below hbb⟩
  have hl0 : LaidD N ps 0 (Dv.new N) := ⟨⟨h1, h2, by simp [Dv.new], fun a t e => (by cases e), by simp [Dv.new]⟩, rfl, rfl, rfl, Nat.le_refl _, fun i hi => by rw [if_neg (by omega)]; exact page_zero N i hi⟩
  have HL0 := Lib.hid hl0
  have hlo8 : w.heap.size < w2.heap.size := by omega
  clear hl0 hd1 hr2 hb1 hb2
  generalize hV : (Value.agg #[.slice A2 (Dv.new N).n c2, .int .i64 After2, .int .i64 Torn2, .bool (Dv.new N).dead, .int .i64 ((Dv.new N).writes : Int)]) = V at *
  generalize hd0 : Dv.new N = d0 at *
  generalize w2.heap.size = b8 at *
  have HST := Lib.hid hstart
  clear hstart hV
  go_loopg [9, 10, 20] ps.length (fun gk x9 x10 x20 wr => ∃ (k : Nat) (d : Dv) (Z : Nat → Prop) (v : Value), gk = ps.length - k ∧ k ≤ ps.length ∧ k ≤ N ∧ x20 = .int .i64 (k : Int) ∧ Pl w b8 g d Z v wr ∧ LaidD N ps k d ∧ RBox wr w.heap.size (.agg #[.slice none 0 0, .int .i64 0, .int .i64 0, .bool false, .int .i64 0]))
  case atStart =>
    obtain ⟨Z, hp, hx⟩ := HST.out
    exact ⟨0, d0, Z, _, rfl, Nat.zero_le _, Nat.zero_le _, rfl, hp, HL0.out, hx⟩
  case round =>
    obtain ⟨k, d, Z, v, hgk, hk, hkN, rfl, hpl, hla, hbx⟩ := hrel
    have HG := Lib.hid hgk
    obtain ⟨A', c', After, Torn, rfl⟩ := hpl.rv.form
    have HPL := Lib.hid hpl
    have HLA := Lib.hid hla
    have HBX := Lib.hid hbx
    obtain ⟨y0, y1, y2, y3, y4, z0, z1, z2, z3, z4⟩ := hpl.box.cells
    obtain ⟨r0, r1, r2, r3, r4, q0, q1, q2, q3, q4⟩ := hbx.cells
    have hne : w.heap.size ≠ b8 := by omega
    have hfin : (k = N ∨ ps.length ≤ k) → LaidPost w N ps (.returned (.tuple #[.pointer (some ⟨g, 0, none⟩), .agg #[.slice A' d.n c', .int .i64 After, .int .i64 Torn, .bool d.dead, .int .i64 (d.writes : Int)], .bool true])) (((((wr.setCell ⟨w.heap.size, 0, none⟩ (.slice A' d.n c')).setCell ⟨w.heap.size, 1, none⟩ (.int .i64 After)).setCell ⟨w.heap.size, 2, none⟩ (.int .i64 Torn)).setCell ⟨w.heap.size, 3, none⟩ (.bool d.dead)).setCell ⟨w.heap.size, 4, none⟩ (.int .i64 (d.writes : Int))) := by
      intro he
      obtain ⟨_, hkk⟩ := hbx.set (.slice A' d.n c') (.int .i64 After) (.int .i64 Torn) (.bool d.dead) (.int .i64 (d.writes : Int))
      obtain ⟨u0, u1, u2, u3, u4, _, hxx⟩ := id hbx
      have hzz : ∀ b, Z b → b ≠ w.heap.size := fun b hb => (hpl.kd b hb).ne hxx (by decide) (by decide) (by decide)
      refine ⟨g, _, d, Z, rfl, hpl.dk.kept hkk hzz, hpl.hi, fun b hz => ?_, hpl.rv.other hbx hkk, hla.end_ hkN he, ?_⟩
      · obtain ⟨cs, t, hh, ht⟩ := hpl.kd b hz
        exact ⟨cs, t, hkk.heap hh (hzz b hz), ht⟩
      · exact hpl.below.trans (hkk.toBelow (B := w.heap.size) hpl.below.size (fun b hb e => by omega))
    have HFI := Lib.hid hfin
    clear hgk hpl hla hbx hfin HST HL0
    by_cases h : k < ps.length
    · obtain ⟨ad, u, rfl, hadB, hcell, hby⟩ := (HS.out.below (HPL.out.below.mono hB)).atv k h
      have i1 : (0 : Int) ≤ (k : Int) := by omega
      have i2 : (k : Int) < (ps.length : Int) := by omega
      have i3 : IntKind.i64.wrap ((k : Int) + 1) = (k : Int) + 1 := by rw [IntKind.wrap_i64]; omega
      by_cases hN : k < N
      · have e1 : decide (N ≤ k) = false := decide_eq_false (by omega)
        have hpk : ps[k]? = some ps[k] := List.getElem?_eq_getElem h
        have hp64 := H64.out _ (List.getElem_mem h)
        obtain ⟨hr0, hl1⟩ := HLA.out.step hN h2 hpk hp64
        have hwb := HLA.out.writes
        have hwri := write_any HPL.out.dk (k : Int) hby (by omega)
        have hrwr : ∀ W v B, Rv W B v d → Calls Try.prog 42 #[v, .int .i64 (k : Int), .string (bsA ps[k])] W (RPost W (d.write (k : Int) ps[k]).1 (d.write (k : Int) ps[k]).2) := fun W v B h => rwrite_any h HLA.out.ok (by omega) (k : Int)
        rw [hr0] at hwri hrwr
        generalize ps[k] = p at *
        generalize (d.write (k : Int) p).1 = d' at *
        have HRW := Lib.hid hrwr
        have HBY := Lib.hid hby
        have HL1 := Lib.hid hl1
        clear hrwr hby hl1 hr0 hpk hp64
        go_wp2_with (first
          | (go_at_call 35; (with_reducible refine hwri.mono ?_); rintro e w3 ⟨rfl, hd3, hk3⟩
             obtain ⟨Z2, hm3⟩ := HPL.out.wrote hd3 hk3 (fun b h => .inl h)
             have HX3 := Lib.hid (HBX.out.kept HPL.out.kd hk3)
             have hby3 := HBY.out.keep (w' := w3) fun q hq => (hm3.below.cell (p := q) (by omega)).trans (HPL.out.below.cell (p := q) (by omega)).symm
             have hcv := hby3.strA
             obtain ⟨x0, x1, x2, x3, x4, f0, f1, f2, f3, f4⟩ := hm3.box.cells
             have hrw := HRW.out _ _ _ hm3.rv
             have HM3 := Lib.hid hm3
             clear hd3 hk3 hm3 hby3)
          | (go_at_call 42; (with_reducible refine hrw.mono ?_); rintro e w4 ⟨v4, rfl, hr4, hb4⟩
             obtain ⟨A4, c4, After4, Torn4, rfl⟩ := hr4.form
             have hm4 := HM3.out.grow hb4
             obtain ⟨x0, x1, x2, x3, x4, f0, f1, f2, f3, f4⟩ := hm4.box.cells
             have HP4 := Lib.hid (hm4.put hr4)
             have HX4 := Lib.hid ((HX3.out.below hb4).other hm4.box hne (.slice A4 d'.n c4) (.int .i64 After4) (.int .i64 Torn4) (.bool d'.dead) (.int .i64 (d'.writes : Int)))
             clear hm4 hr4)
          | fail)
        go_roundg (ps.length - (k + 1))
        case measure => have := HG.out; omega
        case rel => exact ⟨k + 1, d', Z2, _, rfl, by omega, by omega, by simp, HP4.out, HL1.out, HX4.out⟩
      · have e1 : decide (N ≤ k) = true := decide_eq_true (by omega)
        have HF := Lib.hid (HFI.out (.inl (by omega)))
        clear hby
        go_wp2
        go_region
        all_goals
          go_wp2
          exact bodyPost_ret (v := .tuple #[.pointer (some ⟨g, 0, none⟩), .agg #[.slice A' d.n c', .int .i64 After, .int .i64 Torn, .bool d.dead, .int .i64 (d.writes : Int)], .bool true]) (by simp [results, Try.results65, go_sem, r0, r1, r2, r3, r4]) rfl HF.out.drew
    · have HF := Lib.hid (HFI.out (.inr (by omega)))
      go_wp2
      go_region
      all_goals
        go_wp2
        exact bodyPost_ret (v := .tuple #[.pointer (some ⟨g, 0, none⟩), .agg #[.slice A' d.n c', .int .i64 After, .int .i64 Torn, .bool d.dead, .int .i64 (d.writes : Int)], .bool true]) (by simp [results, Try.results65, go_sem, r0, r1, r2, r3, r4]) rfl HF.out.drew
end Go.Proofs.Ytmcjefdnkcpghaa
/- BATCHES ON A DISK, PLAINLY: what of a disk they hang on; what a wipe leaves. -/
namespace Go.Proofs.Ytmcjefdnkcpghaa
theorem fill_nil : fillL [] = z64 := rfl
theorem blank_z : blankB z64 = true := by unfold blankB; rw [fill_nil]; simp
theorem blank_iff (l : List UInt8) : blankB l = true ↔ l = z64 := by unfold blankB; rw [fill_nil]; simp
theorem first_4 (a b c : Nat) : (firstL a b c)[4]? = some 72 := by
  obtain ⟨z, hz⟩ := firstL_eq a b c
  rw [hz]
  simp [be4]
theorem last_4 (a b : Nat) : (lastL a b)[4]? = some 69 := by
  unfold lastL fillL wrapL
  simp [be4]
theorem z_4 : z64[4]? = some 0 := by unfold z64; simp
theorem begin_is {l : List UInt8} (h : beginB l = true) : rightB (hdS l : Int) (hdL l) = true ∧ l = firstL (hdS l) (hdL l) (hdC l) := by
  unfold beginB at h
  simp only [Bool.and_eq_true, decide_eq_true_eq] at h
  exact ⟨h.1.2, h.2⟩
theorem begin_z : beginB z64 = false := by
  cases h : beginB z64 with
  | false => rfl
  | true =>
    have h4 := first_4 (hdS z64) (hdL z64) (hdC z64)
    rw [← (begin_is h).2, z_4] at h4
    cases h4
theorem end_is {l : List UInt8} {seq : Int} {sum : Nat} (h : endB l seq sum = true) : l = lastL seq.toNat sum := by
  unfold endB at h
  simp only [decide_eq_true_eq] at h
  exact h.2.2
theorem end_z (seq : Int) (sum : Nat) : endB z64 seq sum = false := by
  cases h : endB z64 seq sum with
  | false => rfl
  | true =>
    have h4 := last_4 seq.toNat sum
    rw [← end_is h, z_4] at h4
    cases h4
section
variable {pg pg' : Nat → List UInt8} {n at_ seq : Nat}
theorem batch_nobegin (h : beginB (pg at_) = false) : batchR pg n at_ seq = ([], 0) := by
  unfold batchR
  rw [if_neg (by rw [h]; simp)]
theorem batch_noend (h : endB (pg (at_ + needN (hdL (pg at_)) - 1)) seq (hdC (pg at_)) = false) : batchR pg n at_ seq = ([], 0) := by
  unfold batchR
  split
  · rw [if_neg (by rw [h]; simp)]
  · rfl
theorem batch_far (h : n ≤ at_) : batchR pg n at_ seq = ([], 0) := by
  unfold batchR
  split
  · next h1 =>
    have := (begin_need h1.1).1
    omega
  · rfl
theorem batch_narrow (h : n < at_ + 3) : batchR pg n at_ seq = ([], 0) := by
  unfold batchR
  split
  · next h1 =>
    have := (begin_need h1.1).1
    omega
  · rfl
/-- only its own sectors count -/
theorem batch_same (h : 0 < (batchR pg n at_ seq).2) (he : ∀ i, at_ ≤ i → i < at_ + (batchR pg n at_ seq).2 → pg' i = pg i) : batchR pg' n at_ seq = batchR pg n at_ seq := by
  unfold batchR at h he
  split at h
  · next h1 =>
    rw [if_pos h1] at he
    split at h
    · next h2 =>
      rw [if_pos h2] at he
      simp only at he h
      obtain ⟨hn, _, _⟩ := begin_need h1.1
      have e0 : pg' at_ = pg at_ := he at_ (Nat.le_refl _) (by omega)
      have em : midsR pg' at_ (needN (hdL (pg at_))) = midsR pg at_ (needN (hdL (pg at_))) := by
        unfold midsR
        apply List.map_congr_left
        intro i hi
        have := List.mem_range.1 hi
        exact he _ (by omega) (by omega)
      have ee : pg' (at_ + needN (hdL (pg at_)) - 1) = pg (at_ + needN (hdL (pg at_)) - 1) := he _ (by omega) (by omega)
      unfold batchR
      rw [e0, em, ee]
    · simp at h
  · simp at h
/-- a whole batch is read -/
theorem batch_whole {l : List UInt8} (hr : rightB (seq : Int) (l.length : Int) = true) (hp : ∀ j, j < (pagesL seq l).length → pg (at_ + j) = (pagesL seq l).getD j []) (hn : (pagesL seq l).length ≤ n - at_) :
    batchR pg n at_ seq = (l, (pagesL seq l).length) := by
  obtain ⟨q1, q2, q3, q4⟩ := rightB_yes hr
  have hs := sumL_lt l
  obtain ⟨hb, _⟩ := begin_first (sq := seq) (n := l.length) hr hs
  obtain ⟨e1, e2, e3⟩ := hd_firstL (a := seq) (b := l.length) (c := sumL l) (by omega) (by omega) (by omega)
  have hlen : needN l.length = (pagesL seq l).length := by
    have := needI_pages2 (seq := seq) hr
    unfold needN
    omega
  have hcl := cutsL_len l.length l (Nat.le_refl _)
  have hpl : (pagesL seq l).length = (cutsL l).length + 2 := by unfold pagesL; simp
  have h0 : pg at_ = firstL seq l.length (sumL l) := by
    have := hp 0 (by omega)
    rw [Nat.add_zero] at this
    rw [this]; unfold pagesL; rfl
  have hm : midsR pg at_ (pagesL seq l).length = cutsL l := by
    unfold midsR
    apply List.ext_getElem?
    intro i
    by_cases hi : i < (cutsL l).length
    · rw [List.getElem?_map, List.getElem?_range (by omega), Option.map_some, show at_ + 1 + i = at_ + (i + 1) by omega, hp (i + 1) (by omega)]
      unfold pagesL
      rw [List.getElem?_eq_getElem hi]
      simp [List.getD, List.getElem?_append_left hi, hi]
    · rw [List.getElem?_eq_none (by simp; omega), List.getElem?_eq_none (by omega)]
  have he : pg (at_ + (pagesL seq l).length - 1) = lastL seq (sumL l) := by
    rw [show at_ + (pagesL seq l).length - 1 = at_ + ((cutsL l).length + 1) by omega, hp _ (by omega)]
    unfold pagesL
    simp [List.getD]
  obtain ⟨hj, hjl⟩ := join_cuts (sq := seq) hr
  have hel := end_last (sq := seq) (s := sumL l) (by omega) (by omega)
  unfold batchR
  rw [h0, e1, e2, e3, hlen, hm, he]
  rw [if_pos ⟨hb, rfl, hn⟩, if_pos ⟨hj, hel⟩, hjl]
/-- what stands hangs on what lies ahead of the tail alone -/
theorem find_same : ∀ (k at_ : Nat) (l : List (List UInt8)), n - at_ ≤ k → (∀ i, at_ ≤ i → i < (findW pg n at_ l).2 → pg' i = pg i) → findW pg' n at_ l = findW pg' n (findW pg n at_ l).2 (findW pg n at_ l).1 := by
  intro k
  induction k with
  | zero =>
    intro at_ l hk he
    have hs : ¬ 0 < (batchR pg n at_ (l.length + 1)).2 := by rw [batch_far (by omega)]; simp
    rw [findW_stop hs]
  | succ k ih =>
    intro at_ l hk he
    by_cases h : 0 < (batchR pg n at_ (l.length + 1)).2
    · obtain ⟨hp1, hp2⟩ := batchR_pos h
      rw [findW_more h] at he ⊢
      have hge : at_ + (batchR pg n at_ (l.length + 1)).2 ≤ (findW pg n (at_ + (batchR pg n at_ (l.length + 1)).2) (l ++ [(batchR pg n at_ (l.length + 1)).1])).2 := by
        generalize at_ + (batchR pg n at_ (l.length + 1)).2 = b
        generalize l ++ [(batchR pg n at_ (l.length + 1)).1] = m
        clear he ih
        have key : ∀ (k b : Nat) (m : List (List UInt8)), n - b ≤ k → b ≤ (findW pg n b m).2 := by
          intro k
          induction k with
          | zero => intro b m hb; rw [findW_stop (by rw [batch_far (by omega)]; simp)]; exact Nat.le_refl _
          | succ k ih =>
            intro b m hb
            by_cases h : 0 < (batchR pg n b (m.length + 1)).2
            · have := batchR_pos h
              rw [findW_more h]
              have := ih (b + (batchR pg n b (m.length + 1)).2) (m ++ [(batchR pg n b (m.length + 1)).1]) (by omega)
              omega
            · rw [findW_stop h]; exact Nat.le_refl _
        exact key (n - b) b m (Nat.le_refl _)
      have hbs := batch_same h (pg' := pg') (fun i h1 h2 => he i h1 (by omega))
      rw [findW_more (pg := pg') (by rw [hbs]; exact h), hbs]
      exact ih _ _ (by omega) (fun i h1 h2 => he i (by omega) h2)
    · rw [findW_stop h]
theorem find_facts : ∀ (k at_ : Nat) (l : List (List UInt8)), n - at_ ≤ k → at_ ≤ n → at_ ≤ (findW pg n at_ l).2 ∧ (findW pg n at_ l).2 ≤ n ∧ ¬ 0 < (batchR pg n (findW pg n at_ l).2 ((findW pg n at_ l).1.length + 1)).2 ∧ l.length ≤ (findW pg n at_ l).1.length ∧ 3 * ((findW pg n at_ l).1.length - l.length) ≤ (findW pg n at_ l).2 - at_ := by
  intro k
  induction k with
  | zero =>
    intro at_ l hk hle
    have hs : ¬ 0 < (batchR pg n at_ (l.length + 1)).2 := by rw [batch_far (by omega)]; simp
    rw [findW_stop hs]
    exact ⟨Nat.le_refl _, hle, hs, Nat.le_refl _, by simp⟩
  | succ k ih =>
    intro at_ l hk hle
    by_cases h : 0 < (batchR pg n at_ (l.length + 1)).2
    · obtain ⟨hp1, hp2⟩ := batchR_pos h
      rw [findW_more h]
      obtain ⟨h1, h2, h3, h4, h5⟩ := ih (at_ + (batchR pg n at_ (l.length + 1)).2) (l ++ [(batchR pg n at_ (l.length + 1)).1]) (by omega) hp2
      rw [List.length_append, List.length_singleton] at h4 h5
      exact ⟨by omega, h2, h3, by omega, by omega⟩
    · rw [findW_stop h]
      exact ⟨Nat.le_refl _, hle, h, Nat.le_refl _, by simp⟩
end
end Go.Proofs.Ytmcjefdnkcpghaa
/- A WIPE, AND A BATCH THAT POWER CUT OFF, PLAINLY. -/
namespace Go.Proofs.Ytmcjefdnkcpghaa
/-- a disk with power and without a fuse -/
structure On (d : Dv) : Prop where
  ok : d.ok
  fuse : d.fuse = none
  dead : d.dead = false
theorem On.write {d : Dv} (h : On d) (hw : d.writes + 1 ≤ 1000000000) (i : Nat) (hi : i < d.n) (m : List UInt8) (hm : m.length = 64) :
    (d.write (i : Int) m).2 = 0 ∧ On (d.write (i : Int) m).1 ∧ (d.write (i : Int) m).1.n = d.n ∧ (d.write (i : Int) m).1.writes = d.writes + 1 ∧ ∀ j, page (d.write (i : Int) m).1.L j = if j = i then m else page d.L j := by
  obtain ⟨h1, h2, h3, h4, h5⟩ := write_plain h.ok h.fuse h.dead i hi m hm
  refine ⟨h1, ⟨write_okk h.ok hw _ _, h2, h3⟩, write_n _ _ _, h4, fun j => ?_⟩
  split
  · next e => subst e; exact h5
  · next e => exact write_other h.ok _ _ _ (by omega)
theorem z64_len : z64.length = 64 := by unfold z64; simp
theorem wipe_plain : ∀ (l : List Nat) (d : Dv), On d → d.writes + l.length ≤ 1000000000 → (∀ i ∈ l, i < d.n) →
    (wipeW d l).2 = 0 ∧ On (wipeW d l).1 ∧ (wipeW d l).1.n = d.n ∧ (wipeW d l).1.writes = d.writes + l.length ∧ ∀ j, page (wipeW d l).1.L j = if j ∈ l then z64 else page d.L j := by
  intro l
  induction l with
  | nil => intro d h _ _; exact ⟨rfl, h, rfl, rfl, fun j => by rw [if_neg (by simp)]; rfl⟩
  | cons i r ih =>
    intro d h hw hl
    rw [List.length_cons] at hw
    obtain ⟨h1, h2, h3, h4, h5⟩ := h.write (by omega) i (hl i (by simp)) z64 z64_len
    rw [wipeW, if_pos h1]
    obtain ⟨q1, q2, q3, q4, q5⟩ := ih _ h2 (by omega) (fun j hj => by rw [h3]; exact hl j (List.mem_cons_of_mem _ hj))
    refine ⟨q1, q2, q3.trans h3, by rw [q4, h4, List.length_cons]; omega, fun j => ?_⟩
    rw [q5, h5]
    by_cases hjr : j ∈ r
    · rw [if_pos hjr, if_pos (List.mem_cons_of_mem _ hjr)]
    · rw [if_neg hjr]
      by_cases hj : j = i
      · rw [if_pos hj, if_pos (by rw [hj]; exact List.mem_cons_self)]
      · rw [if_neg hj, if_neg (fun h => (List.mem_cons.1 h).elim hj hjr)]
theorem dirty_mem (L : List UInt8) (n t i : Nat) : i ∈ dirtyL L n t ↔ i < n ∧ t ≤ i ∧ page L i ≠ z64 := by
  unfold dirtyL
  rw [List.mem_filter, List.mem_range, Bool.and_eq_true, decide_eq_true_eq, Bool.not_eq_true']
  constructor
  · rintro ⟨h1, h2, h3⟩
    exact ⟨h1, h2, fun e => by rw [e, blank_z] at h3; cases h3⟩
  · rintro ⟨h1, h2, h3⟩
    refine ⟨h1, h2, ?_⟩
    cases hb : blankB (page L i) with
    | false => rfl
    | true => exact absurd ((blank_iff _).1 hb) h3
theorem dirty_none (L : List UInt8) (n t : Nat) (h : ∀ i, t ≤ i → i < n → page L i = z64) : dirtyL L n t = [] := by
  cases hl : dirtyL L n t with
  | nil => rfl
  | cons i r =>
    have hm : i ∈ dirtyL L n t := by rw [hl]; simp
    obtain ⟨h1, h2, h3⟩ := (dirty_mem L n t i).1 hm
    exact absurd (h i h2 h1) h3
theorem right_ok {d : Dv} (h : On d) (t : Nat) (ht : t ≤ d.n) : rightE d (t : Int) = 0 := by
  unfold rightE
  rw [if_neg (by omega), h.dead]; rfl
/-- a wipe with power: all behind the tail is blank, all else is as it was -/
theorem wipe_on {d : Dv} (h : On d) (hw : d.writes + 5000 ≤ 1000000000) (t : Nat) (ht : t ≤ d.n) :
    (wipeR d (t : Int)).2.1 = ((dirtyL d.L d.n t).length : Int) ∧ (wipeR d (t : Int)).2.2 = 0 ∧ On (wipeR d (t : Int)).1 ∧ (wipeR d (t : Int)).1.n = d.n ∧ (wipeR d (t : Int)).1.writes = d.writes + (dirtyL d.L d.n t).length ∧
    (∀ i, i < t → page (wipeR d (t : Int)).1.L i = page d.L i) ∧ ∀ i, t ≤ i → i < d.n → page (wipeR d (t : Int)).1.L i = z64 := by
  have hl := dirtyL_len d.L t d.n
  have hn2 := h.ok.n2
  obtain ⟨q1, q2, q3, q4, q5⟩ := wipe_plain (dirtyL d.L d.n t) d h (by omega) (fun i hi => ((dirty_mem _ _ _ _).1 hi).1)
  unfold wipeR
  rw [if_pos (right_ok h t ht), Int.toNat_natCast, if_pos q1]
  refine ⟨rfl, rfl, q2, q3, q4, fun i hi => ?_, fun i h1 h2 => ?_⟩
  · simp only
    rw [q5, if_neg]
    intro hm
    have := ((dirty_mem _ _ _ _).1 hm).2.1
    omega
  · simp only
    rw [q5]
    split
    · rfl
    · next hm =>
      rcases Classical.em (page d.L i = z64) with e | e
      · exact e
      · exact absurd ((dirty_mem _ _ _ _).2 ⟨h2, h1, e⟩) hm
/-- nothing is written where nothing is dirty -/
theorem wipe_nothing {d : Dv} (t : Int) (h : dirtyL d.L d.n t.toNat = []) : (wipeR d t).1 = d ∧ (wipeR d t).2.1 = 0 ∧ (wipeR d t).2.2 = rightE d t := by
  unfold wipeR
  by_cases h0 : rightE d t = 0
  · rw [if_pos h0, h, wipeW, if_pos rfl, h0]
    exact ⟨rfl, rfl, rfl⟩
  · rw [if_neg h0]; exact ⟨rfl, rfl, rfl⟩
section
variable {pg pg' : Nat → List UInt8} {n t : Nat} {a : List (List UInt8)} {b : List UInt8}
/-- behind what stands all is blank: no more stands -/
theorem find_blank (hf : findW pg n 0 [] = (a, t)) (hlow : ∀ i, i < t → pg' i = pg i) (hz : ∀ i, t ≤ i → i < n → pg' i = z64) : findW pg' n 0 [] = (a, t) := by
  rw [find_same (pg := pg) n 0 [] (by omega) (fun i _ hi => hlow i (by rw [hf] at hi; exact hi)), hf]
  rw [findW_stop]
  by_cases h : t < n
  · rw [batch_nobegin (by rw [hz t (Nat.le_refl _) h]; exact begin_z)]; simp
  · rw [batch_far (by omega)]; simp
/-- one more batch, whole, and blank behind it -/
theorem find_append (hf : findW pg n 0 [] = (a, t)) (hlow : ∀ i, i < t → pg' i = pg i) (hr : rightB ((a.length + 1 : Nat) : Int) (b.length : Int) = true) (hm : (pagesL (a.length + 1) b).length ≤ n - t)
    (hp : ∀ j, j < (pagesL (a.length + 1) b).length → pg' (t + j) = (pagesL (a.length + 1) b).getD j []) (hz : ∀ i, t + (pagesL (a.length + 1) b).length ≤ i → i < n → pg' i = z64) :
    findW pg' n 0 [] = (a ++ [b], t + (pagesL (a.length + 1) b).length) := by
  rw [find_same (pg := pg) n 0 [] (by omega) (fun i _ hi => hlow i (by rw [hf] at hi; exact hi)), hf]
  have hb := batch_whole (pg := pg') (n := n) (at_ := t) hr hp hm
  have hpos : 0 < (pagesL (a.length + 1) b).length := by unfold pagesL; simp
  simp only
  rw [findW_more (by rw [hb]; exact hpos), hb, findW_stop]
  simp only
  generalize t + (pagesL (a.length + 1) b).length = t2 at *
  by_cases h : t2 < n
  · rw [batch_nobegin (by rw [hz _ (Nat.le_refl _) h]; exact begin_z)]; simp
  · rw [batch_far (by omega)]; simp
/-- a beginning of a batch -/
theorem find_torn (hf : findW pg n 0 [] = (a, t)) (hlow : ∀ i, i < t → pg' i = pg i) (hr : rightB ((a.length + 1 : Nat) : Int) (b.length : Int) = true) (hm : (pagesL (a.length + 1) b).length ≤ n - t) (htn : t ≤ n)
    (k torn : Nat) (hk : k < (pagesL (a.length + 1) b).length) (hp : ∀ j, j < k → pg' (t + j) = (pagesL (a.length + 1) b).getD j []) (hat : pg' (t + k) = ((pagesL (a.length + 1) b).getD k []).take torn ++ z64.drop torn)
    (hz : ∀ i, t + k < i → i < n → pg' i = z64) :
    findW pg' n 0 [] = (a, t) ∨ (findW pg' n 0 [] = (a ++ [b], t + (pagesL (a.length + 1) b).length) ∧ k + 1 = (pagesL (a.length + 1) b).length) := by
  obtain ⟨q1, q2, q3, q4⟩ := rightB_yes hr
  have hpl : (pagesL (a.length + 1) b).length = (cutsL b).length + 2 := by unfold pagesL; simp
  have hs := sumL_lt b
  have hstop : batchR pg' n t (a.length + 1) = ([], 0) → findW pg' n 0 [] = (a, t) := fun h => by
    rw [find_same (pg := pg) n 0 [] (by omega) (fun i _ hi => hlow i (by rw [hf] at hi; exact hi)), hf]
    rw [findW_stop]
    simp only
    rw [h]; simp
  by_cases h0 : k = 0
  · -- the head was cut off: its end is blank
    left
    apply hstop
    cases hbb : beginB (pg' t) with
    | false => exact batch_nobegin hbb
    | true =>
      obtain ⟨hn, _, _⟩ := begin_need hbb
      by_cases hfit : needN (hdL (pg' t)) ≤ n - t
      · exact batch_noend (by rw [hz _ (by omega) (by omega)]; exact end_z _ _)
      · unfold batchR
        rw [if_neg (fun e => hfit e.2.2)]
  · -- the head is whole
    have h1 := hp 0 (by omega)
    rw [Nat.add_zero, show (pagesL (a.length + 1) b).getD 0 [] = firstL (a.length + 1) b.length (sumL b) from rfl] at h1
    obtain ⟨e1, e2, e3⟩ := hd_firstL (a := a.length + 1) (b := b.length) (c := sumL b) (by omega) (by omega) (by omega)
    have hlen : needN b.length = (pagesL (a.length + 1) b).length := by
      have := needI_pages2 (seq := a.length + 1) hr
      unfold needN
      omega
    by_cases hk1 : k + 1 = (pagesL (a.length + 1) b).length
    · by_cases he : pg' (t + k) = lastL (a.length + 1) (sumL b)
      · right
        refine ⟨find_append hf hlow hr hm (fun j hj => ?_) (fun i h1 h2 => hz i (by omega) h2), hk1⟩
        by_cases hjk : j < k
        · exact hp j hjk
        · obtain rfl : j = k := by omega
          rw [he]
          unfold pagesL
          rw [show j = (cutsL b).length + 1 by omega]
          simp [List.getD]
      · left
        apply hstop
        apply batch_noend
        rw [h1, e2, e3, hlen, show t + (pagesL (a.length + 1) b).length - 1 = t + k by omega]
        cases hee : endB (pg' (t + k)) ((a.length + 1 : Nat) : Int) (sumL b) with
        | false => rfl
        | true => exact absurd (end_is hee) he
    · left
      apply hstop
      apply batch_noend
      rw [h1, e2, e3, hlen, hz _ (by omega) (by omega)]
      exact end_z _ _
end
end Go.Proofs.Ytmcjefdnkcpghaa
/- THE WALK OF octroilaw11.lives. -/
namespace Go.Proofs.Ytmcjefdnkcpghaa
open Go.RowKit
def livesP (s0 s1 : Value) : List Ptv := [⟨1, -1, s0, [5], false⟩, ⟨2, 1, s1, [6], false⟩]
theorem lives_parts (s0 s1 : Value) : partsP (livesP s0 s1) = pagesL 1 [5] ++ [firstL 2 1 (sumL [6])] := by
  have h1 : partP ⟨1, -1, s0, [5], false⟩ = pagesL 1 [5] := by
    unfold partP pagesR
    rw [if_pos (show rightB 1 (([5] : List UInt8).length : Int) = true by decide)]
    simp
  have h2 : partP ⟨2, 1, s1, [6], false⟩ = [firstL 2 1 (sumL [6])] := by
    unfold partP pagesR
    rw [if_pos (show rightB 2 (([6] : List UInt8).length : Int) = true by decide)]
    have hl : (pagesL 2 [6]).length = 3 := by
      have := needI_pages2 (seq := 2) (l := [6]) (s := 2) (by decide)
      have e : needI (([6] : List UInt8).length : Int) = 3 := by decide
      omega
    show (if 0 ≤ (1 : Int) ∧ (1 : Int) < ((pagesL 2 [6]).length : Int) then (pagesL 2 [6]).take 1 else pagesL 2 [6]) = _
    rw [hl, if_pos (by decide)]
    unfold pagesL
    rfl
  unfold partsP livesP
  simp [h1, h2]
theorem lives11_plain {d : Dv} {s0 s1 : Value} (h : LaidD 9 (partsP (livesP s0 s1)) 9 d) : findW (page d.L) d.n 0 [] = ([[5]], 3) ∧ (dirtyL d.L d.n 3).length = 1 := by
  rw [lives_parts] at h
  have hn := h.n
  have hp := h.pg
  have hl : (pagesL 1 [5]).length = 3 := by
    have := needI_pages2 (seq := 1) (l := [5]) (s := 1) (by decide)
    have e : needI (([5] : List UInt8).length : Int) = 3 := by decide
    omega
  have h3 : page d.L 3 = firstL 2 1 (sumL [6]) := by
    rw [hp 3 (by omega), if_pos (by omega), List.getElem?_append_right (by omega), hl]; rfl
  have hz : ∀ i, 4 ≤ i → i < 9 → page d.L i = z64 := fun i h1 h2 => by
    rw [hp i h2, if_pos h2, List.getElem?_eq_none (by simp; omega)]; rfl
  rw [hn]
  constructor
  · have hb := batch_whole (pg := page d.L) (n := 9) (at_ := 0) (seq := 1) (l := [5]) (by decide) (fun j hj => by
      rw [Nat.zero_add, hp j (by omega), if_pos (by omega), List.getElem?_append_left hj]; simp [List.getD, hj]) (by omega)
    rw [hl] at hb
    have hb2 : batchR (page d.L) 9 3 2 = ([], 0) := by
      apply batch_noend
      obtain ⟨e1, e2, e3⟩ := hd_firstL (a := 2) (b := 1) (c := sumL [6]) (by decide) (by decide) (sumL_lt _)
      rw [h3, e2, e3, show needN 1 = 3 by decide, hz 5 (by omega) (by omega)]
      exact end_z _ _
    rw [findW_more (by show 0 < (batchR (page d.L) 9 0 1).2; rw [hb]; decide)]
    show findW (page d.L) 9 (0 + (batchR (page d.L) 9 0 1).2) ([] ++ [(batchR (page d.L) 9 0 1).1]) = _
    rw [hb, findW_stop]
    · rfl
    · show ¬ 0 < (batchR (page d.L) 9 3 2).2
      rw [hb2]; decide
  · have hd : dirtyL d.L 9 3 = [3] := by
      have hlow := dirtyL_low d.L 3 3 (Nat.le_refl _)
      have e3 := dirtyL_take d.L 3 3
      have e4 := dirtyL_take d.L 3 4
      have e5 := dirtyL_take d.L 3 5
      have e6 := dirtyL_take d.L 3 6
      have e7 := dirtyL_take d.L 3 7
      have e8 := dirtyL_take d.L 3 8
      rw [h3, blank_first, hlow] at e3
      rw [hz 4 (by omega) (by omega), blank_z, e3] at e4
      rw [hz 5 (by omega) (by omega), blank_z, e4] at e5
      rw [hz 6 (by omega) (by omega), blank_z, e5] at e6
      rw [hz 7 (by omega) (by omega), blank_z, e6] at e7
      rw [hz 8 (by omega) (by omega), blank_z, e7] at e8
      rw [e8]; simp
    rw [hd]; rfl
theorem Ptv.ok_mk {s m : Int} {bv : Value} {b : List UInt8} {r : Bool} (h1 : -9223372036854775808 ≤ s) (h2 : s ≤ 9223372036854775807) (h3 : -9223372036854775808 ≤ m) (h4 : m ≤ 9223372036854775807) : Ptv.ok ⟨s, m, bv, b, r⟩ := ⟨h1, h2, h3, h4⟩
theorem parts_lit (w : World) : Parts (((w.alloc (.cells #[.int .u8 5] 5)).alloc (.cells #[.int .u8 6] 5)).alloc (.cells #[.int .i64 1, .int .i64 (-1), .slice (some ⟨w.heap.size, 0, none⟩) 1 1, .bool false, .int .i64 2, .int .i64 1, .slice (some ⟨w.heap.size + 1, 0, none⟩) 1 1, .bool false] 154)) (w.heap.size + 1 + 1 + 1) (.slice (some ⟨w.heap.size + 1 + 1, 0, none⟩) 2 2) (livesP (.slice (some ⟨w.heap.size, 0, none⟩) 1 1) (.slice (some ⟨w.heap.size + 1, 0, none⟩) 1 1)) := by
  have hb := heap_alloc_new ((w.alloc (.cells #[.int .u8 5] 5)).alloc (.cells #[.int .u8 6] 5)) (.cells #[.int .i64 1, .int .i64 (-1), .slice (some ⟨w.heap.size, 0, none⟩) 1 1, .bool false, .int .i64 2, .int .i64 1, .slice (some ⟨w.heap.size + 1, 0, none⟩) 1 1, .bool false] 154 (0, 0))
  simp only [World.size_alloc] at hb
  have hy0 := ((byt_one w 5 5 rfl).alloc (by simp) (.cells #[.int .u8 6] 5)).alloc (by simp) (.cells #[.int .i64 1, .int .i64 (-1), .slice (some ⟨w.heap.size, 0, none⟩) 1 1, .bool false, .int .i64 2, .int .i64 1, .slice (some ⟨w.heap.size + 1, 0, none⟩) 1 1, .bool false] 154)
  have hy1 := (byt_one (w.alloc (.cells #[.int .u8 5] 5)) 6 6 rfl).alloc (by simp) (.cells #[.int .i64 1, .int .i64 (-1), .slice (some ⟨w.heap.size, 0, none⟩) 1 1, .bool false, .int .i64 2, .int .i64 1, .slice (some ⟨w.heap.size + 1, 0, none⟩) 1 1, .bool false] 154)
  simp only [World.size_alloc] at hy1
  refine ⟨some ⟨w.heap.size + 1 + 1, 0, none⟩, 2, rfl, Nat.le_refl _, by simp [maxLen], fun _ => ⟨_, rfl, by simp, fun j o hj => ?_⟩⟩
  match j with
  | 0 =>
    cases hj
    exact ⟨Ptv.ok_mk (by decide) (by decide) (by decide) (by decide), cells_of hb 0 _ rfl, cells_of hb 1 _ rfl, cells_of hb 2 _ rfl, cells_of hb 3 _ rfl, hy0.more (by omega)⟩
  | 1 =>
    cases hj
    exact ⟨Ptv.ok_mk (by decide) (by decide) (by decide) (by decide), cells_of hb 4 _ rfl, cells_of hb 5 _ rfl, cells_of hb 6 _ rfl, cells_of hb 7 _ rfl, hy1.more (by omega)⟩
  | j + 2 => simp [livesP] at hj
set_option maxRecDepth 100000 in
set_option maxHeartbeats 4000000 in
theorem lives11_any (w : World) : Calls Try.prog 64 #[] w fun e w' => e = .returned (.bool true) ∧ Below w.heap.size w w' := by
  have hbd1 : ∀ W A, (Instr.build 154 #[(0, .int .i64 1), (1, .int .i64 (-1)), (2, .slice (some A) 1 1)]).run Try.prog W = .ok (.agg #[.int .i64 1, .int .i64 (-1), .slice (some A) 1 1, .bool false]) W := fun W A => run_build W 154 _ _ (by rfl)
  have hbd2 : ∀ W A, (Instr.build 154 #[(0, .int .i64 2), (1, .int .i64 1), (2, .slice (some A) 1 1)]).run Try.prog W = .ok (.agg #[.int .i64 2, .int .i64 1, .slice (some A) 1 1, .bool false]) W := fun W A => run_build W 154 _ _ (by rfl)
  have hpt := ppages_any (parts_lit w) (by simp) (by simp [livesP]) (by intro x hx; simp [livesP] at hx; rcases hx with rfl | rfl <;> simp)
  have HLP := Lib.hid (fun (d : Dv) => @lives11_plain d (.slice (some ⟨w.heap.size, 0, none⟩) 1 1) (.slice (some ⟨w.heap.size + 1, 0, none⟩) 1 1))
  have HPA := Lib.hid (partsP_all (livesP (.slice (some ⟨w.heap.size, 0, none⟩) 1 1) (.slice (some ⟨w.heap.size + 1, 0, none⟩) 1 1)))
  have HPL := Lib.hid (show (partsP (livesP (.slice (some ⟨w.heap.size, 0, none⟩) 1 1) (.slice (some ⟨w.heap.size + 1, 0, none⟩) 1 1))).length ≤ 100000 from by
    have := partsP_len (livesP (.slice (some ⟨w.heap.size, 0, none⟩) 1 1) (.slice (some ⟨w.heap.size + 1, 0, none⟩) 1 1)) (by intro x hx; simp [livesP] at hx; rcases hx with rfl | rfl <;> simp) 2 (by simp [livesP])
    rw [List.take_of_length_le (by simp [livesP])] at this
    omega)
  generalize livesP (.slice (some ⟨w.heap.size, 0, none⟩) 1 1) (.slice (some ⟨w.heap.size + 1, 0, none⟩) 1 1) = LS at *
  have hw3 : Below w.heap.size w (((w.alloc (.cells #[.int .u8 5] 5)).alloc (.cells #[.int .u8 6] 5)).alloc (.cells #[.int .i64 1, .int .i64 (-1), .slice (some ⟨w.heap.size, 0, none⟩) 1 1, .bool false, .int .i64 2, .int .i64 1, .slice (some ⟨w.heap.size + 1, 0, none⟩) 1 1, .bool false] 154)) := (((Below.refl _ _).alloc (Nat.le_refl _) _).alloc (by simp) _).alloc (by simp; omega) _
  have HW3 := Lib.hid hw3
  clear hw3
  go_enter Try.func64, Try.ntmps64
  go_wp2_with (first
    | (go_at_call 66; (with_reducible refine hpt.mono ?_); rintro e w1 ⟨v1, rfl, ho1, hb1⟩
       have hla := laid_any ho1.byts (Nat.le_refl _) HPA.out HPL.out 9 (by omega) (by omega)
       rw [show ((9 : Nat) : Int) = 9 from rfl] at hla
       have HB1 := Lib.hid (HW3.out.trans (hb1.mono HW3.out.size))
       clear ho1 hb1)
    | (go_at_call 65; (with_reducible refine hla.mono ?_); rintro e w2 ⟨g, v2, d, Z, rfl, hd2, hz2, hk2, hr2, hl2, hb2⟩
       obtain ⟨A2, c2, After2, Torn2, rfl⟩ := hr2.form
       have hbo : Below w2.heap.size w2 (w2.alloc (.cells #[.slice A2 d.n c2, .int .i64 After2, .int .i64 Torn2, .bool d.dead, .int .i64 (d.writes : Int)] 55)) := (Below.refl _ _).alloc (Nat.le_refl _) _
       have hd3 := hd2.below hbo
       have hfi := sfind_any hd3 hl2.dead
       have HD3 := Lib.hid hd3
       have HK3 := Lib.hid (fun b hb => ((hk2 b hb).below hbo).lt)
       have HB2 := Lib.hid (HB1.out.trans ((hb2.trans (hbo.mono hb2.size)).mono HB1.out.size))
       obtain ⟨hfw, hdl⟩ := HLP.out d hl2
       rw [hfw] at hfi
       unfold SFindPost at hfi
       have HDL := Lib.hid hdl
       have HR3 := Lib.hid (right_ok ⟨hl2.ok, hl2.fuse, hl2.dead⟩ 3 (by rw [hl2.n]; omega))
       clear hd2 hz2 hk2 hr2 hl2 hb2 hbo hd3 hfw hdl)
    | (go_at_call 67; (with_reducible refine hfi.mono ?_); rintro e w3 ⟨v3, rfl, ho3, hb3⟩
       obtain ⟨A3, n3, c3, rfl, hn3⟩ := ho3.form
       simp only [List.length_cons, List.length_nil, Nat.zero_add] at hn3
       subst hn3
       have hdi := sDirty_any (HD3.out.below hb3) (fun b hb => Nat.lt_of_lt_of_le (HK3.out b hb) hb3.size) ((3 : Nat) : Int)
       rw [HR3.out, if_pos rfl, Int.toNat_natCast, HDL.out, show ((3 : Nat) : Int) = 3 from rfl, show ((1 : Nat) : Int) = 1 from rfl] at hdi
       obtain ⟨ad3, u3, rfl, hadB, hcell, hbu⟩ := (show Byts w3 w3.heap.size (.slice A3 ([[5]] : List (List UInt8)).length c3) [[5]] from ho3.byts).atv 0 (by simp)
       have HBU := Lib.hid hbu
       clear hbu
       have HB3 := Lib.hid (HB2.out.trans (hb3.mono HB2.out.size))
       have HO3 := Lib.hid ho3
       clear hb3 ho3)
    | (go_at_call 69; (with_reducible refine hdi.mono ?_); rintro e w4 ⟨rfl, hb4⟩
       have hc4 := (hb4.cell (p := ad3.add 0) (by rw [addr_add_block]; exact hadB)).trans hcell
       rw [show ad3.add 0 = ad3 by simp [Addr.add]] at hc4
       have hcv : (convert 23 9 u3).run Try.prog w4 = .ok (.string ⟨#[5]⟩) w4 := ((HBU.out.below hb4).strA)
       have HB4 := Lib.hid (HB3.out.trans (hb4.mono HB3.out.size))
       clear hb4 hcell))
  go_ret
  exact ⟨rfl, HB4.out⟩
end Go.Proofs.Ytmcjefdnkcpghaa
/- DISKS IN A LAW: what stands between its calls; a batch that power cut off. -/
namespace Go.Proofs.Ytmcjefdnkcpghaa
open Go.RowKit
/-- behind Laid: the disk, and the document's in its box -/
theorem LaidPost.pl {w0 w w2 : World} {g : Nat} {d : Dv} {Z : Nat → Prop} {v0 v1 v2 v3 v4 : Value} (hb0 : Below w0.heap.size w0 w) (hd : Dk w2 Z g d) (hz : ∀ b, Z b → w.heap.size ≤ b) (hk : ∀ b, Z b → KindD w2 b) (hr : Rv w2 w2.heap.size (.agg #[v0, v1, v2, v3, v4]) d) (hb : Below w.heap.size w w2) :
    Pl w0 w2.heap.size g d Z (.agg #[v0, v1, v2, v3, v4]) (w2.alloc (.cells #[v0, v1, v2, v3, v4] 55)) := by
  have hal : Below w2.heap.size w2 (w2.alloc (.cells #[v0, v1, v2, v3, v4] 55)) := (Below.refl _ _).alloc (Nat.le_refl _) _
  have h0 := hb0.size
  have h1 := hb.size
  exact ⟨hd.below hal, fun b hb => Nat.le_trans h0 (hz b hb), fun b hb => (hk b hb).below hal, ⟨_, _, _, _, _, rfl, heap_alloc_new w2 _⟩, by omega, (hr.below hal).heap, hb0.trans ((hb.trans (hal.mono h1)).mono h0)⟩
def LawPost11 (w : World) (e : Ending) (w' : World) : Prop := e = .returned (.bool true) ∧ Below w.heap.size w w'
theorem fuses_okk {d : Dv} (h : d.ok) (a t : Int) (ha : a ≤ 9223372036854775807) : (d.fuses a t).1.ok := by
  unfold Dv.fuses
  split
  · exact h
  · exact ⟨h.n1, h.n2, h.len, fun a' t' e => (by cases e; omega), h.wr⟩
/-- a disk, since the law began -/
structure Dq (w0 : World) (g : Nat) (d : Dv) (Z : Nat → Prop) (w : World) : Prop where
  dk : Dk w Z g d
  lo : ∀ b, Z b → w0.heap.size ≤ b
  hi : ∀ b, Z b → b < w.heap.size
  below : Below w0.heap.size w0 w
section
variable {w0 w w' : World} {g : Nat} {d d' : Dv} {Z : Nat → Prop}
theorem Dq.grow (h : Dq w0 g d Z w) (hb : Below w.heap.size w w') : Dq w0 g d Z w' :=
  ⟨h.dk.below hb, h.lo, fun b hz => Nat.lt_of_lt_of_le (h.hi b hz) hb.size, h.below.trans (hb.mono h.below.size)⟩
theorem Dq.wrote (h : Dq w0 g d Z w) (hd : Dk w' Z g d') (hk : Kept (fun b => ¬ Z b) w w') : Dq w0 g d' Z w' :=
  ⟨hd, h.lo, fun b hz => Nat.lt_of_lt_of_le (h.hi b hz) hk.size, h.below.trans (hk.toBelow (B := w0.heap.size) h.below.size (fun b hb hz => by have := h.lo b hz; omega))⟩
theorem Dq.fused (h : Dq w0 g d Z w) (hd : Dk w' (fun b => Z b ∨ (w.heap.size ≤ b ∧ b < w'.heap.size)) g d') (hk : Kept (fun b => ¬ Z b) w w') : Dq w0 g d' (fun b => Z b ∨ (w.heap.size ≤ b ∧ b < w'.heap.size)) w' :=
  ⟨hd, fun b hz => by
    rcases hz with h1 | h1
    · exact h.lo b h1
    · exact Nat.le_trans h.below.size h1.1, fun b hz => by
    rcases hz with h1 | h1
    · exact Nat.lt_of_lt_of_le (h.hi b h1) hk.size
    · exact h1.2, h.below.trans (hk.toBelow (B := w0.heap.size) h.below.size (fun b hb hz => by have := h.lo b hz; omega))⟩
/-- a row that lies above the disk, in what there is -/
theorem OwB.lt {D : Nat → Prop} {base : Nat} {v : Value} {ls : List (List UInt8)} (h : OwB D w base v ls) : OwB (fun b => D b ∧ b < w.heap.size) w base v ls := by
  obtain ⟨ts, h1, h2, h3, h4⟩ := h
  refine ⟨ts, h1, fun g hg => ⟨h2 g hg, ?_⟩, h3, fun j t l a b => ⟨(h4 j t l a b).1, fun ad n c e h0 => ?_⟩⟩
  · obtain ⟨cs, fr, hh⟩ := h1.kind g hg
    exact lt_of_block hh
  · obtain ⟨q1, cs, t', fr, q2, q3⟩ := (h4 j t l a b).2 ad n c e h0
    exact ⟨⟨q1, lt_of_block q2⟩, cs, t', fr, q2, q3⟩
end
theorem wipes_plain {d : Dv} (h : On d) (hw : d.writes + 10000 ≤ 1000000000) {a : List (List UInt8)} {t : Nat} (hf : findW (page d.L) d.n 0 [] = (a, t)) :
    t ≤ d.n ∧ a.length ≤ 100000 ∧ ∃ d1 m, wipeR d (t : Int) = (d1, ((m : Nat) : Int), 0) ∧ wipeR d1 (t : Int) = (d1, 0, 0) ∧ rightE d1 (t : Int) = 0 ∧ On d1 ∧ d1.n = d.n ∧ d1.writes + 5000 ≤ 1000000000 ∧ findW (page d1.L) d1.n 0 [] = (a, t) ∧ dirtyL d1.L d1.n t = [] ∧ (∀ i, i < t → page d1.L i = page d.L i) ∧ ∀ i, t ≤ i → i < d1.n → page d1.L i = z64 := by
  have hff := find_facts (pg := page d.L) (n := d.n) d.n 0 [] (by omega) (by omega)
  rw [hf] at hff
  obtain ⟨_, h2, _, _, h5⟩ := hff
  simp only [List.length_nil] at h2 h5
  have hn2 := h.ok.n2
  obtain ⟨q1, q2, q3, q4, q5, q6, q7⟩ := wipe_on h (by omega) t h2
  have hl := dirtyL_len d.L t d.n
  refine ⟨h2, by omega, (wipeR d (t : Int)).1, (dirtyL d.L d.n t).length, by rw [← q1, ← q2], ?_, right_ok q3 t (by rw [q4]; exact h2), q3, q4, by rw [q5]; omega, ?_, ?_, q6, fun i h1 h2 => q7 i h1 (by rw [← q4]; exact h2)⟩
  · have hd : dirtyL (wipeR d (t : Int)).1.L (wipeR d (t : Int)).1.n t = [] := by rw [q4]; exact dirty_none _ _ _ (fun i h1 h2 => q7 i h1 h2)
    obtain ⟨e1, e2, e3⟩ := wipe_nothing (d := (wipeR d (t : Int)).1) (t : Int) (by rw [Int.toNat_natCast]; exact hd)
    rw [right_ok q3 t (by rw [q4]; exact h2)] at e3
    exact Prod.ext e1 (Prod.ext e2 e3)
  · rw [q4]; exact find_blank hf q6 (fun i h1 h2 => q7 i h1 h2)
  · rw [q4]; exact dirty_none _ _ _ (fun i h1 h2 => q7 i h1 h2)
/-- k of the pages P were written from t on -/
structure Wrote (d1 : Dv) (t : Nat) (P : List (List UInt8)) (k : Nat) (d : Dv) : Prop where
  on : On d
  n : d.n = d1.n
  writes : d.writes = d1.writes + k
  pg : ∀ j, page d.L j = if t ≤ j ∧ j < t + k then P.getD (j - t) [] else page d1.L j
theorem Wrote.start {d1 : Dv} (h : On d1) (t : Nat) (P : List (List UInt8)) : Wrote d1 t P 0 d1 := ⟨h, rfl, rfl, fun j => by rw [if_neg (by omega)]⟩
theorem Wrote.step {d1 d : Dv} {t k : Nat} {P : List (List UInt8)} (h : Wrote d1 t P k d) (hw : d.writes + 1 ≤ 1000000000) (hn : t + k < d.n) (hk : k < P.length) (h64 : P[k].length = 64) :
    (d.write ((t + k : Nat) : Int) P[k]).2 = 0 ∧ Wrote d1 t P (k + 1) (d.write ((t + k : Nat) : Int) P[k]).1 := by
  obtain ⟨q1, q2, q3, q4, q5⟩ := h.on.write hw (t + k) hn P[k] h64
  refine ⟨q1, q2, q3.trans h.n, by rw [q4, h.writes]; omega, fun j => ?_⟩
  rw [q5]
  by_cases hj : j = t + k
  · subst hj
    rw [if_pos rfl, if_pos (by omega), show t + k - t = k by omega]
    simp [List.getD, hk]
  · rw [if_neg hj, h.pg]
    by_cases h1 : t ≤ j ∧ j < t + k
    · rw [if_pos h1, if_pos (by omega)]
    · rw [if_neg h1, if_neg (by omega)]
/-- a write that power cuts off, and power again -/
theorem torn_on {d : Dv} (h : On d) (i : Nat) (hi : i < d.n) (m : List UInt8) (hm : m.length = 64) (tr : Nat) (htr : tr ≤ 64) :
    d.fuses 0 (tr : Int) = ({ d with fuse := some (0, tr) }, 0) ∧ ∃ dw, ({ d with fuse := some (0, tr) } : Dv).write (i : Int) m = (dw, 32) ∧
    On { dw with fuse := none, dead := false } ∧ dw.n = d.n ∧ dw.writes = d.writes ∧ ∀ j, page dw.L j = if j = i then m.take tr ++ (page d.L i).drop tr else page d.L j := by
  have hf : d.fuses 0 (tr : Int) = ({ d with fuse := some (0, tr) }, 0) := by
    unfold Dv.fuses
    rw [if_neg (by omega)]
    simp
  have hc : ({ d with fuse := some (0, tr) } : Dv).can (i : Int) = 0 := by unfold Dv.can; simp only [h.dead]; rw [if_neg (by simp), if_neg (by omega)]
  have hw : ({ d with fuse := some (0, tr) } : Dv).write (i : Int) m = ({ d with L := splice d.L ((i : Int).toNat * 64) (m.take tr), fuse := none, dead := true }, 32) := by
    unfold Dv.write
    rw [if_neg (by simp [hc]), if_neg (by simp [hm])]
  refine ⟨hf, _, hw, ?_, rfl, rfl, fun j => ?_⟩
  · have hl : (m.take tr).length = tr := by rw [List.length_take]; omega
    exact ⟨⟨h.ok.n1, h.ok.n2, by simp only [Int.toNat_natCast]; rw [splice_len, h.ok.len]; rw [hl, h.ok.len]; omega, fun a t e => (by cases e), h.ok.wr⟩, rfl, rfl⟩
  · simp only [Int.toNat_natCast]
    by_cases hj : j = i
    · subst hj
      rw [if_pos rfl, page_splice_same h.ok.len hi hm htr]
    · rw [if_neg hj, page_splice_other h.ok.len hi hm htr hj]
/-- what stands behind it -/
theorem torn_plain {d1 d2 d3 : Dv} {t k tr : Nat} {a : List (List UInt8)} {b : List UInt8} (hf : findW (page d1.L) d1.n 0 [] = (a, t)) (hz : ∀ i, t ≤ i → i < d1.n → page d1.L i = z64) (htn : t ≤ d1.n)
    (hr : rightB ((a.length + 1 : Nat) : Int) (b.length : Int) = true) (hm : (pagesL (a.length + 1) b).length ≤ d1.n - t) (hw : Wrote d1 t (pagesL (a.length + 1) b) k d2) (hk : k < (pagesL (a.length + 1) b).length) (hn : d3.n = d2.n)
    (hp : ∀ j, page d3.L j = if j = t + k then ((pagesL (a.length + 1) b)[k]).take tr ++ (page d2.L (t + k)).drop tr else page d2.L j) :
    findW (page d3.L) d3.n 0 [] = (a, t) ∨ (findW (page d3.L) d3.n 0 [] = (a ++ [b], t + (pagesL (a.length + 1) b).length) ∧ k + 1 = (pagesL (a.length + 1) b).length) := by
  rw [hn, hw.n]
  refine find_torn (k := k) (torn := tr) hf (fun i hi => ?_) hr hm htn hk (fun j hj => ?_) ?_ (fun i h1 h2 => ?_)
  · rw [hp, if_neg (by omega), hw.pg, if_neg (by omega)]
  · rw [hp, if_neg (by omega), hw.pg, if_pos (by omega), show t + j - t = j by omega]
  · rw [hp, if_pos rfl, hw.pg, if_neg (by omega), hz _ (by omega) (by omega)]
    congr 2
    simp [List.getD, hk]
  · rw [hp, if_neg (by omega), hw.pg, if_neg (by omega), hz _ (by omega) h2]
end Go.Proofs.Ytmcjefdnkcpghaa
