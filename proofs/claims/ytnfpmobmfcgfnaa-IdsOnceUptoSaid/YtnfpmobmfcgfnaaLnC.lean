/- DOCUMENTS AS ELEMENTS OF A SLICE; slices.Clone OF LINES AND OF TEXTS. -/
import Derived.Test.YtnfpmobmfcgfnaaLnB
import Derived.Test.YtnfpmobmfcgfnaaKyA
import Derived.Deep.DeepCutAuto
import Derived.Lib.SliceRun
namespace Go.Proofs.Ytnfpmobmfcgfnaa
open Go.RowKit
section
variable {w w' : World} {B B' : Nat} {v : Value} {ls : List Ln}
theorem Lns.slN (h : Lns w B v ls) : SlN lnK w B v ls := by
  obtain ⟨A, c, hv, hc, hm, hr⟩ := h
  refine ⟨A, c, hv, hc, hm, fun h0 => ?_⟩
  obtain ⟨ad, hA, hb, hx⟩ := hr h0
  refine ⟨ad, hA, hb, fun i u hu => ?_⟩
  obtain ⟨k, j, x, rfl, hj, hk, hu⟩ := lnK.flat_in hu
  rw [← addr_add_add]
  exact (hx k x hk).2.flat j u hu
theorem SlN.lns (h : SlN lnK w B v ls) (hok : ∀ o ∈ ls, o.ok) : Lns w B v ls := by
  have hat := fun k hk => h.at_ k hk
  obtain ⟨A, c, hv, hc, hm, hr⟩ := h
  refine ⟨A, c, hv, hc, hm, fun h0 => ?_⟩
  obtain ⟨ad, hA, hb, hx⟩ := hr h0
  refine ⟨ad, hA, hb, fun k o hk => ?_⟩
  have hkl := (List.getElem?_eq_some_iff.1 hk).1
  obtain ⟨ad', c', hv', hb', hx'⟩ := hat k hkl
  rw [hv, hA] at hv'
  cases hv'
  have ho : ls[k] = o := (List.getElem?_eq_some_iff.1 hk).2
  rw [ho] at hx'
  exact ⟨hok o (List.mem_of_getElem? hk), LnAt.of hx'⟩
end
abbrev TriD := Option Addr × Nat × Nat
def triV (t : TriD) : Value := .slice t.1 t.2.1 t.2.2
/-- documents as elements -/
def docK : Ke (Dm × TriD) := ⟨25, fun p => (p.1.vs (triV p.2)).toList, .agg (Dm.zero.vs (.slice none 0 0)), 9, 120, fun _ => rfl, fun p u hu => by
  simp only [Dm.vs, List.mem_cons, List.not_mem_nil, or_false] at hu
  rcases hu with rfl | rfl | rfl | rfl | rfl | rfl | rfl | rfl | rfl <;> rfl, by kernel_rfl, rfl, by decide⟩
/-- a document at an address -/
structure DcAt (w : World) (p : Addr) (o : Dm) (lv : Value) : Prop where
  c0 : w.cell? p = some (.string o.id)
  c1 : w.cell? ⟨p.block, p.off + 1, none⟩ = some (.bool o.sale)
  c2 : w.cell? ⟨p.block, p.off + 2, none⟩ = some (.bool o.cred)
  c3 : w.cell? ⟨p.block, p.off + 3, none⟩ = some (.string o.ref)
  c4 : w.cell? ⟨p.block, p.off + 4, none⟩ = some (.int .i64 o.day)
  c5 : w.cell? ⟨p.block, p.off + 5, none⟩ = some (.string o.cty)
  c6 : w.cell? ⟨p.block, p.off + 6, none⟩ = some (.string o.num)
  c7 : w.cell? ⟨p.block, p.off + 7, none⟩ = some (.string o.cur)
  c8 : w.cell? ⟨p.block, p.off + 8, none⟩ = some lv
theorem DcAt.keep {w w' : World} {B : Nat} {p : Addr} {o : Dm} {lv : Value} (h : DcAt w p o lv) (hp : p.block < B) (hk : ∀ p : Addr, p.block < B → w'.cell? p = w.cell? p) : DcAt w' p o lv :=
  ⟨(hk _ hp).trans h.c0, (hk ⟨_, _, none⟩ hp).trans h.c1, (hk ⟨_, _, none⟩ hp).trans h.c2, (hk ⟨_, _, none⟩ hp).trans h.c3, (hk ⟨_, _, none⟩ hp).trans h.c4, (hk ⟨_, _, none⟩ hp).trans h.c5, (hk ⟨_, _, none⟩ hp).trans h.c6, (hk ⟨_, _, none⟩ hp).trans h.c7, (hk ⟨_, _, none⟩ hp).trans h.c8⟩
theorem DcAt.of {w : World} {p : Addr} {o : Dm} {lv : Value} (h : ∀ j u, (o.vs lv).toList[j]? = some u → w.cell? (p.add j) = some u) : DcAt w p o lv := by
  have e : ∀ j, j ≠ 0 → p.add j = ⟨p.block, p.off + j, none⟩ := fun j hj => by
    unfold Addr.add; rw [if_neg hj]
  have h0 := h 0 _ rfl
  have h1 := h 1 _ rfl
  have h2 := h 2 _ rfl
  have h3 := h 3 _ rfl
  have h4 := h 4 _ rfl
  have h5 := h 5 _ rfl
  have h6 := h 6 _ rfl
  have h7 := h 7 _ rfl
  have h8 := h 8 _ rfl
  rw [e 1 (by decide)] at h1
  rw [e 2 (by decide)] at h2
  rw [e 3 (by decide)] at h3
  rw [e 4 (by decide)] at h4
  rw [e 5 (by decide)] at h5
  rw [e 6 (by decide)] at h6
  rw [e 7 (by decide)] at h7
  rw [e 8 (by decide)] at h8
  exact ⟨by simpa [Addr.add] using h0, h1, h2, h3, h4, h5, h6, h7, h8⟩
/-- what a pair of a document and its lines' slice reads as -/
def DocOk (w : World) (B : Nat) (p : Dm × TriD) : Prop := Lns w B (triV p.2) p.1.ls ∧ p.1.ok
/-- a slice of documents -/
def Docs (w : World) (B : Nat) (v : Value) (os : List Dm) : Prop := ∃ ps : List (Dm × TriD), ps.map (·.1) = os ∧ SlN docK w B v ps ∧ ∀ p ∈ ps, DocOk w B p
section
variable {w w' : World} {B B' : Nat} {v : Value} {os : List Dm}
theorem Docs.below (h : Docs w B v os) (hb : Below B w w') : Docs w' B v os := by
  obtain ⟨ps, e, h1, h2⟩ := h
  exact ⟨ps, e, h1.below hb, fun p hp => ⟨(h2 p hp).1.below hb, (h2 p hp).2⟩⟩
theorem Docs.more (h : Docs w B v os) (hB : B ≤ B') : Docs w B' v os := by
  obtain ⟨ps, e, h1, h2⟩ := h
  exact ⟨ps, e, h1.more hB, fun p hp => ⟨(h2 p hp).1.more hB, (h2 p hp).2⟩⟩
theorem Docs.form (h : Docs w B v os) : ∃ A c, v = .slice A os.length c ∧ os.length ≤ c ∧ c ≤ 9223372036854775807 := by
  obtain ⟨ps, rfl, h1, _⟩ := h
  rw [List.length_map]
  exact h1.form
theorem Docs.ok (h : Docs w B v os) : ∀ o ∈ os, o.ok := by
  obtain ⟨ps, rfl, _, h2⟩ := h
  intro o ho
  obtain ⟨p, hp, rfl⟩ := List.mem_map.1 ho
  exact (h2 p hp).2
theorem Docs.at_ (h : Docs w B v os) (k : Nat) (hk : k < os.length) : ∃ ad c t, v = .slice (some ad) os.length c ∧ ad.block < B ∧ DcAt w (ad.add (k * 9)) os[k] (triV t) ∧ Lns w B (triV t) os[k].ls ∧ os[k].ok := by
  obtain ⟨ps, rfl, h1, h2⟩ := h
  rw [List.length_map] at hk
  obtain ⟨ad, c, hv, hb, hx⟩ := h1.at_ k hk
  obtain ⟨q1, q2⟩ := h2 _ (List.getElem_mem hk)
  refine ⟨ad, c, ps[k].2, by rw [List.length_map]; exact hv, hb, ?_, ?_, ?_⟩
  · rw [List.getElem_map]
    exact DcAt.of hx
  · rw [List.getElem_map]; exact q1
  · rw [List.getElem_map]; exact q2
end
set_option maxRecDepth 100000 in
theorem cloneL_any {w : World} {B : Nat} {v : Value} {ls : List Ln} (hs : Lns w B v ls) (hB : B ≤ w.heap.size) (hl : ls.length ≤ 1000000) :
    Calls Try.prog 39 #[v] w fun e w' => ∃ v', e = .returned v' ∧ OwN lnK w' w.heap.size v' ls ∧ Below w.heap.size w w' := by
  have hsl := hs.slN
  obtain ⟨A, c, hv, hc, hm, hr⟩ := id hsl
  subst hv
  have hq := Lib.run_eql_slice_nil (P := Try.prog) w 23 55 A ls.length c 0 0 Try.underlying23
  cases A with
  | none =>
    have h0 : ls = [] := by
      rcases Nat.eq_zero_or_pos ls.length with h | h
      · exact List.eq_nil_of_length_eq_zero h
      · obtain ⟨ad, e, _⟩ := hr h; cases e
    subst h0
    simp only [List.length_nil] at hq ⊢
    clear hr hsl hs hl
    go_enter Try.func39, Try.ntmps39
    go_wp2
    go_ret
    exact ⟨_, rfl, OwN.nil_ _ _ _, Below.refl _ _⟩
  | some ad =>
    have hal := (Below.refl w.heap.size w).alloc (Nat.le_refl _) (.cells #[] 55)
    have hown : OwN lnK (w.alloc (.cells #[] 55)) w.heap.size (.slice (some ⟨w.heap.size, 0, none⟩) 0 0) [] := owN_lit lnK w [] (Nat.zero_le _)
    have hsl2 := hsl.below (hal.mono hB)
    have HO := Lib.hid hown
    have HS := Lib.hid hsl2
    have HAL := Lib.hid hal
    clear hr hsl hs hown hsl2 hal
    go_enter Try.func39, Try.ntmps39
    go_upto_region 3 with fail
    clear hq
    go_wp2_with ((with_reducible show wpList _ _ _ (⟨some 7, _, _, _, _, _⟩ :: _) _ _); go_must (refine wpList_append_slN lnK _ rfl (.tmp 5) (.tmp 6) 23 rfl Try.underlying23 w.heap.size (.slice (some ⟨w.heap.size, 0, none⟩) 0 0) [] rfl HO.out B _ ls rfl HS.out (by simp; omega) (by decide) (by simp) ?_); intro v' w' ho' hg' hat'; rw [List.nil_append] at ho'; have HO' := Lib.hid ho'; have HG' := Lib.hid hg'; clear ho' hg' hat')
    go_ret
    exact ⟨_, rfl, HO'.out, HAL.out.grown HG'.out HAL.out.size (fun k hk => (HO.out.lt k hk).1)⟩
set_option maxRecDepth 100000 in
theorem cloneS_any {w : World} {B : Nat} {v : Value} {ls : List ByteArray} (hs : Sl strK w B v ls) (hB : B ≤ w.heap.size) (hl : ls.length ≤ 1000000) :
    Calls Try.prog 47 #[v] w fun e w' => ∃ v', e = .returned v' ∧ Ow strK w' w.heap.size v' ls ∧ Below w.heap.size w w' := by
  have hsl := hs
  obtain ⟨A, c, hv, hc, hm, hr⟩ := id hsl
  subst hv
  have hq := Lib.run_eql_slice_nil (P := Try.prog) w 39 9 A ls.length c 0 0 Try.underlying39
  cases A with
  | none =>
    have h0 : ls = [] := by
      rcases Nat.eq_zero_or_pos ls.length with h | h
      · exact List.eq_nil_of_length_eq_zero h
      · obtain ⟨ad, e, _⟩ := hr h; cases e
    subst h0
    simp only [List.length_nil] at hq ⊢
    clear hr hsl hs hl
    go_enter Try.func47, Try.ntmps47
    go_wp2
    go_ret
    exact ⟨_, rfl, Ow.nil_ _ _ _, Below.refl _ _⟩
  | some ad =>
    have hal := (Below.refl w.heap.size w).alloc (Nat.le_refl _) (.cells #[] 9)
    have hown : Ow strK (w.alloc (.cells #[] 9)) w.heap.size (.slice (some ⟨w.heap.size, 0, none⟩) 0 0) [] := ow_lit strK w [] (Nat.zero_le _)
    have hsl2 := hsl.below (hal.mono hB)
    have HO := Lib.hid hown
    have HS := Lib.hid hsl2
    have HAL := Lib.hid hal
    clear hr hsl hs hown hsl2 hal
    go_enter Try.func47, Try.ntmps47
    go_upto_region 3 with fail
    clear hq
    go_wp2_with ((with_reducible show wpList _ _ _ (⟨some 7, _, _, _, _, _⟩ :: _) _ _); go_must (refine wpList_append_sl strK _ rfl (.tmp 5) (.tmp 6) 39 rfl Try.underlying39 w.heap.size (.slice (some ⟨w.heap.size, 0, none⟩) 0 0) [] rfl HO.out B _ ls rfl HS.out (by simp; omega) (by decide) (by simp) ?_); intro v' w' ho' hg' hat'; rw [List.nil_append] at ho'; have HO' := Lib.hid ho'; have HG' := Lib.hid hg'; clear ho' hg' hat')
    go_ret
    exact ⟨_, rfl, HO'.out, HAL.out.grown HG'.out HAL.out.size (fun k hk => (HO.out.lt k hk).1)⟩
end Go.Proofs.Ytnfpmobmfcgfnaa
