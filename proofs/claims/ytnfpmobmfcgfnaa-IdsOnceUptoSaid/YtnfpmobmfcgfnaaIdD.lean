/- A DOCUMENT IS PUT INTO A SET, PLAINLY. -/
import Derived.Test.YtnfpmobmfcgfnaaIdC
namespace Go.Proofs.Ytnfpmobmfcgfnaa
open Go.RowKit
theorem findD_app {docs : List Dm} {d : Dm} (h : findD docs d.id.data.toList = none) (s : List UInt8) : findD (docs ++ [d]) s = if s = d.id.data.toList then some d else findD docs s := by
  unfold findD at *
  rw [List.find?_append]
  by_cases hs : s = d.id.data.toList
  · subst hs
    rw [if_pos rfl, h]
    simp
  · rw [if_neg hs]
    have : (d.id.data.toList == s) = false := by rw [beq_eq_false_iff_ne]; exact fun e => hs e.symm
    simp [this]
theorem credL_app (docs : List Dm) (d : Dm) (s : List UInt8) : credL (docs ++ [d]) s = credL docs s ++ if d.cred = true ∧ d.ref.data.toList = s then [d.id] else [] := by
  unfold credL
  rw [List.filter_append, List.map_append]
  congr 1
  by_cases h : d.cred = true ∧ d.ref.data.toList = s
  · rw [if_pos h]; simp [h.1, h.2]
  · rw [if_neg h]
    simp only [List.map_eq_nil_iff, List.filter_eq_nil_iff, List.mem_singleton, Bool.and_eq_true, beq_iff_eq]
    rintro x rfl
    exact h
theorem MapV.kind {w : World} {b n m : Nat} {f : List UInt8 → Option Value} (h : MapV w b n m f) : ∃ es cl, w.heap[b]? = some (.map es cl) := by
  obtain ⟨D, ⟨es, cl, hb, _⟩, _⟩ := h
  exact ⟨es, cl, hb⟩
theorem cells_ne_map {w : World} {a b : Nat} {cs : Array Value} {t : TypeId} {fr : Nat × Nat} (h1 : w.heap[a]? = some (.cells cs t fr)) (h2 : ∃ es cl, w.heap[b]? = some (.map es cl)) : a ≠ b := by
  rintro rfl
  obtain ⟨es, cl, h2⟩ := h2
  rw [h1] at h2
  injection h2 with h2
  cases h2
theorem KindS.grownMap {w w' : World} {b bd : Nat} (h : KindS w b) (hg : w.grownBy w' (some bd)) (hm : ∃ es cl, w'.heap[bd]? = some (.map es cl)) : KindS w' b := by
  by_cases hb : b = bd
  · subst hb; exact .inl hm
  · have he := hg.block b h.lt (fun e => hb (by injection e))
    rcases h with ⟨es, cl, h⟩ | ⟨cs, h⟩
    · exact .inl ⟨es, cl, he.trans h⟩
    · exact .inr ⟨cs, he.trans h⟩
theorem Ow.kept' {α : Type} {K : Kd α} {S : Nat → Prop} {w w' : World} {base : Nat} {v : Value} {l : List α} (ho : Ow K w base v l) (k : Kept S w w') (hs : ∀ g, v.ownBlock = some g → S g) : Ow K w' base v l := by
  obtain ⟨h1, h2⟩ := ho
  refine ⟨h1, ?_⟩
  rcases h2 with h2 | ⟨g, cap, cur, rfl, hb', hg, r⟩
  · exact .inl h2
  · exact .inr ⟨g, cap, cur, rfl, hb', k.heap hg (hs g rfl), r⟩
theorem Ow.kind' {α : Type} {K : Kd α} {w : World} {base : Nat} {v : Value} {l : List α} (h : Ow K w base v l) : ∀ g, v.ownBlock = some g → ∃ cs, w.heap[g]? = some (.cells cs K.E (0, 0)) := by
  intro g hg
  rcases h.2 with ⟨rfl, _⟩ | ⟨g', cap, cur, rfl, _, hh, _⟩
  · simp [Value.ownBlock] at hg
  · simp [Value.ownBlock] at hg; subst hg; exact ⟨cur, hh⟩
section
variable {w w' : World} {base g : Nat} {Z : Nat → Prop} {dD dC docs : List Dm} {bd bc nc m : Nat} {fd fc fd' fc' : List UInt8 → Option Value} {d : Dm} {t : TriD}
/-- the document is put into the map -/
theorem Raw.docPut (h : Raw w base g Z docs dC bd bc nc m fd fc) (hn : findD docs d.id.data.toList = none) (hm : MapV w' bd (docs.length + 1) (docs.length + 1) fun s => if s = d.id.data.toList then some (.agg (d.vs (triV t))) else fd s)
    (hg : w.grownBy w' (some bd)) (ho : OwN lnK w base (triV t) d.ls) : Raw w' base g Z (docs ++ [d]) dC bd bc nc m (fun s => if s = d.id.data.toList then some (.agg (d.vs (triV t))) else fd s) fc := by
  have hk : Kept (fun b => some bd ≠ some b) w w' := (Kept.refl _ w).grown hg (fun k hk _ hS => hS hk)
  have hlen : (docs ++ [d]).length = docs.length + 1 := by simp
  refine ⟨hk.heap h.hd (fun e => ?_), h.ne, h.zd, h.zc, by rw [hlen]; exact hm, h.mc.grown hg (fun e => h.ne (by injection e with e; exact e.symm)), h.nl, fun s => ?_, fun s => ⟨(h.ck s).1, fun hs => ?_⟩, h.dis⟩
  · injection e with e; exact cells_ne_map h.hd h.md.kind e.symm
  · rw [findD_app hn]
    by_cases hs : s = d.id.data.toList
    · rw [if_pos hs]
      refine ⟨(fun e => by cases e), fun o e => ?_⟩
      cases e
      exact ⟨t, if_pos hs, ho.kept hk (fun b hb e => by injection e with e; subst e; obtain ⟨cs, hh⟩ := ho.kind _ hb; exact cells_ne_map hh h.md.kind rfl)⟩
    · rw [if_neg hs]
      refine ⟨fun e => by simp only [if_neg hs]; exact (h.dk s).1 e, fun o e => ?_⟩
      obtain ⟨t', q1, q2⟩ := (h.dk s).2 o e
      exact ⟨t', by simp only [if_neg hs]; exact q1, q2.kept hk (fun b hb e => by injection e with e; subst e; obtain ⟨cs, hh⟩ := q2.kind _ hb; exact cells_ne_map hh h.md.kind rfl)⟩
  · obtain ⟨v, q1, q2, q3⟩ := (h.ck s).2 hs
    exact ⟨v, q1, q2.kept' hk (fun b hb e => by injection e with e; subst e; obtain ⟨cs, hh⟩ := q2.kind' _ hb; exact cells_ne_map hh h.md.kind rfl), q3⟩
/-- it is no credit -/
theorem Raw.noCred (h : Raw w base g Z (docs ++ [d]) docs bd bc nc m fd fc) (hc : d.cred = false) : Raw w base g Z (docs ++ [d]) (docs ++ [d]) bd bc nc m fd fc := by
  have e : ∀ s, credL (docs ++ [d]) s = credL docs s := fun s => by rw [credL_app, if_neg (by rw [hc]; simp), List.append_nil]
  exact ⟨h.hd, h.ne, h.zd, h.zc, h.md, h.mc, by have := h.nl; simp; omega, h.dk, fun s => by rw [e]; exact h.ck s, h.dis⟩
/-- what stands at a credit's name, before it is put -/
theorem Raw.row (h : Raw w base g Z dD dC bd bc nc m fd fc) (s : ByteArray) (hs : s.size ≤ maxLen) : ∃ y, (∀ W : World, W.heap[bc]? = w.heap[bc]? → (Instr.lookup 46 (.map (some bc)) (.string s) false).run Try.prog W = .ok y W) ∧ Ow strK w base y (credL dC s.data.toList) ∧ (∀ k, y.ownBlock = some k → Z k) ∧
    (∀ s' v' k, s' ≠ s.data.toList → fc s' = some v' → y.ownBlock = some k → v'.ownBlock ≠ some k) := by
  have hlk := fun (W : World) (hW : W.heap[bc]? = w.heap[bc]?) => (h.mc.heap hW).look (t := 46) (e := 39) Try.underlying46 (Try.zstrs _) false s hs
  obtain ⟨q1, q2⟩ := h.ck s.data.toList
  unfold MapV.val at hlk
  by_cases hc : credL dC s.data.toList = []
  · rw [q1 hc] at hlk
    exact ⟨_, hlk, by rw [hc]; exact Ow.nil_ _ _ _, fun k hk => by simp [Value.ownBlock] at hk, fun s' v' k _ _ hk => by simp [Value.ownBlock] at hk⟩
  · obtain ⟨v, e, ho, hz⟩ := q2 hc
    rw [e] at hlk
    exact ⟨_, hlk, ho, hz, fun s' v' k hne hf hk => h.dis _ s' v v' k (fun e => hne e.symm) e hf hk⟩
/-- its name is put behind the others -/
theorem Raw.credPut {w1 w2 : World} {y v : Value} {B0 : Nat} (h : Raw w base g Z (docs ++ [d]) docs bd bc nc m fd fc) (hc : d.cred = true) (hy : Ow strK w base y (credL docs d.ref.data.toList)) (hyz : ∀ k, y.ownBlock = some k → Z k) (hyd : ∀ s' v' k, s' ≠ d.ref.data.toList → fc s' = some v' → y.ownBlock = some k → v'.ownBlock ≠ some k)
    (ho : Ow strK w1 base v (credL docs d.ref.data.toList ++ [d.id])) (hk1 : Kept (fun b => y.ownBlock ≠ some b) w w1) (hat : v.ownBlock = y.ownBlock ∨ ∃ k, v.ownBlock = some k ∧ w.heap.size ≤ k)
    {m' : Nat} (hm : MapV w2 bc (nc + 1) m' fun s => if s = d.ref.data.toList then some v else fc s) (hg2 : w1.grownBy w2 (some bc)) (hB0 : B0 ≤ w.heap.size) :
    Raw w2 base g (fun b => (Z b ∨ B0 ≤ b) ∧ KindS w2 b) (docs ++ [d]) (docs ++ [d]) bd bc (nc + 1) m' fd (fun s => if s = d.ref.data.toList then some v else fc s) := by
  have hk2 : Kept (fun b => some bc ≠ some b) w1 w2 := (Kept.refl _ w1).grown hg2 (fun k hk _ hS => hS hk)
  have hyk : ∀ b, y.ownBlock = some b → ∃ cs, w.heap[b]? = some (.cells cs 9 (0, 0)) := fun b hb => hy.kind' b hb
  have hne : ∀ b cs T, w.heap[b]? = some (.cells cs T (0, 0)) → T ≠ 9 → y.ownBlock ≠ some b := fun b cs T hh hT e => by
    obtain ⟨cs', hh'⟩ := hyk b e
    exact kind_ne hh hh' hT rfl
  have hnm : ∀ b, (∃ es cl, w.heap[b]? = some (.map es cl)) → y.ownBlock ≠ some b := fun b hm e => by
    obtain ⟨cs', hh'⟩ := hyk b e
    exact cells_ne_map hh' hm rfl
  have hmc1 : MapV w1 bc nc m fc := h.mc.heap (hk1.block bc h.mc.lt (hnm bc h.mc.kind))
  have hmd1 : MapV w1 bd (docs ++ [d]).length (docs ++ [d]).length fd := h.md.heap (hk1.block bd h.md.lt (hnm bd h.md.kind))
  have hmd2 := hmd1.grown hg2 (fun e => h.ne (by injection e))
  have hbc1 : ∀ b cs T, w1.heap[b]? = some (.cells cs T (0, 0)) → some bc ≠ some b := fun b cs T hh e => by
    injection e with e; subst e; exact cells_ne_map hh hmc1.kind rfl
  have hkv : ∀ k, v.ownBlock = some k → ∃ cs, w2.heap[k]? = some (.cells cs 9 (0, 0)) := fun k hk => by
    obtain ⟨cs, hh⟩ := ho.kind' k hk
    exact ⟨cs, hk2.heap hh (hbc1 k cs _ hh)⟩
  refine ⟨hk2.heap (hk1.heap h.hd (hne g _ _ h.hd (by decide))) (hbc1 g _ _ (hk1.heap h.hd (hne g _ _ h.hd (by decide)))), h.ne, ⟨.inl h.zd, .inl hmd2.kind⟩, ⟨.inl h.zc, .inl hm.kind⟩, hmd2, hm, by have := h.nl; simp; omega, fun s => ⟨(h.dk s).1, fun o ho => ?_⟩, fun s => ?_, fun s s' v1 v2 k hss h1 h2 hk => ?_⟩
  · obtain ⟨t', q1, q2⟩ := (h.dk s).2 o ho
    have q3 := q2.kept hk1 (fun b hb => by obtain ⟨cs, hh⟩ := q2.kind b hb; exact hne b cs _ hh (by decide))
    exact ⟨t', q1, q3.kept hk2 (fun b hb => by obtain ⟨cs, hh⟩ := q3.kind b hb; exact hbc1 b cs _ hh)⟩
  · rw [credL_app]
    by_cases hs : s = d.ref.data.toList
    · subst hs
      rw [if_pos ⟨hc, rfl⟩]
      refine ⟨(fun e => absurd e (by simp)), fun _ => ⟨v, if_pos rfl, ho.kept' hk2 (fun b hb => by obtain ⟨cs, hh⟩ := ho.kind' b hb; exact hbc1 b cs _ hh), fun k hk => ⟨?_, .inr (hkv k hk)⟩⟩⟩
      rcases hat with e | e
      · rw [e] at hk; exact .inl (hyz k hk)
      · obtain ⟨k', e, hk'⟩ := e; rw [e] at hk; cases hk; exact .inr (Nat.le_trans hB0 hk')
    · rw [if_neg (fun e => hs e.2.symm), List.append_nil]
      refine ⟨fun e => by simp only [if_neg hs]; exact (h.ck s).1 e, fun e => ?_⟩
      obtain ⟨v1, q1, q2, q3⟩ := (h.ck s).2 e
      have q4 := q2.kept' hk1 (fun b hb e => hyd s v1 b hs q1 e hb)
      have q5 := q4.kept' hk2 (fun b hb => by obtain ⟨cs, hh⟩ := q4.kind' b hb; exact hbc1 b cs _ hh)
      exact ⟨v1, by simp only [if_neg hs]; exact q1, q5, fun k hk => ⟨.inl (q3 k hk), .inr (q5.kind' k hk)⟩⟩
  · have key : ∀ s v1 k, s ≠ d.ref.data.toList → fc s = some v1 → v.ownBlock = some k → v1.ownBlock ≠ some k := fun s v1 k hs h1 hk e => by
      rcases hat with e1 | e1
      · rw [e1] at hk; exact hyd s v1 k hs h1 hk e
      · obtain ⟨k', e1, hk'⟩ := e1
        rw [e1] at hk
        cases hk
        by_cases hcl : credL docs s = []
        · rw [(h.ck s).1 hcl] at h1; cases h1
        · obtain ⟨v0, q1, q2, _⟩ := (h.ck s).2 hcl
          rw [h1] at q1; cases q1
          obtain ⟨cs, hh⟩ := q2.kind' _ e
          have := lt_of_blk hh
          omega
    by_cases hs : s = d.ref.data.toList
    · rw [if_pos hs] at h1; cases h1
      rw [if_neg (fun e => hss (hs.trans e.symm))] at h2
      exact key s' v2 k (fun e => hss (hs.trans e.symm)) h2 hk
    · rw [if_neg hs] at h1
      by_cases hs' : s' = d.ref.data.toList
      · rw [if_pos hs'] at h2; cases h2
        exact fun e => key s v1 k hs h1 e hk
      · rw [if_neg hs'] at h2
        exact h.dis s s' v1 v2 k hss h1 h2 hk
end
end Go.Proofs.Ytnfpmobmfcgfnaa
