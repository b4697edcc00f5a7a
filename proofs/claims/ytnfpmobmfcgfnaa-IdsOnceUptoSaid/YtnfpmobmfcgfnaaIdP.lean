/- A SET BESIDE THE DOCUMENT's OWN ROW OF DOCUMENTS. -/
import Derived.Test.YtnfpmobmfcgfnaaLwN
import Derived.Test.YtnfpmobmfcgfnaaIdG
namespace Go.Proofs.Ytnfpmobmfcgfnaa
open Go.RowKit
theorem St.keptS {w w' : World} {base g : Nat} {Z : Nat → Prop} {docs : List Dm} {S : Nat → Prop} (h : St w base g Z docs) (k : Kept S w w') (hc : ∀ b cs t, w.heap[b]? = some (.cells cs t (0, 0)) → t ≠ 25 → S b) (hm : ∀ b, (∃ es cl, w.heap[b]? = some (.map es cl)) → S b) : St w' base g Z docs := by
  obtain ⟨bd, bc, nc, m, fd, fc, hr⟩ := h.ex
  refine ⟨⟨bd, bc, nc, m, fd, fc, k.heap hr.hd (hc g _ _ hr.hd (by decide)), hr.ne, hr.zd, hr.zc, hr.md.heap (k.block bd hr.md.lt (hm bd hr.md.kind)), hr.mc.heap (k.block bc hr.mc.lt (hm bc hr.mc.kind)), hr.nl, fun s => ⟨(hr.dk s).1, fun o ho => ?_⟩, fun s => ⟨(hr.ck s).1, fun hs => ?_⟩, hr.dis⟩, fun b hz => ?_, h.lo, h.g0, h.ok⟩
  · obtain ⟨t, q1, q2⟩ := (hr.dk s).2 o ho
    exact ⟨t, q1, q2.kept k (fun b hb => by obtain ⟨cs, hh⟩ := q2.kind b hb; exact hc b cs _ hh (by decide))⟩
  · obtain ⟨v, q1, q2, q3⟩ := (hr.ck s).2 hs
    exact ⟨v, q1, q2.kept' k (fun b hb => by obtain ⟨cs, hh⟩ := q2.kind' b hb; exact hc b cs _ hh (by decide)), q3⟩
  · rcases h.kd b hz with ⟨es, cl, hh⟩ | ⟨cs, hh⟩
    · exact .inl ⟨es, cl, k.heap hh (hm b ⟨es, cl, hh⟩)⟩
    · exact .inr ⟨cs, k.heap hh (hc b cs _ hh (by decide))⟩
/-- the own row of documents, whose lines lie in the first world -/
structure Ro (w0 w : World) (base : Nat) (x : Value) (ps : List (Dm × TriD)) : Prop where
  ow : OwN docK w base x ps
  dk : ∀ p ∈ ps, Lns w0 w0.heap.size (triV p.2) p.1.ls ∧ p.1.ok ∧ p.1.ls.length ≤ 70
  bl : Below w0.heap.size w0 w
section
variable {w0 w w' : World} {base g : Nat} {x : Value} {ps : List (Dm × TriD)} {Z : Nat → Prop} {docs : List Dm}
theorem Ro.below (h : Ro w0 w base x ps) (k : Below w.heap.size w w') : Ro w0 w' base x ps := ⟨h.ow.below k, h.dk, h.bl.trans (k.mono h.bl.size)⟩
theorem Ro.kept (h : Ro w0 w base x ps) (hs : St w base g Z docs) (hb : w0.heap.size ≤ base) (k : Kept (fun b => ¬ Z b) w w') : Ro w0 w' base x ps :=
  ⟨h.ow.kept k (fun b hb hz => by obtain ⟨cs, hh⟩ := h.ow.kind b hb; exact (hs.kd b hz).ne hh (by decide) rfl), h.dk, h.bl.trans (k.toBelow h.bl.size (fun b hlt hz => by have := hs.lo b hz; omega))⟩
theorem Ro.dcs (h : Ro w0 w base x ps) : Docs w w.heap.size x (ps.map (·.1)) :=
  ⟨ps, rfl, h.ow.sl, fun p hp => ⟨((h.dk p hp).1.below h.bl).more h.bl.size, (h.dk p hp).2.1⟩⟩
theorem Ro.nil_ (w0 w : World) (base : Nat) (hb : Below w0.heap.size w0 w) : Ro w0 w base (.slice none 0 0) [] := ⟨OwN.nil_ _ _ _, fun p hp => (by cases hp), hb⟩
/-- a set stands beside an append onto the row -/
theorem St.app (hs : St w base g Z docs) (h : OwN docK w base x ps) (hg : w.grownBy w' x.ownBlock) : St w' base g Z docs :=
  hs.keptS (S := fun b => x.ownBlock ≠ some b) ((Kept.refl _ w).grown hg (fun k hk _ hS => hS hk))
    (fun b cs t hh hne e => by obtain ⟨cs', hh'⟩ := h.kind b e; exact kind_ne hh hh' hne rfl)
    (fun b hm e => by obtain ⟨cs', hh'⟩ := h.kind b e; exact cells_ne_map hh' hm rfl)
theorem Ro.app {x' : Value} {d : Dm} {t : TriD} (h : Ro w0 w base x ps) (hb : w0.heap.size ≤ base) (ho : OwN docK w' base x' (ps ++ [(d, t)])) (hg : w.grownBy w' x.ownBlock) (hl : Lns w0 w0.heap.size (triV t) d.ls) (hok : d.ok) (h70 : d.ls.length ≤ 70) : Ro w0 w' base x' (ps ++ [(d, t)]) :=
  ⟨ho, fun p hp => by
    rcases List.mem_append.1 hp with hp | hp
    · exact h.dk p hp
    · rw [List.mem_singleton] at hp; subst hp; exact ⟨hl, hok, h70⟩, h.bl.grown hg h.bl.size (fun k hk => Nat.le_trans hb (h.ow.lt k hk).1)⟩
theorem slN_one {b : Nat} {d : Dm} {t : TriD} (h : w.heap[b]? = some (.cells (d.vs (triV t)) 25 (0, 0))) : SlN docK w w.heap.size (.slice (some ⟨b, 0, none⟩) 1 1) [(d, t)] := by
  refine ⟨some ⟨b, 0, none⟩, 1, rfl, Nat.le_refl _, by simp [maxLen], fun _ => ⟨_, rfl, lt_of_blk h, fun j u hj => ?_⟩⟩
  rw [docK.flat_one] at hj
  have hc := cells_of h j u (by rw [← Array.getElem?_toList]; exact hj)
  unfold Addr.add
  by_cases h0 : j = 0
  · subst h0; exact hc
  · rw [if_neg h0, Nat.zero_add]; exact hc
end
theorem St.len {w : World} {base g : Nat} {Z : Nat → Prop} {docs : List Dm} (h : St w base g Z docs) : ∀ o ∈ docs, o.ok := h.ok
theorem pos_find (docs : List Dm) (s : List UInt8) : (posL docs s 0 = -1 ∧ findD docs s = none) ∨ ∃ (i : Nat) (h : i < docs.length), posL docs s 0 = (i : Int) ∧ findD docs s = some docs[i] := by
  rcases posL_cases docs s 0 with h | ⟨i, o, h1, h2, h3⟩
  · exact .inl h
  · obtain ⟨hi, rfl⟩ := List.getElem?_eq_some_iff.1 h1
    exact .inr ⟨i, hi, by rw [h2, Nat.zero_add], h3⟩
/-- a slice of texts -/
def slS (l : List ByteArray) : Sp := ⟨fun x w => Sl strK w w.heap.size x l, fun _ _ _ h hb => (h.below hb).more hb.size⟩
end Go.Proofs.Ytnfpmobmfcgfnaa
