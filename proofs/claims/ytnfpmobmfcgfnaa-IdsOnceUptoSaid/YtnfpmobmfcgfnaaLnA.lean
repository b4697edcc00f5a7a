/- LINES, DOCUMENTS AND COMMANDS AS DATA; A SLICE OF LINES. -/
import Derived.Test.YtnfpmobmfcgfnaaFoot
namespace Go.Proofs.Ytnfpmobmfcgfnaa
open Go.RowKit
theorem cells_of {w : World} {b : Nat} {cs : Array Value} {t : TypeId} {fr : Nat × Nat} (h : w.heap[b]? = some (.cells cs t fr)) (i : Nat) (v : Value) (hi : cs[i]? = some v) : w.cell? ⟨b, i, none⟩ = some v := by
  simp [World.cell?, h, hi]
/-- an int -/
def I64 (n : Int) : Prop := -9223372036854775808 ≤ n ∧ n ≤ 9223372036854775807
structure Ln where
  sup : Int
  cat : Int
  fr : ByteArray
  tw : ByteArray
  pl : ByteArray
  am : Int
  gr : Bool
  co : Int
  mx : Bool
structure Ln.ok (o : Ln) : Prop where
  sup : I64 o.sup
  cat : I64 o.cat
  fr : o.fr.size ≤ maxLen
  tw : o.tw.size ≤ maxLen
  pl : o.pl.size ≤ maxLen
  am : I64 o.am
  co : I64 o.co
def Ln.vs (o : Ln) : Array Value := #[.int .i64 o.sup, .int .i64 o.cat, .string o.fr, .string o.tw, .string o.pl, .int .i64 o.am, .bool o.gr, .int .i64 o.co, .bool o.mx]
/-- a line at an address -/
structure LnAt (w : World) (p : Addr) (o : Ln) : Prop where
  c0 : w.cell? p = some (.int .i64 o.sup)
  c1 : w.cell? ⟨p.block, p.off + 1, none⟩ = some (.int .i64 o.cat)
  c2 : w.cell? ⟨p.block, p.off + 2, none⟩ = some (.string o.fr)
  c3 : w.cell? ⟨p.block, p.off + 3, none⟩ = some (.string o.tw)
  c4 : w.cell? ⟨p.block, p.off + 4, none⟩ = some (.string o.pl)
  c5 : w.cell? ⟨p.block, p.off + 5, none⟩ = some (.int .i64 o.am)
  c6 : w.cell? ⟨p.block, p.off + 6, none⟩ = some (.bool o.gr)
  c7 : w.cell? ⟨p.block, p.off + 7, none⟩ = some (.int .i64 o.co)
  c8 : w.cell? ⟨p.block, p.off + 8, none⟩ = some (.bool o.mx)
/-- a slice of lines, in blocks below B -/
def Lns (w : World) (B : Nat) (v : Value) (ls : List Ln) : Prop :=
  ∃ (A : Option Addr) (c : Nat), v = .slice A ls.length c ∧ ls.length ≤ c ∧ c ≤ maxLen ∧
    (0 < ls.length → ∃ ad : Addr, A = some ad ∧ ad.block < B ∧ ∀ (j : Nat) (o : Ln), ls[j]? = some o → o.ok ∧ LnAt w (ad.add (j * 9)) o)
section
variable {w w' : World} {B B' : Nat} {v : Value} {ls : List Ln}
theorem LnAt.keep {p : Addr} {o : Ln} (h : LnAt w p o) (hp : p.block < B) (hk : ∀ p : Addr, p.block < B → w'.cell? p = w.cell? p) : LnAt w' p o :=
  ⟨(hk _ hp).trans h.c0, (hk ⟨_, _, none⟩ hp).trans h.c1, (hk ⟨_, _, none⟩ hp).trans h.c2, (hk ⟨_, _, none⟩ hp).trans h.c3, (hk ⟨_, _, none⟩ hp).trans h.c4, (hk ⟨_, _, none⟩ hp).trans h.c5, (hk ⟨_, _, none⟩ hp).trans h.c6, (hk ⟨_, _, none⟩ hp).trans h.c7, (hk ⟨_, _, none⟩ hp).trans h.c8⟩
theorem Lns.keep (h : Lns w B v ls) (hk : ∀ p : Addr, p.block < B → w'.cell? p = w.cell? p) : Lns w' B v ls := by
  obtain ⟨A, c, hv, hc, hm, hr⟩ := h
  refine ⟨A, c, hv, hc, hm, fun h0 => ?_⟩
  obtain ⟨ad, hA, hb, hx⟩ := hr h0
  exact ⟨ad, hA, hb, fun j x hj => ⟨(hx j x hj).1, (hx j x hj).2.keep (by rw [addr_add_block]; exact hb) hk⟩⟩
theorem Lns.below (h : Lns w B v ls) (hb : Below B w w') : Lns w' B v ls := h.keep fun _ hp => hb.cell hp
theorem Lns.more (h : Lns w B v ls) (hB : B ≤ B') : Lns w B' v ls := by
  obtain ⟨A, c, hv, hc, hm, hr⟩ := h
  refine ⟨A, c, hv, hc, hm, fun h0 => ?_⟩
  obtain ⟨ad, hA, hb, hx⟩ := hr h0
  exact ⟨ad, hA, by omega, hx⟩
theorem Lns.heap (h : Lns w B v ls) : Lns w w.heap.size v ls := by
  obtain ⟨A, c, hv, hc, hm, hr⟩ := h
  refine ⟨A, c, hv, hc, hm, fun h0 => ?_⟩
  obtain ⟨ad, hA, hb, hx⟩ := hr h0
  refine ⟨ad, hA, ?_, hx⟩
  have := World.block_lt_of_cell? w _ (hx 0 _ (List.getElem?_eq_getElem h0)).2.c0
  rwa [addr_add_block] at this
theorem Lns.form (h : Lns w B v ls) : ∃ A c, v = .slice A ls.length c ∧ ls.length ≤ c ∧ c ≤ 9223372036854775807 := by
  obtain ⟨A, c, hv, hc, hm, _⟩ := h
  unfold maxLen at hm
  exact ⟨A, c, hv, hc, by omega⟩
theorem Lns.ok (h : Lns w B v ls) : ∀ o ∈ ls, o.ok := by
  obtain ⟨A, c, hv, hc, hm, hr⟩ := h
  intro o ho
  obtain ⟨j, hj, rfl⟩ := List.getElem_of_mem ho
  obtain ⟨ad, _, _, hx⟩ := hr (by omega)
  exact (hx j _ (List.getElem?_eq_getElem hj)).1
/-- the k-th of them -/
theorem Lns.at_ (h : Lns w B v ls) (k : Nat) (hk : k < ls.length) : ∃ ad c, v = .slice (some ad) ls.length c ∧ ad.block < B ∧ ls[k].ok ∧ LnAt w (ad.add (k * 9)) ls[k] := by
  obtain ⟨A, c, hv, hc, hm, hr⟩ := h
  obtain ⟨ad, rfl, hb, hx⟩ := hr (by omega)
  exact ⟨ad, c, hv, hb, hx k _ (List.getElem?_eq_getElem hk)⟩
theorem Lns.nil_ (w : World) (B : Nat) : Lns w B (.slice none 0 0) [] := ⟨none, 0, rfl, Nat.le_refl _, by simp [maxLen], fun h => absurd h (by simp)⟩
end
/-- a document -/
structure Dm where
  id : ByteArray
  sale : Bool
  cred : Bool
  ref : ByteArray
  day : Int
  cty : ByteArray
  num : ByteArray
  cur : ByteArray
  ls : List Ln
structure Dm.ok (o : Dm) : Prop where
  id : o.id.size ≤ maxLen
  ref : o.ref.size ≤ maxLen
  day : I64 o.day
  cty : o.cty.size ≤ maxLen
  num : o.num.size ≤ maxLen
  cur : o.cur.size ≤ maxLen
  ls : ∀ l ∈ o.ls, l.ok
def Dm.vs (o : Dm) (lv : Value) : Array Value := #[.string o.id, .bool o.sale, .bool o.cred, .string o.ref, .int .i64 o.day, .string o.cty, .string o.num, .string o.cur, lv]
/-- the value of a document -/
def DmV (w : World) (B : Nat) (v : Value) (o : Dm) : Prop := ∃ lv, v = .agg (o.vs lv) ∧ Lns w B lv o.ls ∧ o.ok
/-- a command -/
structure Cm where
  kind : Int
  cty : ByteArray
  txt : ByteArray
  cat : Int
  bp : Int
  day : Int
  til : Int
  nm : Int
  dn : Int
  ix : Int
  pk : Int
  py : Int
  px : Int
  doc : Dm
structure Cm.ok (o : Cm) : Prop where
  kind : I64 o.kind
  cty : o.cty.size ≤ maxLen
  txt : o.txt.size ≤ maxLen
  cat : I64 o.cat
  bp : I64 o.bp
  day : I64 o.day
  til : I64 o.til
  nm : I64 o.nm
  dn : I64 o.dn
  ix : I64 o.ix
  pk : I64 o.pk
  py : I64 o.py
  px : I64 o.px
  doc : o.doc.ok
def Cm.vs (o : Cm) (lv : Value) : Array Value := #[.int .i64 o.kind, .string o.cty, .string o.txt, .int .i64 o.cat, .int .i64 o.bp, .int .i64 o.day, .int .i64 o.til, .int .i64 o.nm, .int .i64 o.dn, .int .i64 o.ix, .int .i64 o.pk, .int .i64 o.py, .int .i64 o.px,
  .string o.doc.id, .bool o.doc.sale, .bool o.doc.cred, .string o.doc.ref, .int .i64 o.doc.day, .string o.doc.cty, .string o.doc.num, .string o.doc.cur, lv]
def CmV (w : World) (B : Nat) (v : Value) (o : Cm) : Prop := ∃ lv, v = .agg (o.vs lv) ∧ Lns w B lv o.doc.ls ∧ o.ok
section
variable {w w' : World} {B B' : Nat} {v : Value} {o : Dm} {c : Cm}
theorem DmV.below (h : DmV w B v o) (hb : Below B w w') : DmV w' B v o := by obtain ⟨lv, e, h1, h2⟩ := h; exact ⟨lv, e, h1.below hb, h2⟩
theorem DmV.more (h : DmV w B v o) (hB : B ≤ B') : DmV w B' v o := by obtain ⟨lv, e, h1, h2⟩ := h; exact ⟨lv, e, h1.more hB, h2⟩
theorem CmV.below (h : CmV w B v c) (hb : Below B w w') : CmV w' B v c := by obtain ⟨lv, e, h1, h2⟩ := h; exact ⟨lv, e, h1.below hb, h2⟩
theorem CmV.more (h : CmV w B v c) (hB : B ≤ B') : CmV w B' v c := by obtain ⟨lv, e, h1, h2⟩ := h; exact ⟨lv, e, h1.more hB, h2⟩
end
def Ln.zero : Ln := ⟨0, 0, ⟨#[]⟩, ⟨#[]⟩, ⟨#[]⟩, 0, false, 0, false⟩
def Dm.zero : Dm := ⟨⟨#[]⟩, false, false, ⟨#[]⟩, 0, ⟨#[]⟩, ⟨#[]⟩, ⟨#[]⟩, []⟩
def Cm.zero : Cm := ⟨0, ⟨#[]⟩, ⟨#[]⟩, 0, 0, 0, 0, 0, 0, 0, 0, 0, 0, Dm.zero⟩
theorem i64_zero : I64 0 := ⟨by decide, by decide⟩
theorem len_zero : (⟨#[]⟩ : ByteArray).size ≤ maxLen := Nat.zero_le _
theorem Dm.zero_ok : Dm.zero.ok := ⟨len_zero, len_zero, i64_zero, len_zero, len_zero, len_zero, fun l h => by cases h⟩
theorem Cm.zero_ok : Cm.zero.ok := ⟨i64_zero, len_zero, len_zero, i64_zero, i64_zero, i64_zero, i64_zero, i64_zero, i64_zero, i64_zero, i64_zero, i64_zero, i64_zero, Dm.zero_ok⟩
end Go.Proofs.Ytnfpmobmfcgfnaa
