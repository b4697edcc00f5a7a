/- THE WALKS OF octroiref09: Read, Fuse, Power. -/
import Derived.Test.YtmcjefdnkcpghaaSeP
namespace Go.Proofs.Ytmcjefdnkcpghaa
open Go.RowKit
def fuseR (After Torn : Int) : Option (Nat × Nat) → Prop
  | none => After = -1
  | some (a, t) => After = (a : Int) ∧ Torn = (t : Int)
/-- a slice of texts, in a block of texts -/
def SlS (w : World) (B : Nat) (v : Value) (l : List ByteArray) : Prop := Sl strK w B v l ∧ ∀ ad n c, v = .slice (some ad) n c → 0 < l.length → ∃ cs, w.heap[ad.block]? = some (.cells cs 9 (0, 0))
section
variable {w w' : World} {B B' base : Nat} {v : Value} {l : List ByteArray}
theorem SlS.below (h : SlS w B v l) (k : Below B w w') : SlS w' B v l := ⟨h.1.below k, fun ad n c e h0 => by
  obtain ⟨cs, hc⟩ := h.2 ad n c e h0
  obtain ⟨A, c', hv, _, _, hr⟩ := h.1
  obtain ⟨ad', hA, hb, _⟩ := hr h0
  rw [hv, hA] at e
  cases e
  exact ⟨cs, (k.block _ hb).trans hc⟩⟩
theorem SlS.more (h : SlS w B v l) (hB : B ≤ B') : SlS w B' v l := ⟨h.1.more hB, h.2⟩
theorem SlS.heap (h : SlS w B v l) : SlS w w.heap.size v l := ⟨h.1.heap, h.2⟩
theorem SlS.drew (h : SlS w B v l) : SlS w.drew B v l := h
theorem Ow.sls (h : Ow strK w base v l) : SlS w w.heap.size v l := ⟨h.sl, fun ad n c e h0 => by
  subst e
  rcases h.2 with ⟨e, _⟩ | ⟨g, cap, cur, e, _, hg, _⟩
  · cases e
  · cases e; exact ⟨cur, hg⟩⟩
end
/-- the document's disk: a value that tells the same as d -/
def Rv (w : World) (B : Nat) (v : Value) (d : Dv) : Prop :=
  ∃ A c After Torn, v = .agg #[.slice A d.n c, .int .i64 After, .int .i64 Torn, .bool d.dead, .int .i64 (d.writes : Int)] ∧ SlS w B (.slice A d.n c) (pagesS d.L d.n) ∧ fuseR After Torn d.fuse ∧ (-9223372036854775808 ≤ Torn ∧ Torn ≤ 9223372036854775807)
theorem Rv.below {w w' : World} {B : Nat} {v : Value} {d : Dv} (h : Rv w B v d) (k : Below B w w') : Rv w' B v d := by
  obtain ⟨A, c, a, t, e, hs, hf, ht⟩ := h; exact ⟨A, c, a, t, e, hs.below k, hf, ht⟩
theorem Rv.more {w : World} {B B' : Nat} {v : Value} {d : Dv} (h : Rv w B v d) (k : B ≤ B') : Rv w B' v d := by
  obtain ⟨A, c, a, t, e, hs, hf, ht⟩ := h; exact ⟨A, c, a, t, e, hs.more k, hf, ht⟩
theorem Rv.heap {w : World} {B : Nat} {v : Value} {d : Dv} (h : Rv w B v d) : Rv w w.heap.size v d := by
  obtain ⟨A, c, a, t, e, hs, hf, ht⟩ := h; exact ⟨A, c, a, t, e, hs.heap, hf, ht⟩
def RReadPost (w : World) (d : Dv) (i : Int) (e : Ending) (w' : World) : Prop := e = .returned (.tuple #[.string (if d.can i = 0 then bsA (page d.L i.toNat) else ⟨#[]⟩), .int .i64 (d.can i)]) ∧ Below w.heap.size w w'
set_option maxRecDepth 100000 in
theorem rread_any {w : World} {B : Nat} {v : Value} {d : Dv} (h : Rv w B v d) (hok : d.ok) (i : Int) : Calls Try.prog 43 #[v, .int .i64 i] w (RReadPost w d i) := by
  obtain ⟨A, c, After, Torn, rfl, hs, hf, ht⟩ := h.heap
  have hn := hok.n2
  have hn1 := hok.n1
  have hbel : ∀ o, Below w.heap.size w (w.alloc o) := fun o => (Below.refl _ _).alloc (Nat.le_refl _) o
  have HB := Lib.hid hbel
  clear hbel
  by_cases hz : d.can i = 0
  · obtain ⟨hi0, hi1, hdead⟩ := can_zero hz
    obtain ⟨k, rfl⟩ : ∃ k : Nat, i = (k : Int) := ⟨i.toNat, by omega⟩
    have hk : k < d.n := by omega
    obtain ⟨ad, c', hv, hc1, hc2, hb, hcell⟩ := hs.1.at_ k (by rw [pagesS_len]; exact hk)
    rw [pagesS_len] at hv hc1
    simp only [Value.slice.injEq, true_and] at hv
    obtain ⟨rfl, rfl⟩ := hv
    have hg : (pagesS d.L d.n)[k]'(by rw [pagesS_len]; exact hk) = bsA (page d.L k) := by simp [pagesS]
    rw [hg] at hcell
    have hcell' : (w.alloc (.cells #[.slice (some ad) d.n c, .int .i64 After, .int .i64 Torn, .bool d.dead, .int .i64 (d.writes : Int)] 55)).cell? (ad.add k) = some (.string (bsA (page d.L k))) :=
      (World.cell?_alloc_lt w _ _ (by rw [addr_add_block]; exact hb)).trans hcell
    unfold RReadPost
    rw [if_pos hz, hz, Int.toNat_natCast, hdead]
    rw [hdead] at hcell'
    unfold maxLen at hc2
    generalize page d.L k = pg at *
    generalize d.n = n at *
    clear hcell hs hz hg hf
    have e1 : decide ((k : Int) < 0) = false := decide_eq_false (by omega)
    have e2 : decide ((n : Int) ≤ (k : Int)) = false := decide_eq_false (by omega)
    go_enter Try.func43, Try.ntmps43
    go_wp2
    go_ret2
    exact ⟨rfl, HB.out _⟩
  · unfold RReadPost
    rw [if_neg hz]
    clear hs hf
    unfold Dv.can at hz ⊢
    cases hd : d.dead with
    | true =>
      go_enter Try.func43, Try.ntmps43
      go_wp2
      go_ret2
      exact ⟨rfl, HB.out _⟩
    | false =>
      rw [hd, if_neg (by simp)] at hz
      have hr : i < 0 ∨ (d.n : Int) ≤ i := by
        rcases Classical.em (i < 0 ∨ (d.n : Int) ≤ i) with h | h
        · exact h
        · rw [if_neg h] at hz; exact absurd rfl hz
      rw [if_neg (by simp), if_pos hr]
      clear hz hd
      generalize d.n = n at *
      by_cases h0 : i < 0
      · go_enter Try.func43, Try.ntmps43
        go_wp2
        go_ret2
        exact ⟨rfl, HB.out _⟩
      · have e0 : decide (i < 0) = false := decide_eq_false h0
        have e1 : (n : Int) ≤ i := by omega
        go_enter Try.func43, Try.ntmps43
        go_wp2
        go_ret2
        exact ⟨rfl, HB.out _⟩
def RPost (w : World) (d' : Dv) (r : Int) (e : Ending) (w' : World) : Prop := ∃ v', e = .returned (.tuple #[v', .int .i64 r]) ∧ Rv w' w'.heap.size v' d' ∧ Below w.heap.size w w'
set_option maxRecDepth 100000 in
theorem rfuse_any {w : World} {B : Nat} {v : Value} {d : Dv} (h : Rv w B v d) (after torn : Int) (_ha : after ≤ 9223372036854775807) : Calls Try.prog 44 #[v, .int .i64 after, .int .i64 torn] w (RPost w (d.fuses after torn).1 (d.fuses after torn).2) := by
  obtain ⟨A, c, After, Torn, rfl, hs, hf, ht⟩ := h.heap
  have HS := Lib.hid hs
  have HF := Lib.hid hf
  clear hs hf
  obtain ⟨n, L, fus, dead, wr⟩ := d
  unfold Dv.fuses
  by_cases h1 : after < 0
  · rw [if_pos (.inl h1)]
    go_enter Try.func44, Try.ntmps44
    go_wp2
    have hb := (((Below.refl w.heap.size w).alloc (Nat.le_refl _) (.cells #[.slice A n c, .int .i64 After, .int .i64 Torn, .bool dead, .int .i64 (wr : Int)] 55)).alloc (by simp) (.cells #[.slice A n c, .int .i64 After, .int .i64 Torn, .bool dead, .int .i64 (wr : Int)] 55))
    exact bodyPost_ret (v := .tuple #[.agg #[.slice A n c, .int .i64 After, .int .i64 Torn, .bool dead, .int .i64 (wr : Int)], .int .i64 2]) (by simp [results, Try.results44, go_sem]) rfl ⟨_, rfl, ⟨A, c, After, Torn, rfl, (HS.out.below hb).heap, HF.out, ht⟩, hb⟩
  · have e1 : decide (after < 0) = false := decide_eq_false h1
    by_cases h2 : torn < 0
    · rw [if_pos (.inr (.inl h2))]
      go_enter Try.func44, Try.ntmps44
      go_wp2
      have hb := (((Below.refl w.heap.size w).alloc (Nat.le_refl _) (.cells #[.slice A n c, .int .i64 After, .int .i64 Torn, .bool dead, .int .i64 (wr : Int)] 55)).alloc (by simp) (.cells #[.slice A n c, .int .i64 After, .int .i64 Torn, .bool dead, .int .i64 (wr : Int)] 55))
      exact bodyPost_ret (v := .tuple #[.agg #[.slice A n c, .int .i64 After, .int .i64 Torn, .bool dead, .int .i64 (wr : Int)], .int .i64 2]) (by simp [results, Try.results44, go_sem]) rfl ⟨_, rfl, ⟨A, c, After, Torn, rfl, (HS.out.below hb).heap, HF.out, ht⟩, hb⟩
    · have e2 : decide (torn < 0) = false := decide_eq_false h2
      by_cases h3 : 64 < torn
      · rw [if_pos (.inr (.inr h3))]
        go_enter Try.func44, Try.ntmps44
        go_wp2
        have hb := (((Below.refl w.heap.size w).alloc (Nat.le_refl _) (.cells #[.slice A n c, .int .i64 After, .int .i64 Torn, .bool dead, .int .i64 (wr : Int)] 55)).alloc (by simp) (.cells #[.slice A n c, .int .i64 After, .int .i64 Torn, .bool dead, .int .i64 (wr : Int)] 55))
        exact bodyPost_ret (v := .tuple #[.agg #[.slice A n c, .int .i64 After, .int .i64 Torn, .bool dead, .int .i64 (wr : Int)], .int .i64 2]) (by simp [results, Try.results44, go_sem]) rfl ⟨_, rfl, ⟨A, c, After, Torn, rfl, (HS.out.below hb).heap, HF.out, ht⟩, hb⟩
      · have e3 : decide (64 < torn) = false := decide_eq_false h3
        rw [if_neg (by omega)]
        have hfz : fuseR after torn (some (after.toNat, torn.toNat)) := ⟨by omega, by omega⟩
        have HFZ := Lib.hid hfz
        have htz : -9223372036854775808 ≤ torn ∧ torn ≤ 9223372036854775807 := by omega
        have HTZ := Lib.hid htz
        clear hfz htz h1 h2 h3
        go_enter Try.func44, Try.ntmps44
        go_wp2
        have hb := (((Below.refl w.heap.size w).alloc (Nat.le_refl _) (.cells #[.slice A n c, .int .i64 after, .int .i64 torn, .bool dead, .int .i64 (wr : Int)] 55)).alloc (by simp) (.cells #[.slice A n c, .int .i64 after, .int .i64 torn, .bool dead, .int .i64 (wr : Int)] 55))
        exact bodyPost_ret (v := .tuple #[.agg #[.slice A n c, .int .i64 after, .int .i64 torn, .bool dead, .int .i64 (wr : Int)], .int .i64 0]) (by simp [results, Try.results44, go_sem]) rfl ⟨_, rfl, ⟨A, c, after, torn, rfl, (HS.out.below hb).heap, HFZ.out, HTZ.out⟩, hb⟩
set_option maxRecDepth 100000 in
theorem rpower_any {w : World} {B : Nat} {v : Value} {d : Dv} (h : Rv w B v d) : Calls Try.prog 46 #[v] w fun e w' => ∃ v', e = .returned v' ∧ Rv w' w'.heap.size v' { d with fuse := none, dead := false } ∧ Below w.heap.size w w' := by
  obtain ⟨A, c, After, Torn, rfl, hs, hf, ht⟩ := h.heap
  have HS := Lib.hid hs
  clear hs hf
  obtain ⟨n, L, fus, dead, wr⟩ := d
  go_enter Try.func46, Try.ntmps46
  go_wp2
  have hb := (((Below.refl w.heap.size w).alloc (Nat.le_refl _) (.cells #[.slice A n c, .int .i64 (-1), .int .i64 Torn, .bool false, .int .i64 (wr : Int)] 55)).alloc (by simp) (.cells #[.slice A n c, .int .i64 (-1), .int .i64 Torn, .bool false, .int .i64 (wr : Int)] 55))
  exact bodyPost_ret (v := .agg #[.slice A n c, .int .i64 (-1), .int .i64 Torn, .bool false, .int .i64 (wr : Int)]) (by simp [results, Try.results46, go_sem]) rfl ⟨_, rfl, ⟨A, c, -1, Torn, rfl, (HS.out.below hb).heap, rfl, ht⟩, hb⟩
end Go.Proofs.Ytmcjefdnkcpghaa
