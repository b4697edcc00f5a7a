/- THE WALKS OF sector's Fuse, Clone of bytes, Read. -/
import Derived.Test.YtmcjefdnkcpghaaSeA
namespace Go.Proofs.Ytmcjefdnkcpghaa
open Go.RowKit
def Dv.fuses (d : Dv) (after torn : Int) : Dv × Int := if after < 0 ∨ torn < 0 ∨ 64 < torn then (d, 2) else ({ d with fuse := some (after.toNat, torn.toNat) }, 0)
def FusePost (w : World) (Z : Nat → Prop) (g : Nat) (d' : Dv) (r : Int) (e : Ending) (w' : World) : Prop := e = .returned (.int .i64 r) ∧ Dk w' (fun b => Z b ∨ (w.heap.size ≤ b ∧ b < w'.heap.size)) g d' ∧ Kept (fun b => ¬ Z b) w w'
theorem Dk.fused {w : World} {Z : Nat → Prop} {g : Nat} {d : Dv} (h : Dk w Z g d) (a t : Nat) (ha : a ≤ 9223372036854775807) (ht : t ≤ 64) :
    Dk ((w.setCell ⟨g, 1, none⟩ (.pointer (some ⟨w.heap.size, 0, none⟩))).alloc (.cells #[.int .i64 (a : Int), .int .i64 (t : Int)] 139)) (fun b => Z b ∨ (w.heap.size ≤ b ∧ b < w.heap.size + 1)) g { d with fuse := some (a, t) } ∧
    Kept (fun b => ¬ Z b) w ((w.setCell ⟨g, 1, none⟩ (.pointer (some ⟨w.heap.size, 0, none⟩))).alloc (.cells #[.int .i64 (a : Int), .int .i64 (t : Int)] 139)) := by
  have hl := h.gz
  have hlt := h.lt
  obtain ⟨P, fv, c, J, hcap, h1, h2, h3, h4⟩ := h.st
  have hPg : P ≠ g := fun e => by
    subst e; rw [h1] at h2; injection h2 with h2; injection h2 with _ h2 _; exact absurd h2 (by decide)
  have k1 := Lib.heap_setCell_same (i := 1) h1 (.pointer (some ⟨w.heap.size, 0, none⟩))
  have k2 : (w.setCell ⟨g, 1, none⟩ (.pointer (some ⟨w.heap.size, 0, none⟩))).heap[P]? = some (.cells (d.L.map bV ++ J).toArray 141 (0, 0)) := by
    rw [Below.heap_setCell _ _ _ _ (fun e => hPg e)]; exact h2
  have hnew := heap_alloc_new (w.setCell ⟨g, 1, none⟩ (.pointer (some ⟨w.heap.size, 0, none⟩))) (.cells #[.int .i64 (a : Int), .int .i64 (t : Int)] 139 (0, 0))
  have hsz : (w.setCell ⟨g, 1, none⟩ (.pointer (some ⟨w.heap.size, 0, none⟩))).heap.size = w.heap.size := by simp [World.setCell]
  rw [hsz] at hnew
  refine ⟨⟨⟨h.ok.n1, h.ok.n2, h.ok.len, fun a' t' e => by cases e; exact ⟨ha, ht⟩, h.ok.wr⟩, .inl hl, P, _, c, J, hcap, ?_, ?_, .inl h3, w.heap.size, rfl, .inr ⟨Nat.le_refl _, Nat.lt_succ_self _⟩, hnew⟩, ?_⟩
  · rw [Below.heap_alloc _ _ _ (by rw [hsz]; exact hlt)]; simpa using k1
  · rw [Below.heap_alloc _ _ _ (lt_of_block k2)]; exact k2
  · exact ((Kept.refl _ w).setCell _ _ (fun _ hS => hS hl)).alloc _
set_option maxRecDepth 100000 in
theorem fuse_any {w : World} {Z : Nat → Prop} {g : Nat} {d : Dv} (h : Dk w Z g d) (after torn : Int) (ha : after ≤ 9223372036854775807) :
    Calls Try.prog 37 #[.pointer (some ⟨g, 0, none⟩), .int .i64 after, .int .i64 torn] w (FusePost w Z g (d.fuses after torn).1 (d.fuses after torn).2) := by
  have hn := snone_any h
  have hsame : ∀ Z' : Nat → Prop, Dk w (fun b => Z b ∨ Z' b) g d := fun Z' => h.more (fun _ h => .inl h)
  have hr : Kept (fun b => ¬ Z b) w w := Kept.refl _ _
  unfold Dv.fuses
  by_cases h1 : after < 0
  · rw [if_pos (.inl h1)]
    go_enter Try.func37, Try.ntmps37
    go_wp2_with (go_at_call 90; refine hn.mono ?_; rintro e w' ⟨rfl, rfl⟩)
    go_ret
    exact ⟨rfl, hsame _, hr⟩
  · have e1 : decide (after < 0) = false := decide_eq_false h1
    by_cases h2 : torn < 0
    · rw [if_pos (.inr (.inl h2))]
      go_enter Try.func37, Try.ntmps37
      go_wp2_with (go_at_call 90; refine hn.mono ?_; rintro e w' ⟨rfl, rfl⟩)
      go_ret
      exact ⟨rfl, hsame _, hr⟩
    · have e2 : decide (torn < 0) = false := decide_eq_false h2
      by_cases h3 : 64 < torn
      · rw [if_pos (.inr (.inr h3))]
        go_enter Try.func37, Try.ntmps37
        go_wp2_with (go_at_call 90; refine hn.mono ?_; rintro e w' ⟨rfl, rfl⟩)
        go_ret
        exact ⟨rfl, hsame _, hr⟩
      · have e3 : decide (64 < torn) = false := decide_eq_false h3
        rw [if_neg (by omega)]
        obtain ⟨a, rfl⟩ : ∃ a : Nat, after = (a : Int) := ⟨after.toNat, by omega⟩
        obtain ⟨t, rfl⟩ : ∃ t : Nat, torn = (t : Int) := ⟨torn.toNat, by omega⟩
        have hs := h.fused a t (by omega) (by omega)
        obtain ⟨P, fv, c, J, hcap, g1, _⟩ := h.st
        have c1 := cells_of g1 1 _ rfl
        have f1 := free_of g1 1
        have hlt := h.lt
        have hne : ¬ g = w.heap.size := by omega
        have hne2 : ¬ w.heap.size = g := by omega
        clear g1 h1 h2 h3 hsame hr
        go_enter Try.func37, Try.ntmps37
        go_wp2_with (go_at_call 90; refine hn.mono ?_; rintro e w' ⟨rfl, rfl⟩)
        go_ret
        refine ⟨rfl, hs.1.more (fun b hb => hb.imp id (fun h => ⟨h.1, by simpa [World.setCell] using h.2⟩)), hs.2⟩
theorem bclone_any {w : World} {B : Nat} {v : Value} {m : List UInt8} (hv : Byt w B v m) (h0 : 0 < m.length) (hm : m.length ≤ 1000000) :
    Calls Try.prog 91 #[v] w fun e w' => ∃ r, e = .returned r ∧ Own w' w.heap.size r m ∧ Below w.heap.size w w' := by
  obtain ⟨A, c, rfl, hc, hx, hr⟩ := id hv
  obtain ⟨ad, rfl, hb, _⟩ := hr h0
  have hq := fun (w : World) (A : Option Addr) (n c : Nat) => Lib.run_eql_slice_nil (P := Try.prog) w 23 5 A n c 0 0 Try.underlying23
  have hown := own_lit w [] (by simp [maxLen])
  have hv' := hv.heap.below ((Below.refl w.heap.size w).alloc (Nat.le_refl _) (.cells (([] : List UInt8).map bV).toArray 5))
  have HO := Lib.hid hown
  have HV := Lib.hid hv'
  clear hown hv' hr
  go_enter Try.func91, Try.ntmps91
  go_wp2_with (first
    | (at_builtin; go_must (refine wpList_append_byt _ rfl (.tmp 5) (.tmp 6) rfl w.heap.size _ [] rfl HO.out _ _ m rfl HV.out (by simp; omega) (by simp) ?_)
       intro v5 w5 hown5 hg5 _))
  go_ret
  exact ⟨_, rfl, hown5, ((Below.refl w.heap.size w).alloc (Nat.le_refl _) _).grown hg5 (by simp) (fun b hb => by cases hb; exact Nat.le_refl _)⟩
/-- sector i -/
def page (L : List UInt8) (i : Nat) : List UInt8 := (L.drop (64 * i)).take 64
theorem page_len {L : List UInt8} {n i : Nat} (hl : L.length = 64 * n) (hi : i < n) : (page L i).length = 64 := by
  unfold page; rw [List.length_take, List.length_drop]; omega
theorem Dk.page_byt {w : World} {L : List UInt8} {J : List Value} {P n i : Nat} (h : w.heap[P]? = some (.cells (L.map bV ++ J).toArray 141 (0, 0))) (hl : L.length = 64 * n) (hi : i < n) :
    Byt w w.heap.size (.slice (some ⟨P, i * 64, none⟩) 64 64) (page L i) := by
  refine ⟨some ⟨P, i * 64, none⟩, 64, by rw [page_len hl hi], by rw [page_len hl hi]; exact Nat.le_refl _, by simp [maxLen], fun _ => ⟨_, rfl, lt_of_block h, fun j x hj => ?_⟩⟩
  unfold page at hj
  rw [List.getElem?_take] at hj
  split at hj
  · rw [List.getElem?_drop] at hj
    rw [addr_mk_add]
    simp only [World.cell?, h]
    rw [show i * 64 + j = 64 * i + j by omega]
    have hlt := (List.getElem?_eq_some_iff.1 hj).1
    rw [List.getElem?_toArray, List.getElem?_append_left (by simpa using hlt)]
    simp [hj]
  · cases hj
def ReadPost (w : World) (d : Dv) (i : Int) (e : Ending) (w' : World) : Prop :=
  ∃ r, e = .returned (.tuple #[r, .int .i64 (d.can i)]) ∧ Own w' w.heap.size r (if d.can i = 0 then page d.L i.toNat else []) ∧ Below w.heap.size w w'
set_option maxRecDepth 100000 in
theorem read_any {w : World} {Z : Nat → Prop} {g : Nat} {d : Dv} (h : Dk w Z g d) (i : Int) : Calls Try.prog 39 #[.pointer (some ⟨g, 0, none⟩), .int .i64 i] w (ReadPost w d i) := by
  have hc := can_any h i
  obtain ⟨P, fv, c, J, hcap, h1, h2, _⟩ := h.st
  have c0 := cells_of h1 0 _ rfl
  by_cases hz : d.can i = 0
  · have hi : 0 ≤ i ∧ i < d.n := by
      unfold Dv.can at hz
      split at hz
      · cases hz
      · split at hz
        · cases hz
        · omega
    obtain ⟨k, rfl⟩ : ∃ k : Nat, i = (k : Int) := ⟨i.toNat, by omega⟩
    have hb := Dk.page_byt h2 h.ok.len (show k < d.n by omega)
    have hlen := page_len h.ok.len (show k < d.n by omega)
    have hcl := bclone_any hb (by omega) (by omega)
    unfold ReadPost
    rw [if_pos hz, Int.toNat_natCast]
    rw [hz] at hc ⊢
    have hk : k < d.n := by omega
    have hn2 := h.ok.n2
    generalize page d.L k = pg at *
    generalize d.n = n at *
    clear h1 h2 hb hz hlen
    go_enter Try.func39, Try.ntmps39
    go_wp2_with (first
      | (go_at_call 89; refine hc.mono ?_; rintro e w' ⟨rfl, rfl⟩)
      | (go_at_call 91; refine hcl.mono ?_; rintro e w2 ⟨r, rfl, hown, hbel⟩))
    go_ret2
    exact ⟨_, rfl, hown, hbel⟩
  · unfold ReadPost
    rw [if_neg hz]
    generalize d.can i = z at *
    have hz1 : (z == 0) = false := by rw [beq_eq_false_iff_ne]; exact hz
    have hz2 : (z != 0) = true := by simp [hz]
    clear h1 h2
    go_enter Try.func39, Try.ntmps39
    go_wp2_with (first
      | (go_at_call 89; refine hc.mono ?_; rintro e w' ⟨rfl, rfl⟩))
    go_ret2
    exact ⟨_, rfl, Own.nil_ _ _, Below.refl _ _⟩
end Go.Proofs.Ytmcjefdnkcpghaa
