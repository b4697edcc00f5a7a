/- THE WALKS OF blob.Writer. -/
import Derived.Test.YtnmiodjkomgfcaaFoot
import Derived.Deep.LoopGhost
import Derived.Deep.RegionHeld3
import Derived.Deep.DeepCutAuto
import Derived.Lib.BufferMore
namespace Go.Proofs.Ytnmiodjkomgfcaa
open Go.RowKit
/-- a number's bytes, the highest first, none of them leading 0 -/
def digs (n : Nat) : List UInt8 := if n = 0 then [] else digs (n / 256) ++ [UInt8.ofNat n]
theorem digs_zero : digs 0 = [] := by rw [digs]; rfl
theorem digs_pos {n : Nat} (h : 0 < n) : digs n = digs (n / 256) ++ [UInt8.ofNat n] := by rw [digs, if_neg (by omega)]
theorem digs_len_pos {n : Nat} (h : 0 < n) : (digs n).length = (digs (n / 256)).length + 1 := by rw [digs_pos h]; simp
theorem digs_len_div (n : Nat) : ∀ k, k ≤ (digs n).length → (digs (n / 256 ^ k)).length + k = (digs n).length ∧ (k < (digs n).length → 0 < n / 256 ^ k) := by
  intro k
  induction k with
  | zero =>
    intro _
    refine ⟨by simp, fun h => ?_⟩
    rcases Nat.eq_zero_or_pos n with rfl | hp
    · simp [digs_zero] at h
    · simpa using hp
  | succ k ih =>
    intro hk
    obtain ⟨h1, h2⟩ := ih (by omega)
    have h3 := h2 (by omega)
    have e : n / 256 ^ (k + 1) = n / 256 ^ k / 256 := by rw [Nat.pow_succ, Nat.div_div_eq_div_mul]
    have h4 := digs_len_pos h3
    rw [e]
    refine ⟨by omega, fun h => ?_⟩
    rcases Nat.eq_zero_or_pos (n / 256 ^ k / 256) with h0 | hp
    · rw [h0, digs_zero] at h4; simp at h4; omega
    · exact hp
theorem digs_len_zero {n k : Nat} (hk : k ≤ (digs n).length) (h : n / 256 ^ k = 0) : k = (digs n).length := by
  have := (digs_len_div n k hk).1
  rw [h, digs_zero] at this
  simpa using this
theorem digs_full (n : Nat) : n / 256 ^ (digs n).length = 0 := by
  have h := (digs_len_div n _ (Nat.le_refl _)).1
  rcases Nat.eq_zero_or_pos (n / 256 ^ (digs n).length) with h0 | hp
  · exact h0
  · have := digs_len_pos hp; omega
theorem digs_lt (m : Nat) : ∀ n, n < 256 ^ m → (digs n).length ≤ m := by
  induction m with
  | zero => intro n h; obtain rfl : n = 0 := by omega
            simp [digs_zero]
  | succ m ih =>
    intro n h
    rcases Nat.eq_zero_or_pos n with rfl | hp
    · simp [digs_zero]
    · rw [digs_len_pos hp]
      have := ih (n / 256) (by rw [Nat.div_lt_iff_lt_mul (by decide)]; rw [Nat.pow_succ] at h; exact h)
      omega
/-- a number's bytes -/
def numL (n : Int) : List UInt8 := UInt8.ofNat ((if n < 0 then 128 else 0) + (digs n.natAbs).length) :: digs n.natAbs
def flagL (b : Bool) : List UInt8 := [if b then 1 else 0]
def textL (s : ByteArray) : List UInt8 := numL s.size ++ s.data.toList
theorem digs_abs_le (n : Int) (h1 : -9223372036854775808 ≤ n) (h2 : n ≤ 9223372036854775807) : (digs n.natAbs).length ≤ 8 := digs_lt 8 _ (by omega)
theorem numL_len (n : Int) (h1 : -9223372036854775808 ≤ n) (h2 : n ≤ 9223372036854775807) : (numL n).length ≤ 9 := by
  have := digs_abs_le n h1 h2
  simp only [numL, List.length_cons]; omega
/-- g is a writer that a call made; l its bytes -/
structure Wr (w : World) (g : Nat) (l : List UInt8) (sp : Bool) (s : Value) : Prop where
  heap : w.heap[g]? = some (.cells #[s, .bool true, .bool sp] 49 (0, 0))
  own : Own w g s l
/-- what a call on it turns: it, and its row -/
structure Step (w w' : World) (g : Nat) (s s' : Value) : Prop where
  kept : Kept (fun k => k ≠ g ∧ s.ownBlock ≠ some k) w w'
  row : ∀ k, s'.ownBlock = some k → s.ownBlock = some k ∨ w.heap.size ≤ k
section
variable {w w' w'' : World} {g : Nat} {l : List UInt8} {sp : Bool} {s s' s'' : Value}
theorem Step.refl : Step w w g s s := ⟨Kept.refl _ _, fun _ h => .inl h⟩
theorem Step.trans (h : Step w w' g s s') (k : Step w' w'' g s' s'') : Step w w'' g s s'' := by
  refine ⟨h.kept.trans k.kept fun b hb hS => ⟨hS.1, fun e => ?_⟩, fun b hb => ?_⟩
  · rcases h.row b e with h1 | h1
    · exact hS.2 h1
    · omega
  · rcases k.row b hb with h1 | h1
    · exact h.row b h1
    · have := h.kept.size; exact .inr (by omega)
theorem Wr.c0 (h : Wr w g l sp s) : w.cell? ⟨g, 0, none⟩ = some s := by simp [World.cell?, h.heap]
theorem Wr.c1 (h : Wr w g l sp s) : w.cell? ⟨g, 1, none⟩ = some (.bool true) := by simp [World.cell?, h.heap]
theorem Wr.c2 (h : Wr w g l sp s) : w.cell? ⟨g, 2, none⟩ = some (.bool sp) := by simp [World.cell?, h.heap]
theorem Wr.f0 (h : Wr w g l sp s) : w.frozen? ⟨g, 0, none⟩ = false := by simp [World.frozen?, h.heap]
theorem Wr.f2 (h : Wr w g l sp s) : w.frozen? ⟨g, 2, none⟩ = false := by simp [World.frozen?, h.heap]
theorem Wr.lt (h : Wr w g l sp s) : g < w.heap.size := lt_of_block h.heap
theorem Wr.apart (h : Wr w g l sp s) : s.ownBlock ≠ some g := h.own.apart h.heap (by decide)
theorem Wr.kept {S : Nat → Prop} (h : Wr w g l sp s) (k : Kept S w w') (hg : S g) (hs : ∀ b, s.ownBlock = some b → S b) : Wr w' g l sp s := ⟨k.heap h.heap hg, h.own.kept k hs⟩
theorem Wr.below (h : Wr w g l sp s) (k : Below w.heap.size w w') : Wr w' g l sp s := h.kept (S := fun _ => True) (Kept.ofBelow k) trivial fun _ _ => trivial
theorem Step.ofBelow (k : Below w.heap.size w w') : Step w w' g s s := ⟨Kept.ofBelow k, fun _ h => .inl h⟩
/-- the writer behind an append, and the store of what it yields -/
theorem Wr.stored {wa w1 : World} {v' : Value} {l' : List UInt8} (h : Wr w g l sp s) (hb : Below w.heap.size w wa) (hg : wa.grownBy w1 s.ownBlock) (ho : Own w1 g v' l')
    (hat : ∀ k, v'.ownBlock = some k → s.ownBlock = some k ∨ wa.heap.size ≤ k) : Wr (w1.setCell ⟨g, 0, none⟩ v') g l' sp v' ∧ Step w (w1.setCell ⟨g, 0, none⟩ v') g s v' := by
  have ha := h.apart
  have h1 : w1.heap[g]? = some (.cells #[s, .bool true, .bool sp] 49 (0, 0)) := by
    rw [hg.block g (Nat.lt_of_lt_of_le h.lt hb.size) (fun e => ha e.symm), hb.block g h.lt]; exact h.heap
  have hap : v'.ownBlock ≠ some g := ho.apart h1 (by decide)
  refine ⟨⟨Lib.heap_setCell_same (i := 0) h1 v', ho.setOther hap v'⟩, ⟨?_, ?_⟩⟩
  · refine ((Kept.ofBelow hb).grown hg fun k hk _ hS => hS.2 hk).setCell _ _ (fun _ hS => hS.1 rfl)
  · intro k hk
    rcases hat k hk with h2 | h2
    · exact .inl h2
    · have := hb.size; exact .inr (by omega)
theorem Wr.behind {wa w1 : World} (h : Wr w g l sp s) (hb : Below w.heap.size w wa) (hg : wa.grownBy w1 s.ownBlock) : w1.cell? ⟨g, 0, none⟩ = some s ∧ w1.frozen? ⟨g, 0, none⟩ = false := by
  have e : w1.heap[g]? = w.heap[g]? := (hg.block g (Nat.lt_of_lt_of_le h.lt hb.size) (fun e => h.apart e.symm)).trans (hb.block g h.lt)
  exact ⟨(World.cell?_of_block (a := ⟨g, 0, none⟩) e).trans h.c0, (World.frozen?_of_block (a := ⟨g, 0, none⟩) e).trans h.f0⟩
/-- append of bytes to a writer's row; the store follows -/
theorem wpList_wr {wa : World} (h : Wr w g l sp s) (hb : Below w.heap.size w wa) {ops : Array Oper} {rest : List Oper} {o : Oper} {a : Act} {Q : Exit → Act → World → Prop} (hgd : o.guard = none) (sl x : Operand)
    (ho : o.op = .call { callee := .builtin .append, args := #[sl, x], argTypes := #[27, 27] }) (hs : a.eval sl = s)
    (B : Nat) (y : Value) (m : List UInt8) (hx : a.eval x = y) (hy : Byt wa B y m) (hl : l.length + m.length ≤ 2000000000)
    (hk : ∀ A n c w1, w1.cell? ⟨g, 0, none⟩ = some s → w1.frozen? ⟨g, 0, none⟩ = false → Wr (w1.setCell ⟨g, 0, none⟩ (.slice A n c)) g (l ++ m) sp (.slice A n c) ∧ Step w (w1.setCell ⟨g, 0, none⟩ (.slice A n c)) g s (.slice A n c) → wpList Try.prog ops Q rest (a.put o.dst (.slice A n c)) w1) :
    wpList Try.prog ops Q (o :: rest) a wa := by
  refine wpList_append_byt wa hgd sl x ho g s l hs (h.own.below hb) B y m hx hy (by omega) (Nat.le_of_lt (Nat.lt_of_lt_of_le h.lt hb.size)) ?_
  intro v' w1 hown hg hat
  obtain ⟨h1, h2⟩ := h.behind hb hg
  obtain ⟨A, c, rfl, _⟩ := hown.byt
  exact hk A _ c w1 h1 h2 (h.stored hb hg hown fun k hk => by rcases hat with e | e <;> rw [e] at hk; exact .inl hk; cases hk; exact .inr (Nat.le_refl _))
theorem wpList_wr_str {wa : World} (h : Wr w g l sp s) (hb : Below w.heap.size w wa) {ops : Array Oper} {rest : List Oper} {o : Oper} {a : Act} {Q : Exit → Act → World → Prop} (hgd : o.guard = none) (sl x : Operand)
    (ho : o.op = .call { callee := .builtin .append, args := #[sl, x], argTypes := #[27, 9] }) (hs : a.eval sl = s)
    (m : ByteArray) (hx : a.eval x = .string m) (hl : l.length + m.size ≤ 2000000000)
    (hk : ∀ A n c w1, w1.cell? ⟨g, 0, none⟩ = some s → w1.frozen? ⟨g, 0, none⟩ = false → Wr (w1.setCell ⟨g, 0, none⟩ (.slice A n c)) g (l ++ m.data.toList) sp (.slice A n c) ∧ Step w (w1.setCell ⟨g, 0, none⟩ (.slice A n c)) g s (.slice A n c) → wpList Try.prog ops Q rest (a.put o.dst (.slice A n c)) w1) :
    wpList Try.prog ops Q (o :: rest) a wa := by
  refine wpList_append_str wa hgd sl x ho g s l hs (h.own.below hb) m hx (by omega) (Nat.le_of_lt (Nat.lt_of_lt_of_le h.lt hb.size)) ?_
  intro v' w1 hown hg hat
  obtain ⟨h1, h2⟩ := h.behind hb hg
  obtain ⟨A, c, rfl, _⟩ := hown.byt
  refine hk A _ c w1 h1 h2 (h.stored hb hg hown fun k hk => ?_)
  rcases hat with e | e | e <;> rw [e] at hk
  · exact .inl hk
  · cases hk
  · cases hk; exact .inr (Nat.le_refl _)
theorem step_wr {wa : World} (h : Wr w g l sp s) (hb : Below w.heap.size w wa) {ops : Array Oper} {o : Oper} {a : Act} {K : Act → World → Prop} {Q : Exit → Act → World → Prop} {E : Prop} (hgd : o.guard = none) (sl x : Operand)
    (ho : o.op = .call { callee := .builtin .append, args := #[sl, x], argTypes := #[27, 27] }) (hs : a.eval sl = s)
    (B : Nat) (y : Value) (m : List UInt8) (hx : a.eval x = y) (hy : Byt wa B y m) (hl : l.length + m.length ≤ 2000000000)
    (hk : ∀ A n c w1, w1.cell? ⟨g, 0, none⟩ = some s → w1.frozen? ⟨g, 0, none⟩ = false → Wr (w1.setCell ⟨g, 0, none⟩ (.slice A n c)) g (l ++ m) sp (.slice A n c) ∧ Step w (w1.setCell ⟨g, 0, none⟩ (.slice A n c)) g s (.slice A n c) → K (a.put o.dst (.slice A n c)) w1) :
    if Region.wanted o (yielded ops a.tmps) = true then Oper.wp Try.prog o a wa K Q else E := by
  refine step_append_byt wa hgd sl x ho g s l hs (h.own.below hb) B y m hx hy (by omega) (Nat.le_of_lt (Nat.lt_of_lt_of_le h.lt hb.size)) ?_
  intro v' w1 hown hg hat
  obtain ⟨h1, h2⟩ := h.behind hb hg
  obtain ⟨A, c, rfl, _⟩ := hown.byt
  exact hk A _ c w1 h1 h2 (h.stored hb hg hown fun k hk => by rcases hat with e | e <;> rw [e] at hk; exact .inl hk; cases hk; exact .inr (Nat.le_refl _))
theorem Wr.spoilt (h : Wr w g l sp s) : Wr (w.setCell ⟨g, 2, none⟩ (.bool true)) g l true s ∧ Step w (w.setCell ⟨g, 2, none⟩ (.bool true)) g s s :=
  ⟨⟨Lib.heap_setCell_same (i := 2) h.heap (.bool true), h.own.setOther h.apart _⟩, ⟨(Kept.refl _ _).setCell _ _ (fun _ hS => hS.1 rfl), fun _ h => .inl h⟩⟩
end
theorem new_any (w : World) : Calls Try.prog 10 #[] w fun e w' => e = .returned (.pointer (some ⟨w.heap.size, 0, none⟩)) ∧ Wr w' w.heap.size [] false (.slice none 0 0) ∧ Below w.heap.size w w' := by
  go_enter Try.func10, Try.ntmps10
  go_wp2
  go_ret
  refine ⟨rfl, ⟨heap_alloc_new _ _, Own.nil_ _ _⟩, (Below.refl _ _).alloc (Nat.le_refl _) _⟩
theorem none_any {w : World} {g : Nat} {l : List UInt8} {sp : Bool} {s : Value} (h : Wr w g l sp s) : Calls Try.prog 31 #[.pointer (some ⟨g, 0, none⟩)] w fun e w' => e = .returned (.bool false) ∧ w = w' := by
  have h1 := h.c1
  clear h
  go_enter Try.func31, Try.ntmps31
  go_wp2
  go_ret
  exact ⟨rfl, rfl⟩
theorem long_any (n : Nat) (hn : n < 18446744073709551616) (w : World) : Calls Try.prog 39 #[.int .u64 (n : Int)] w fun e w' => e = .returned (.int .i64 ((digs n).length : Nat)) ∧ w = w' := by
  have hlen : (digs n).length ≤ 8 := digs_lt 8 n hn
  have HL := Lib.hid hlen
  have HD := Lib.hid (fun k hk => (digs_len_div n k hk).2)
  have HZ := Lib.hid (show ∀ k, k ≤ (digs n).length → n / 256 ^ k = 0 → k = (digs n).length from fun k => digs_len_zero)
  have HF := Lib.hid (digs_full n)
  clear hlen
  generalize (digs n).length = L at *
  go_enter Try.func39, Try.ntmps39
  go_wp2
  go_loopg [0, 2] L (fun g x m wr => w = wr ∧ ∃ k : Nat, k ≤ L ∧ g = L - k ∧ x = .int .u64 ((n / 256 ^ k : Nat) : Int) ∧ m = .int .i64 (k : Int))
  case atStart => exact ⟨rfl, 0, by omega, rfl, by simp, rfl⟩
  case round =>
    obtain ⟨rfl, k, hk, hg, rfl, rfl⟩ := hrel
    have HG := Lib.hid hg
    have h8 := HL.out
    clear hg
    have e1 : n / 256 ^ (k + 1) = n / 256 ^ k / 256 := by rw [Nat.pow_succ, Nat.div_div_eq_div_mul]
    have E1 := Lib.hid e1
    have HZk := Lib.hid (HZ.out k hk)
    have HFk := Lib.hid (show k = L → n / 256 ^ k = 0 from fun e => by rw [e]; exact HF.out)
    have hx : n / 256 ^ k < 18446744073709551616 := Nat.lt_of_le_of_lt (Nat.div_le_self _ _) hn
    clear e1
    generalize n / 256 ^ k = x at *
    by_cases h0 : 0 < x
    · have hkL : k < L := by
        rcases Nat.lt_or_ge k L with h | h
        · exact h
        · have := HFk.out (by omega); omega
      go_wp2
      go_roundg (L - (k + 1))
      case measure => have := HG.out; omega
      case rel => exact ⟨rfl, k + 1, by omega, rfl, by rw [E1.out]; go_num, by go_num⟩
    · have h00 : x = 0 := by omega
      obtain rfl := HZk.out h00
      clear HZk HFk E1
      subst h00
      go_wp2
      go_ret
      exact ⟨rfl, rfl⟩
end Go.Proofs.Ytnmiodjkomgfcaa
