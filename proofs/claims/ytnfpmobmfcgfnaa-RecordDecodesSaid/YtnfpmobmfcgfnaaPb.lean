/- THE WALKS OF blob.Writer. -/
import Derived.Test.YtnfpmobmfcgfnaaPa
import Derived.Deep.LoopGhost
import Derived.Deep.RegionHeld3
import Derived.Deep.DeepCutAuto
import Derived.Lib.BufferMore
import Derived.Deep.RegionLaw
namespace Go.Proofs.Ytnfpmobmfcgfnaa
open Go.RowKit
/-- a number's bytes, the highest first, none of them leading 0 -/
def digs (n : Nat) : List UInt8 := if n = 0 then [] else digs (n / 256) ++ [UInt8.ofNat n]
theorem digs_zero : digs 0 = [] := by rw [digs]; rfl
theorem digs_pos {n : Nat} (h : 0 < n) : digs n = digs (n / 256) ++ [UInt8.ofNat n] := by rw [digs, if_neg (by omega)]
theorem digs_len_pos {n : Nat} (h : 0 < n) : (digs n).length = (digs (n / 256)).length + 1 := by rw [digs_pos h]; simp
theorem digs_len_div (n : Nat) : ∀ k, k ≤ (digs n).length → (digs (n / 256 ^ k)).length + k = (digs n).length ∧ (k < (digs n).length → 0 < n / 256 ^ k) := by
 intro k
 induction k with
 | zero =>
  intro _
  refine ⟨by simp, fun h => ?_⟩
  rcases Nat.eq_zero_or_pos n with rfl | hp
  ·simp [digs_zero] at h
  ·simpa using hp
 | succ k ih =>
  intro hk
  obtain ⟨h1, h2⟩ := ih (by omega)
  have h3 := h2 (by omega)
  have e : n / 256 ^ (k + 1) = n / 256 ^ k / 256 := by rw [Nat.pow_succ, Nat.div_div_eq_div_mul]
  have h4 := digs_len_pos h3
  rw [e]
  refine ⟨by omega, fun h => ?_⟩
  rcases Nat.eq_zero_or_pos (n / 256 ^ k / 256) with h0 | hp
  ·rw [h0, digs_zero] at h4; simp at h4; omega
  ·exact hp
theorem digs_len_zero {n k : Nat} (hk : k ≤ (digs n).length) (h : n / 256 ^ k = 0) : k = (digs n).length := by
 have := (digs_len_div n k hk).1
 rw [h, digs_zero] at this
 simpa using this
theorem digs_full (n : Nat) : n / 256 ^ (digs n).length = 0 := by
 have h := (digs_len_div n _ (Nat.le_refl _)).1
 rcases Nat.eq_zero_or_pos (n / 256 ^ (digs n).length) with h0 | hp
 ·exact h0
 ·have := digs_len_pos hp; omega
theorem digs_lt (m : Nat) : ∀ n, n < 256 ^ m → (digs n).length ≤ m := by
  induction m with
  | zero => intro n h; obtain rfl : n = 0 := by omega
            simp [digs_zero]
  | succ m ih =>
    intro n h
    rcases Nat.eq_zero_or_pos n with rfl | hp
    · simp [digs_zero]
    · rw [digs_len_pos hp]
      have := ih (n / 256) (by rw [Nat.div_lt_iff_lt_mul (by decide)]; rw [Nat.pow_succ] at h; exact h)
      omega
/-- a number's bytes -/
def numL (n : Int) : List UInt8 := UInt8.ofNat ((if n < 0 then 128 else 0) + (digs n.natAbs).length) :: digs n.natAbs
def flagL (b : Bool) : List UInt8 := [if b then 1 else 0]
def textL (s : ByteArray) : List UInt8 := numL s.size ++ s.data.toList
theorem digs_abs_le (n : Int) (h1 : -9223372036854775808 ≤ n) (h2 : n ≤ 9223372036854775807) : (digs n.natAbs).length ≤ 8 := digs_lt 8 _ (by omega)
theorem numL_len (n : Int) (h1 : -9223372036854775808 ≤ n) (h2 : n ≤ 9223372036854775807) : (numL n).length ≤ 9 := by
 have := digs_abs_le n h1 h2
 simp only [numL, List.length_cons]; omega
/-- g is a writer that a call made; l its bytes -/
structure Wr (w : World) (g : Nat) (l : List UInt8) (sp : Bool) (s : Value) : Prop where
 heap : w.heap[g]? = some (.cells #[s, .bool true, .bool sp] 110 (0, 0))
 own : Own w g s l
/-- what a call on it turns: it, and its row -/
structure Step (w w' : World) (g : Nat) (s s' : Value) : Prop where
 kept : Kept (fun k => k ≠ g ∧ s.ownBlock ≠ some k) w w'
 row : ∀ k, s'.ownBlock = some k → s.ownBlock = some k ∨ w.heap.size ≤ k
section
variable {w w' w'' : World} {g : Nat} {l : List UInt8} {sp : Bool} {s s' s'' : Value}
theorem Step.refl : Step w w g s s := ⟨Kept.refl _ _, fun _ h => .inl h⟩
theorem Step.trans (h : Step w w' g s s') (k : Step w' w'' g s' s'') : Step w w'' g s s'' := by
 refine ⟨h.kept.trans k.kept fun b hb hS => ⟨hS.1, fun e => ?_⟩, fun b hb => ?_⟩
 ·rcases h.row b e with h1 | h1
  ·exact hS.2 h1
  ·omega
 ·rcases k.row b hb with h1 | h1
  ·exact h.row b h1
  ·have := h.kept.size; exact .inr (by omega)
theorem Wr.c0 (h : Wr w g l sp s) : w.cell? ⟨g, 0, none⟩ = some s := by simp [World.cell?, h.heap]
theorem Wr.c1 (h : Wr w g l sp s) : w.cell? ⟨g, 1, none⟩ = some (.bool true) := by simp [World.cell?, h.heap]
theorem Wr.c2 (h : Wr w g l sp s) : w.cell? ⟨g, 2, none⟩ = some (.bool sp) := by simp [World.cell?, h.heap]
theorem Wr.f0 (h : Wr w g l sp s) : w.frozen? ⟨g, 0, none⟩ = false := by simp [World.frozen?, h.heap]
theorem Wr.f2 (h : Wr w g l sp s) : w.frozen? ⟨g, 2, none⟩ = false := by simp [World.frozen?, h.heap]
theorem Wr.lt (h : Wr w g l sp s) : g < w.heap.size := lt_of_block h.heap
theorem Wr.apart (h : Wr w g l sp s) : s.ownBlock ≠ some g := h.own.apart h.heap (by decide)
theorem Wr.kept {S : Nat → Prop} (h : Wr w g l sp s) (k : Kept S w w') (hg : S g) (hs : ∀ b, s.ownBlock = some b → S b) : Wr w' g l sp s := ⟨k.heap h.heap hg, h.own.kept k hs⟩
theorem Wr.below (h : Wr w g l sp s) (k : Below w.heap.size w w') : Wr w' g l sp s := h.kept (S := fun _ => True) (Kept.ofBelow k) trivial fun _ _ => trivial
theorem Step.ofBelow (k : Below w.heap.size w w') : Step w w' g s s := ⟨Kept.ofBelow k, fun _ h => .inl h⟩
/-- the writer behind an append, and the store of what it yields -/
theorem Wr.stored {wa w1 : World} {v' : Value} {l' : List UInt8} (h : Wr w g l sp s) (hb : Below w.heap.size w wa) (hg : wa.grownBy w1 s.ownBlock) (ho : Own w1 g v' l')
  (hat : ∀ k, v'.ownBlock = some k → s.ownBlock = some k ∨ wa.heap.size ≤ k) : Wr (w1.setCell ⟨g, 0, none⟩ v') g l' sp v' ∧ Step w (w1.setCell ⟨g, 0, none⟩ v') g s v' := by
 have ha := h.apart
 have h1 : w1.heap[g]? = some (.cells #[s, .bool true, .bool sp] 110 (0, 0)) := by
  rw [hg.block g (Nat.lt_of_lt_of_le h.lt hb.size) (fun e => ha e.symm), hb.block g h.lt]; exact h.heap
 have hap : v'.ownBlock ≠ some g := ho.apart h1 (by decide)
 refine ⟨⟨Lib.heap_setCell_same (i := 0) h1 v', ho.setOther hap v'⟩, ⟨?_, ?_⟩⟩
 ·refine ((Kept.ofBelow hb).grown hg fun k hk _ hS => hS.2 hk).setCell _ _ (fun _ hS => hS.1 rfl)
 ·intro k hk
  rcases hat k hk with h2 | h2
  ·exact .inl h2
  ·have := hb.size; exact .inr (by omega)
theorem Wr.behind {wa w1 : World} (h : Wr w g l sp s) (hb : Below w.heap.size w wa) (hg : wa.grownBy w1 s.ownBlock) : w1.cell? ⟨g, 0, none⟩ = some s ∧ w1.frozen? ⟨g, 0, none⟩ = false := by
 have e : w1.heap[g]? = w.heap[g]? := (hg.block g (Nat.lt_of_lt_of_le h.lt hb.size) (fun e => h.apart e.symm)).trans (hb.block g h.lt)
 exact ⟨(World.cell?_of_block (a := ⟨g, 0, none⟩) e).trans h.c0, (World.frozen?_of_block (a := ⟨g, 0, none⟩) e).trans h.f0⟩
/-- append of bytes to a writer's row; the store follows -/
theorem wpList_wr {wa : World} (h : Wr w g l sp s) (hb : Below w.heap.size w wa) {ops : Array Oper} {rest : List Oper} {o : Oper} {a : Act} {Q : Exit → Act → World → Prop} (hgd : o.guard = none) (sl x : Operand)
  (ho : o.op = .call { callee := .builtin .append, args := #[sl, x], argTypes := #[59, 59] }) (hs : a.eval sl = s)
  (B : Nat) (y : Value) (m : List UInt8) (hx : a.eval x = y) (hy : Byt wa B y m) (hl : l.length + m.length ≤ 2000000000)
  (hk : ∀ A n c w1, w1.cell? ⟨g, 0, none⟩ = some s → w1.frozen? ⟨g, 0, none⟩ = false → Wr (w1.setCell ⟨g, 0, none⟩ (.slice A n c)) g (l ++ m) sp (.slice A n c) ∧ Step w (w1.setCell ⟨g, 0, none⟩ (.slice A n c)) g s (.slice A n c) → wpList Try.prog ops Q rest (a.put o.dst (.slice A n c)) w1) :
  wpList Try.prog ops Q (o :: rest) a wa := by
 refine wpList_append_byt wa hgd sl x ho g s l hs (h.own.below hb) B y m hx hy (by omega) (Nat.le_of_lt (Nat.lt_of_lt_of_le h.lt hb.size)) ?_
 intro v' w1 hown hg hat
 obtain ⟨h1, h2⟩ := h.behind hb hg
 obtain ⟨A, c, rfl, _⟩ := hown.byt
 exact hk A _ c w1 h1 h2 (h.stored hb hg hown fun k hk => by rcases hat with e | e <;> rw [e] at hk; exact .inl hk; cases hk; exact .inr (Nat.le_refl _))
theorem wpList_wr_str {wa : World} (h : Wr w g l sp s) (hb : Below w.heap.size w wa) {ops : Array Oper} {rest : List Oper} {o : Oper} {a : Act} {Q : Exit → Act → World → Prop} (hgd : o.guard = none) (sl x : Operand)
  (ho : o.op = .call { callee := .builtin .append, args := #[sl, x], argTypes := #[59, 9] }) (hs : a.eval sl = s)
  (m : ByteArray) (hx : a.eval x = .string m) (hl : l.length + m.size ≤ 2000000000)
  (hk : ∀ A n c w1, w1.cell? ⟨g, 0, none⟩ = some s → w1.frozen? ⟨g, 0, none⟩ = false → Wr (w1.setCell ⟨g, 0, none⟩ (.slice A n c)) g (l ++ m.data.toList) sp (.slice A n c) ∧ Step w (w1.setCell ⟨g, 0, none⟩ (.slice A n c)) g s (.slice A n c) → wpList Try.prog ops Q rest (a.put o.dst (.slice A n c)) w1) :
  wpList Try.prog ops Q (o :: rest) a wa := by
 refine wpList_append_str wa hgd sl x ho g s l hs (h.own.below hb) m hx (by omega) (Nat.le_of_lt (Nat.lt_of_lt_of_le h.lt hb.size)) ?_
 intro v' w1 hown hg hat
 obtain ⟨h1, h2⟩ := h.behind hb hg
 obtain ⟨A, c, rfl, _⟩ := hown.byt
 refine hk A _ c w1 h1 h2 (h.stored hb hg hown fun k hk => ?_)
 rcases hat with e | e | e <;> rw [e] at hk
 ·exact .inl hk
 ·cases hk
 ·cases hk; exact .inr (Nat.le_refl _)
theorem step_wr {wa : World} (h : Wr w g l sp s) (hb : Below w.heap.size w wa) {ops : Array Oper} {o : Oper} {a : Act} {K : Act → World → Prop} {Q : Exit → Act → World → Prop} {E : Prop} (hgd : o.guard = none) (sl x : Operand)
  (ho : o.op = .call { callee := .builtin .append, args := #[sl, x], argTypes := #[59, 59] }) (hs : a.eval sl = s)
  (B : Nat) (y : Value) (m : List UInt8) (hx : a.eval x = y) (hy : Byt wa B y m) (hl : l.length + m.length ≤ 2000000000)
  (hk : ∀ A n c w1, w1.cell? ⟨g, 0, none⟩ = some s → w1.frozen? ⟨g, 0, none⟩ = false → Wr (w1.setCell ⟨g, 0, none⟩ (.slice A n c)) g (l ++ m) sp (.slice A n c) ∧ Step w (w1.setCell ⟨g, 0, none⟩ (.slice A n c)) g s (.slice A n c) → K (a.put o.dst (.slice A n c)) w1) :
  if Region.wanted o (yielded ops a.tmps) = true then Oper.wp Try.prog o a wa K Q else E := by
 refine step_append_byt wa hgd sl x ho g s l hs (h.own.below hb) B y m hx hy (by omega) (Nat.le_of_lt (Nat.lt_of_lt_of_le h.lt hb.size)) ?_
 intro v' w1 hown hg hat
 obtain ⟨h1, h2⟩ := h.behind hb hg
 obtain ⟨A, c, rfl, _⟩ := hown.byt
 exact hk A _ c w1 h1 h2 (h.stored hb hg hown fun k hk => by rcases hat with e | e <;> rw [e] at hk; exact .inl hk; cases hk; exact .inr (Nat.le_refl _))
end
theorem new_any (w : World) : Calls Try.prog 63 #[] w fun e w' => e = .returned (.pointer (some ⟨w.heap.size, 0, none⟩)) ∧ Wr w' w.heap.size [] false (.slice none 0 0) ∧ Below w.heap.size w w' := by
 go_enter Try.func63, Try.ntmps63
 go_wp2
 go_ret
 refine ⟨rfl, ⟨heap_alloc_new _ _, Own.nil_ _ _⟩, (Below.refl _ _).alloc (Nat.le_refl _) _⟩
theorem none_any {w : World} {g : Nat} {l : List UInt8} {sp : Bool} {s : Value} (h : Wr w g l sp s) : Calls Try.prog 94 #[.pointer (some ⟨g, 0, none⟩)] w fun e w' => e = .returned (.bool false) ∧ w = w' := by
 have h1 := h.c1
 clear h
 go_enter Try.func94, Try.ntmps94
 go_wp2
 go_ret
 exact ⟨rfl, rfl⟩
theorem long_any (n : Nat) (hn : n < 18446744073709551616) (w : World) : Calls Try.prog 95 #[.int .u64 (n : Int)] w fun e w' => e = .returned (.int .i64 ((digs n).length : Nat)) ∧ w = w' := by
 have hlen : (digs n).length ≤ 8 := digs_lt 8 n hn
 have HL := Lib.hid hlen
 have HD := Lib.hid (fun k hk => (digs_len_div n k hk).2)
 have HZ := Lib.hid (show ∀ k, k ≤ (digs n).length → n / 256 ^ k = 0 → k = (digs n).length from fun k => digs_len_zero)
 have HF := Lib.hid (digs_full n)
 clear hlen
 generalize (digs n).length = L at *
 go_enter Try.func95, Try.ntmps95
 go_wp2
 go_loopg [0, 2] L (fun g x m wr => w = wr ∧ ∃ k : Nat, k ≤ L ∧ g = L - k ∧ x = .int .u64 ((n / 256 ^ k : Nat) : Int) ∧ m = .int .i64 (k : Int))
 case atStart => exact ⟨rfl, 0, by omega, rfl, by simp, rfl⟩
 case round =>
  obtain ⟨rfl, k, hk, hg, rfl, rfl⟩ := hrel
  have HG := Lib.hid hg
  have h8 := HL.out
  clear hg
  have e1 : n / 256 ^ (k + 1) = n / 256 ^ k / 256 := by rw [Nat.pow_succ, Nat.div_div_eq_div_mul]
  have E1 := Lib.hid e1
  have HZk := Lib.hid (HZ.out k hk)
  have HFk := Lib.hid (show k = L → n / 256 ^ k = 0 from fun e => by rw [e]; exact HF.out)
  have hx : n / 256 ^ k < 18446744073709551616 := Nat.lt_of_le_of_lt (Nat.div_le_self _ _) hn
  clear e1
  generalize n / 256 ^ k = x at *
  by_cases h0 : 0 < x
  ·have hkL : k < L := by
    rcases Nat.lt_or_ge k L with h | h
    ·exact h
    ·have := HFk.out (by omega); omega
   go_wp2
   go_roundg (L - (k + 1))
   case measure => have := HG.out; omega
   case rel => exact ⟨rfl, k + 1, by omega, rfl, by rw [E1.out]; go_num, by go_num⟩
  ·have h00 : x = 0 := by omega
   obtain rfl := HZk.out h00
   clear HZk HFk E1
   subst h00
   go_wp2
   go_ret
   exact ⟨rfl, rfl⟩
end Go.Proofs.Ytnfpmobmfcgfnaa

/- THE WALKS OF blob.Writer's METHODS. -/
namespace Go.Proofs.Ytnfpmobmfcgfnaa
open Go.RowKit
abbrev ptr (g : Nat) : Value := .pointer (some ⟨g, 0, none⟩)
def WPost (w : World) (g : Nat) (l : List UInt8) (sp : Bool) (s : Value) (e : Ending) (w' : World) : Prop :=
 ∃ s', e = .returned (ptr g) ∧ Wr w' g l sp s' ∧ Step w w' g s s'
set_option maxHeartbeats 1000000 in
theorem flag_any {w : World} {g : Nat} {l : List UInt8} {sp : Bool} {s : Value} (b : Bool) (h : Wr w g l sp s) (hl : l.length ≤ 1000000000) :
    Calls Try.prog 96 #[ptr g, .bool b] w (WPost w g (l ++ flagL b) sp s) := by
  have h0 := h.c0
  have hf := h.f0
  have hlt := h.lt
  have hne := World.new_ne w _ h0
  have hown := h.own
  have hap := Lib.hid h.apart
  unfold ptr
  cases b
  all_goals
    go_enter Try.func96, Try.ntmps96
    go_wp2_with (first
      | (go_at_call 94; refine (none_any h).mono ?_; rintro e w' ⟨rfl, rfl⟩)
      | (at_builtin; go_must (first
           | refine wpList_wr h ((Below.refl _ _).alloc (Nat.le_refl _) _) rfl (.tmp 12) (.tmp 13) rfl rfl _ _ [1] rfl (byt_one w _ 1 rfl) (by simp; omega) ?_
           | refine wpList_wr h ((Below.refl _ _).alloc (Nat.le_refl _) _) rfl (.tmp 22) (.tmp 23) rfl rfl _ _ [0] rfl (byt_one w _ 0 rfl) (by simp; omega) ?_)
         intro A n c w1 hc1 hf1 hres))
    go_ret
    exact ⟨_, rfl, hres.1, hres.2⟩
theorem digs_snoc (n m : Nat) (h : 0 < n / 256 ^ m) : digs (n / 256 ^ m) = digs (n / 256 ^ (m + 1)) ++ [UInt8.ofNat (n / 256 ^ m)] := by
 rw [digs_pos h, Nat.pow_succ, Nat.div_div_eq_div_mul]
theorem shr_byte (k m : Nat) (hm : m < 8) : Op.shift .shr .u64 (k : Int) .i64 (IntKind.i64.wrap (8 * (m : Int))) = pure (.int .u64 ((k / 256 ^ m : Nat) : Int)) := by
 have e : IntKind.i64.wrap (8 * (m : Int)) = ((8 * m : Nat) : Int) := by rw [IntKind.wrap_i64]; omega
 have e2 : (2 : Int) ^ min (((8 * m : Nat) : Int).toNat) IntKind.u64.bits = ((256 ^ m : Nat) : Int) := by
  rw [Int.toNat_natCast, Nat.min_eq_left (by show 8 * m ≤ 64; omega)]
  have : (256 : Nat) ^ m = 2 ^ (8 * m) := by rw [Nat.pow_mul]
  rw [this, Int.natCast_pow]; rfl
 rw [e, shift_shr_any _ _ _ _ (by omega), e2]
 rfl
set_option maxRecDepth 100000 in
set_option maxHeartbeats 2000000 in
/-- the loop of Num: from the head's byte on -/
theorem num_any {w : World} {g : Nat} {l : List UInt8} {sp : Bool} {s : Value} (n : Int) (h1 : -9223372036854775808 < n) (h2 : n ≤ 9223372036854775807) (h : Wr w g l sp s) (hl : l.length ≤ 1000000000) :
    Calls Try.prog 64 #[ptr g, .int .i64 n] w (WPost w g (l ++ numL n) sp s) := by
  have h0 := h.c0
  have hf := h.f0
  have hlt := h.lt
  have hne := World.new_ne w _ h0
  have hd8 := digs_abs_le n (by omega) h2
  unfold ptr
  obtain ⟨k, hd, hk, hnum, hcase⟩ : ∃ k hd : Nat, k < 9223372036854775808 ∧ numL n = UInt8.ofNat (hd + (digs k).length) :: digs k ∧ ((n = (k : Int) ∧ hd = 0) ∨ (n = -(k : Int) ∧ 0 < k ∧ hd = 128)) := by
    by_cases hn : n < 0
    · exact ⟨n.natAbs, 128, by omega, by unfold numL; rw [if_pos hn], .inr ⟨by omega, by omega, rfl⟩⟩
    · exact ⟨n.natAbs, 0, by omega, by unfold numL; rw [if_neg (by omega)], .inl ⟨by omega, rfl⟩⟩
  rw [hnum]
  clear hnum hd8
  have hlong := long_any k (by omega) w
  have hd8 : (digs k).length ≤ 8 := digs_lt 8 k (by omega)
  have HZ := Lib.hid (digs_full k)
  have HD := Lib.hid (fun m hm => (digs_len_div k m hm).2)
  have HS := Lib.hid (digs_snoc k)
  rcases hcase with ⟨rfl, rfl⟩ | ⟨rfl, hk0, rfl⟩
  all_goals
    go_enter Try.func64, Try.ntmps64
    go_wp2_with (first
      | (go_at_call 94; refine (none_any h).mono ?_; rintro e w' ⟨rfl, rfl⟩)
      | (go_at_call 95; refine hlong.mono ?_; rintro e w' ⟨rfl, rfl⟩)
      | (at_builtin; go_must (first
           | refine wpList_wr h ((Below.refl _ _).alloc (Nat.le_refl _) _) rfl (.tmp 31) (.tmp 36) rfl rfl _ _ [UInt8.ofNat (0 + (digs k).length)] rfl (byt_one w _ _ (by simp; omega)) (by simp; omega) ?_
           | refine wpList_wr h ((Below.refl _ _).alloc (Nat.le_refl _) _) rfl (.tmp 31) (.tmp 36) rfl rfl _ _ [UInt8.ofNat (128 + (digs k).length)] rfl (byt_one w _ _ (by simp; omega)) (by simp; omega) ?_)
         intro A n c w1 hc1 hf1 hres))
    clear hc1 hf1
    obtain ⟨hwr, hst⟩ := hres
    generalize UInt8.ofNat _ = hdb at *
    generalize w1.setCell ⟨g, 0, none⟩ (.slice A n c) = w2 at *
    generalize (digs k).length = L at *
    go_loopg [7] L (fun gk x wr => ∃ (m : Nat) (s' : Value), m ≤ L ∧ gk = m ∧ x = .int .i64 (m : Int) ∧ Wr wr g (l ++ hdb :: digs (k / 256 ^ m)) sp s' ∧ Step w wr g s s')
    case atStart => exact ⟨L, _, Nat.le_refl _, rfl, rfl, by rw [HZ.out, digs_zero]; exact hwr, hst⟩
    case round =>
      obtain ⟨m, s', hm, hgk, rfl, hwr', hst'⟩ := hrel
      have HG := Lib.hid hgk
      clear hgk
      cases m with
      | zero =>
        go_wp2
        go_ret
        exact ⟨_, rfl, by simpa using hwr', hst'⟩
      | succ m =>
        have hc0 := hwr'.c0
        have hcf := hwr'.f0
        have hcl := hwr'.lt
        have hcn := World.new_ne wr _ hc0
        have hsn := HS.out m (HD.out m (by omega) (by omega))
        have hsh := shr_byte k m (by omega)
        have hdl : (digs (k / 256 ^ (m + 1))).length ≤ 8 := digs_lt 8 _ (Nat.lt_of_le_of_lt (Nat.div_le_self _ _) (by omega))
        generalize hx : k / 256 ^ m = x at hsn hsh
        have HX := Lib.hid hx
        clear hx
        generalize digs (k / 256 ^ (m + 1)) = ds at *
        have HSN := Lib.hid hsn
        clear hsn
        go_wp2_with fail
        go_region_law ((refine step_wr hwr' (((Below.refl _ _).drew).alloc (Nat.le_refl _) _) (by rfl) (.tmp 48) (.tmp 54) (by rfl) (by rfl) _ _ [UInt8.ofNat x] (by rfl) (byt_one wr.drew _ _ (by rw [IntKind.wrap_u8]; simp)) (by simp; omega) ?_; intro A' n' c' w3 hc3 hf3 hres'))
        all_goals
          go_wp2
          go_roundg m
          case measure => have := HG.out; omega
          case rel => exact ⟨m, _, by omega, rfl, rfl, by rw [HX.out, HSN.out]; simpa using hres'.1, hst'.trans hres'.2⟩
end Go.Proofs.Ytnfpmobmfcgfnaa

/- THE WALKS OF blob.Writer's Text AND Bytes. -/
namespace Go.Proofs.Ytnfpmobmfcgfnaa
open Go.RowKit
section
variable {w : World} {g : Nat} {l : List UInt8} {sp : Bool} {s : Value}
set_option maxHeartbeats 1000000 in
theorem text_any (t : ByteArray) (ht : t.size ≤ 65536) (h : Wr w g l sp s) (hl : l.length ≤ 900000000) :
    Calls Try.prog 65 #[ptr g, .string t] w (WPost w g (l ++ textL t) sp s) := by
  have hnum := num_any (t.size : Int) (by omega) (by omega) h (by omega)
  have hnl := numL_len (t.size : Int) (by omega) (by omega)
  unfold ptr
  go_enter Try.func65, Try.ntmps65
  go_wp2_with (first
    | (go_at_call 94; refine (none_any h).mono ?_; rintro e w' ⟨rfl, rfl⟩)
    | (go_at_call 64; refine hnum.mono ?_; rintro e w1 ⟨s1, rfl, hw1, hs1⟩; have hc1 := hw1.c0)
    | (at_builtin; go_must (refine wpList_wr_str hw1 (Below.refl _ _) rfl (.tmp 24) (.tmp 25) rfl rfl t rfl (by rw [List.length_append]; omega) ?_)
       intro A n c w2 hc2 hf2 hres))
  go_ret
  exact ⟨_, rfl, by unfold textL; rw [← List.append_assoc]; exact hres.1, hs1.trans hres.2⟩
set_option maxHeartbeats 1000000 in
theorem bytes_any (h : Wr w g l false s) (hl : l.length ≤ 2000000000) : Calls Try.prog 67 #[ptr g] w fun e w' =>
    ∃ r, e = .returned (.tuple #[r, .int .i64 0]) ∧ Own w' w.heap.size r l ∧ Below w.heap.size w w' := by
  have h0 := h.c0
  have h2 := h.c2
  have hlt := h.lt
  have hne := World.new_ne w _ h0
  have hby := h.own.byt
  unfold ptr
  go_enter Try.func67, Try.ntmps67
  go_wp2_with (first
    | (go_at_call 94; refine (none_any h).mono ?_; rintro e w' ⟨rfl, rfl⟩)
    | (at_builtin; go_must (refine wpList_append_byt _ rfl (.tmp 12) (.tmp 16) rfl w.heap.size _ [] rfl (own_lit w [] (by simp)) w.heap.size _ l rfl (hby.alloc (Nat.le_refl _) _) (by simp; omega) (by simp) ?_)
       intro v' w1 hown hg hat))
  go_ret2
  refine ⟨_, rfl, hown, ((Below.refl _ _).alloc (Nat.le_refl _) _).grown hg (by simp) (fun k hk => ?_)⟩
  cases hk
  exact Nat.le_refl _
end
end Go.Proofs.Ytnfpmobmfcgfnaa

