/- THE WALK OF sector's Write. -/
import Derived.Test.YtmcjefdnkcpghaaSeB
import Derived.Laws.CopyOwn
namespace Go.Proofs.Ytmcjefdnkcpghaa
open Go.RowKit
theorem Kept.setRow {S : Nat → Prop} {w w' : World} (h : Kept S w w') (g : Nat) (cs : Array Value) (hg : g < w.heap.size → ¬ S g) : Kept S w (w'.setRow g cs) :=
  ⟨h.os, h.tape, h.output, Nat.le_trans h.size (by simp [World.setRow]), fun b hb hS => by
    have hne : g ≠ b := fun e => by subst e; exact hg hb hS
    have : (w'.setRow g cs).heap[b]? = w'.heap[b]? := by
      unfold World.setRow
      simp only
      rw [Array.getElem?_modify, if_neg hne]
    exact this.trans (h.block b hb hS)⟩
theorem map_splice (L m : List UInt8) (o : Nat) : (splice L o m).map bV = (L.map bV).take o ++ m.map bV ++ (L.map bV).drop (o + m.length) := by
  unfold splice; rw [List.map_append, List.map_append, List.map_take, List.map_drop, List.append_assoc]
/-- copy of bytes onto a block of bytes -/
theorem run_copy_page (w : World) (P T ty : Nat) (L : List UInt8) (J : List Value) (hP : w.heap[P]? = some (.cells (L.map bV ++ J).toArray T (0, 0))) (o n c : Nat) (B : Nat) (y : Value) (m : List UInt8) (hy : Byt w B y m) (h0 : 0 < m.length) (k : Nat) (hk : k = Nat.min m.length n) (hfit : o + k ≤ L.length) :
    ∃ w', (Builtin.copy_ #[23, 23] ty #[.slice (some ⟨P, o, none⟩) n c, y]).run Try.prog w = .ok (goInt k) w' ∧ w'.heap[P]? = some (.cells ((splice L o (m.take k)).map bV ++ J).toArray T (0, 0)) ∧ Kept (fun b => b ≠ P) w w' := by
  obtain ⟨A, c', rfl, hc, hm, hr⟩ := hy
  obtain ⟨ad, rfl, hb, hx⟩ := hr h0
  have hlen : (m.take k).length = k := by rw [List.length_take, hk]; exact Nat.min_eq_left (Nat.min_le_left _ _)
  have hrun := run_copy_row (P := Try.prog) w 23 23 ty 5 P o n c ad m.length c' (L.map bV ++ J).toArray T ((m.take k).map bV) Try.underlying23 (by kernel_rfl) hP (by rw [List.length_map, hlen, hk])
    (fun j v hj => by
      rw [List.getElem?_map] at hj
      cases hq : (m.take k)[j]? with
      | none => rw [hq] at hj; cases hj
      | some x =>
        rw [hq] at hj
        cases hj
        rw [List.getElem?_take] at hq
        split at hq
        · exact hx j x hq
        · cases hq)
    (by simp only [List.length_map, hlen, List.size_toArray, List.length_append]; omega) (bsV_one _)
  rw [List.length_map, hlen] at hrun
  refine ⟨_, hrun, ?_, (Kept.refl _ w).setRow P _ (fun _ h => h rfl)⟩
  have hX : (L.map bV ++ J).toArray.toList.take o ++ (m.take k).map bV ++ (L.map bV ++ J).toArray.toList.drop (o + k) = (L.map bV).take o ++ (m.take k).map bV ++ (L.map bV).drop (o + k) ++ J := by
    show (L.map bV ++ J).take o ++ (m.take k).map bV ++ (L.map bV ++ J).drop (o + k) = _
    rw [List.take_append_of_le_length (by rw [List.length_map]; omega), List.drop_append_of_le_length (by rw [List.length_map]; omega)]
    simp only [List.append_assoc]
  rw [map_splice, hlen, hX]
  exact setRow_heap w P _ _ T (0, 0) hP
theorem wpList_copy_page (w : World) {ops : Array Oper} {rest : List Oper} {o : Oper} {a : Act} {Q : Exit → Act → World → Prop} (hgd : o.guard = none) (s x : Operand)
    (ho : o.op = .call { callee := .builtin .copy, args := #[s, x], argTypes := #[23, 23] }) (P T : Nat) (L : List UInt8) (J : List Value) (hP : w.heap[P]? = some (.cells (L.map bV ++ J).toArray T (0, 0))) (off n c : Nat)
    (hs : a.eval s = .slice (some ⟨P, off, none⟩) n c) (B : Nat) (y : Value) (m : List UInt8) (hx : a.eval x = y) (hy : Byt w B y m) (h0 : 0 < m.length) (k : Nat) (hk : k = Nat.min m.length n) (hfit : off + k ≤ L.length)
    (h : ∀ w', w'.heap[P]? = some (.cells ((splice L off (m.take k)).map bV ++ J).toArray T (0, 0)) → Kept (fun b => b ≠ P) w w' → wpList Try.prog ops Q rest (a.put o.dst (goInt k)) w') : wpList Try.prog ops Q (o :: rest) a w := by
  refine wpList_plain hgd fun K hK => ?_
  obtain ⟨w', hrun, h1, h2⟩ := run_copy_page w P T o.type L J hP off n c B y m hy h0 k hk hfit
  unfold Oper.wp execOp
  simp only [ho, resolve, invoke, builtin, Sem.run_bind, Sem.run_pure, Result.andThen_ok, List.map_toArray, List.map_cons, List.map_nil, hs, hx, hrun]
  exact hK _ _ (h w' h1 h2)
/-- a disk, its blocks named -/
structure DkAt (w : World) (Z : Nat → Prop) (g P c : Nat) (J : List Value) (fv : Value) (d : Dv) : Prop where
  ok : d.ok
  cap : d.n ≤ c ∧ c ≤ 9223372036854775807
  gz : Z g
  heap : w.heap[g]? = some (.cells #[.slice (some ⟨P, 0, none⟩) d.n c, fv, .bool d.dead, .int .i64 (d.writes : Int)] 102 (0, 0))
  bytes : w.heap[P]? = some (.cells (d.L.map bV ++ J).toArray 141 (0, 0))
  pz : Z P
  fus : fuseAt w Z fv d.fuse
theorem Dk.at_ {w : World} {Z : Nat → Prop} {g : Nat} {d : Dv} (h : Dk w Z g d) : ∃ P c J fv, DkAt w Z g P c J fv d := by
  obtain ⟨P, fv, c, J, hcap, h1, h2, h3, h4⟩ := h.st; exact ⟨P, c, J, fv, h.ok, hcap, h.gz, h1, h2, h3, h4⟩
theorem kind_ne {w : World} {a b : Nat} {cs cs' : Array Value} {t t' : TypeId} {fr fr' : Nat × Nat} (h1 : w.heap[a]? = some (.cells cs t fr)) (h2 : w.heap[b]? = some (.cells cs' t' fr')) (hne : t ≠ t') : a ≠ b := by
  rintro rfl
  rw [h1] at h2
  injection h2 with h2
  injection h2 with _ h2 _
  exact hne h2
section
variable {w w' : World} {Z : Nat → Prop} {g P c : Nat} {J : List Value} {fv : Value} {d : Dv}
theorem DkAt.dk (h : DkAt w Z g P c J fv d) : Dk w Z g d := ⟨h.ok, h.gz, P, fv, c, J, h.cap, h.heap, h.bytes, h.pz, h.fus⟩
theorem DkAt.c0 (h : DkAt w Z g P c J fv d) : w.cell? ⟨g, 0, none⟩ = some (.slice (some ⟨P, 0, none⟩) d.n c) := by simp [World.cell?, h.heap]
theorem DkAt.c1 (h : DkAt w Z g P c J fv d) : w.cell? ⟨g, 1, none⟩ = some fv := by simp [World.cell?, h.heap]
theorem DkAt.c2 (h : DkAt w Z g P c J fv d) : w.cell? ⟨g, 2, none⟩ = some (.bool d.dead) := by simp [World.cell?, h.heap]
theorem DkAt.c3 (h : DkAt w Z g P c J fv d) : w.cell? ⟨g, 3, none⟩ = some (.int .i64 (d.writes : Int)) := by simp [World.cell?, h.heap]
theorem DkAt.f (h : DkAt w Z g P c J fv d) (i : Nat) : w.frozen? ⟨g, i, none⟩ = false := free_of h.heap i
theorem fuseAt.other {f : Option (Nat × Nat)} (h : fuseAt w Z fv f) {x : Nat} {cs : Array Value} {t : TypeId} (hx : w.heap[x]? = some (.cells cs t (0, 0))) (ht : t ≠ 139) (hk : ∀ b, b ≠ x → b < w.heap.size → w'.heap[b]? = w.heap[b]?) : fuseAt w' Z fv f := by
  cases f with
  | none => exact h
  | some p =>
    obtain ⟨F, e, h1, h3⟩ := h
    exact ⟨F, e, h1, (hk F (fun e => kind_ne h3 hx ht.symm e) (lt_of_block h3)).trans h3⟩
theorem DkAt.copied (h : DkAt w Z g P c J fv d) {o : Nat} {m : List UInt8} (hP : w'.heap[P]? = some (.cells ((splice d.L o m).map bV ++ J).toArray 141 (0, 0))) (hk : Kept (fun b => b ≠ P) w w') (ho : o + m.length ≤ d.L.length) : DkAt w' Z g P c J fv { d with L := splice d.L o m } :=
  ⟨⟨h.ok.n1, h.ok.n2, by rw [length_splice _ _ _ ho]; exact h.ok.len, h.ok.fus, h.ok.wr⟩, h.cap, h.gz, hk.heap h.heap (kind_ne h.heap h.bytes (by decide)), hP, h.pz, h.fus.other h.bytes (by decide) fun b hb hlt => hk.block b hlt hb⟩
theorem DkAt.wrote (h : DkAt w Z g P c J fv d) (hw : d.writes + 1 ≤ 1000000000) : DkAt (w.setCell ⟨g, 3, none⟩ (.int .i64 ((d.writes : Int) + 1))) Z g P c J fv { d with writes := d.writes + 1 } := by
  have hoth : ∀ b, b ≠ g → (w.setCell ⟨g, 3, none⟩ (.int .i64 ((d.writes : Int) + 1))).heap[b]? = w.heap[b]? := fun b hb => Below.heap_setCell _ _ _ _ (fun e => hb e)
  refine ⟨⟨h.ok.n1, h.ok.n2, h.ok.len, h.ok.fus, hw⟩, h.cap, h.gz, ?_, ?_, h.pz, h.fus.other h.heap (by decide) fun b hb _ => hoth b hb⟩
  · have := Lib.heap_setCell_same (i := 3) h.heap (.int .i64 ((d.writes : Int) + 1))
    simpa using this
  · rw [hoth P (fun e => kind_ne h.bytes h.heap (by decide) e)]; exact h.bytes
theorem DkAt.dec {a t F : Nat} (h : DkAt w Z g P c J (.pointer (some ⟨F, 0, none⟩)) d) (hf : d.fuse = some (a + 1, t)) : DkAt (w.setCell ⟨F, 0, none⟩ (.int .i64 (a : Int))) Z g P c J (.pointer (some ⟨F, 0, none⟩)) { d with fuse := some (a, t) } ∧
    Kept (fun b => ¬ Z b) w (w.setCell ⟨F, 0, none⟩ (.int .i64 (a : Int))) := by
  have hfu := h.fus
  rw [hf] at hfu
  obtain ⟨F', e, h1, h3⟩ := hfu
  injection e with e
  injection e with e
  injection e with e
  subst e
  have hoth : ∀ b, b ≠ F → (w.setCell ⟨F, 0, none⟩ (.int .i64 (a : Int))).heap[b]? = w.heap[b]? := fun b hb => Below.heap_setCell _ _ _ _ (fun e => hb e)
  have h4 := Lib.heap_setCell_same (i := 0) h3 (.int .i64 (a : Int))
  refine ⟨⟨⟨h.ok.n1, h.ok.n2, h.ok.len, fun a' t' e => by cases e; have := h.ok.fus _ _ hf; omega, h.ok.wr⟩, h.cap, h.gz, ?_, ?_, h.pz, F, rfl, h1, by simpa using h4⟩, ?_⟩
  · rw [hoth g (kind_ne h.heap h3 (by decide))]; exact h.heap
  · rw [hoth P (kind_ne h.bytes h3 (by decide))]; exact h.bytes
  · exact (Kept.refl _ w).setCell _ _ (fun _ hS => hS h1)
end
theorem Byt.setKind {w : World} {B : Nat} {v : Value} {l : List UInt8} (h : Byt w B v l) {p : Addr} {u0 : Value} (hp : w.cell? p = some u0) (hu : ∀ b, u0 ≠ bV b) (u : Value) : Byt (w.setCell p u) B v l := by
  obtain ⟨A, c, hv, hc, hm, hr⟩ := h
  refine ⟨A, c, hv, hc, hm, fun h0 => ?_⟩
  obtain ⟨ad, hA, hb, hx⟩ := hr h0
  refine ⟨ad, hA, hb, fun j x hj => ?_⟩
  rw [World.cell?_setCell_other w p (ad.add j) u (fun e => by
    have := hx j x hj
    rw [← e, hp] at this
    exact hu x (Option.some.inj this))]
  exact hx j x hj
/-- a write -/
def Dv.write (d : Dv) (i : Int) (m : List UInt8) : Dv × Int :=
  if d.can i ≠ 0 then (d, d.can i)
  else if m.length ≠ 64 then (d, 2)
  else match d.fuse with
    | some (0, t) => ({ d with L := splice d.L (i.toNat * 64) (m.take t), fuse := none, dead := true }, 32)
    | some (a + 1, t) => ({ d with L := splice d.L (i.toNat * 64) (m.take 64), fuse := some (a, t), writes := d.writes + 1 }, 0)
    | none => ({ d with L := splice d.L (i.toNat * 64) (m.take 64), writes := d.writes + 1 }, 0)
theorem can_zero {d : Dv} {i : Int} (hz : d.can i = 0) : 0 ≤ i ∧ i < d.n ∧ d.dead = false := by
  unfold Dv.can at hz
  split at hz
  · cases hz
  · split at hz
    · cases hz
    · rename_i h1 h2; exact ⟨by omega, by omega, by simpa using h1⟩
theorem Kept.rng {w w' w'' : World} {Z : Nat → Prop} (h : Kept (fun b => ¬ Z b) w w') (k : Kept (fun b => ¬ Z b) w' w'') : Kept (fun b => ¬ Z b) w w'' := h.trans k fun _ _ h => h
theorem Kept.one {w w' : World} {Z : Nat → Prop} {P : Nat} (h : Kept (fun b => b ≠ P) w w') (h1 : Z P) : Kept (fun b => ¬ Z b) w w' := h.mono fun _ _ hS e => hS (e ▸ h1)
theorem Kept.cellr {w : World} {Z : Nat → Prop} {g i : Nat} (u : Value) (h1 : Z g) : Kept (fun b => ¬ Z b) w (w.setCell ⟨g, i, none⟩ u) := (Kept.refl _ w).setCell _ _ (fun _ hS => hS h1)
end Go.Proofs.Ytmcjefdnkcpghaa
