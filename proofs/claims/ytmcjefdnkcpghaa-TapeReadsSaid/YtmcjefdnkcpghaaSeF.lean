/- THE WALK OF sector's Clone. -/
import Derived.Test.YtmcjefdnkcpghaaSeE
namespace Go.Proofs.Ytmcjefdnkcpghaa
open Go.RowKit
def PClone (L : List UInt8) (n : Nat) (w : World) (e : Ending) (w' : World) : Prop :=
  ∃ P' c' J', e = .returned (.slice (some ⟨P', 0, none⟩) n c') ∧ w'.heap[P']? = some (.cells (L.map bV ++ J').toArray 141 (0, 0)) ∧ n ≤ c' ∧ c' ≤ 9223372036854775807 ∧ w.heap.size ≤ P' ∧ Below w.heap.size w w'
theorem wpList_append_pages (w : World) {ops : Array Oper} {rest : List Oper} {o : Oper} {a : Act} {Q : Exit → Act → World → Prop} (hgd : o.guard = none) (s x : Operand)
    (ho : o.op = .call { callee := .builtin .append, args := #[s, x], argTypes := #[99, 99] })
    (base : Nat) (v : Value) (hs : a.eval s = v) (hown : w.ownsRow base 141 64 v 0 []) (P n c : Nat) (L : List UInt8) (J : List Value) (hP : w.heap[P]? = some (.cells (L.map bV ++ J).toArray 141 (0, 0))) (hl : L.length = n * 64) (h1 : 1 ≤ n) (h2 : n ≤ 4096)
    (hx : a.eval x = .slice (some ⟨P, 0, none⟩) n c) (hbase : base ≤ w.heap.size) (hv : v.ownBlock = some base)
    (h : ∀ P' c' J' w', w'.heap[P']? = some (.cells (L.map bV ++ J').toArray 141 (0, 0)) → n ≤ c' → c' ≤ 9223372036854775807 → base ≤ P' → w.grownBy w' (some base) → wpList Try.prog ops Q rest (a.put o.dst (.slice (some ⟨P', 0, none⟩) n c')) w') :
    wpList Try.prog ops Q (o :: rest) a w := by
  refine wpList_plain hgd fun K hK => ?_
  obtain ⟨i, hi, hz, hsz, hby⟩ := info_parts Try.pageInfo
  obtain ⟨v', w', hrun, r1, r2, _, _⟩ := run_append_own_at (P := Try.prog) w base 99 o.type 141 i zpage 64 64 Try.underlying99 hi hz hsz hby (by kernel_rfl) (by decide) v 0 [] hown ⟨P, 0, none⟩ n c (L.map bV) (by rw [List.length_map]; exact hl)
    (fun j u hj => by
      rw [addr_mk_add]
      have hlt := (List.getElem?_eq_some_iff.1 hj).1
      simp only [World.cell?, hP, Nat.zero_add]
      rw [List.getElem?_toArray, List.getElem?_append_left hlt]
      simp [hj])
    (bsV_one L) (by unfold maxLen; omega) (by omega) hbase
  obtain ⟨q1, q2⟩ := r1
  rcases q2 with ⟨rfl, hn⟩ | ⟨g, cap, cur, rfl, hb, hg, hc, hm, hcs, ht⟩
  · omega
  · rw [List.nil_append] at ht
    unfold Oper.wp execOp
    simp only [ho, resolve, invoke, builtin, Sem.run_bind, Sem.run_pure, Result.andThen_ok, List.map_toArray, List.map_cons, List.map_nil, hs, hx, hrun]
    rw [Nat.zero_add] at *
    refine hK _ _ (h g cap (cur.toList.drop (n * 64)) w' ?_ hc (by unfold maxLen at hm; omega) hb (by rw [← hv]; exact r2))
    have : cur = (L.map bV ++ cur.toList.drop (n * 64)).toArray := by
      apply Array.toList_inj.1
      rw [← ht, List.take_append_drop]
    rw [← this]; exact hg
set_option maxRecDepth 100000 in
theorem pclone_any {w : World} {P n c : Nat} {L : List UInt8} {J : List Value} (hP : w.heap[P]? = some (.cells (L.map bV ++ J).toArray 141 (0, 0))) (hl : L.length = n * 64) (h1 : 1 ≤ n) (h2 : n ≤ 4096) :
    Calls Try.prog 93 #[.slice (some ⟨P, 0, none⟩) n c] w (PClone L n w) := by
  have hq := fun (w : World) (A : Option Addr) (n c : Nat) => Lib.run_eql_slice_nil (P := Try.prog) w 99 141 A n c 0 0 Try.underlying99
  have hO : (w.alloc (.cells #[] 141)).ownsRow w.heap.size 141 64 (.slice (some ⟨w.heap.size, 0, none⟩) 0 0) 0 [] := by
    have := World.ownsRow_lit (w := w) (e := 141) (size := 64) (base := w.heap.size) #[] 0 (Nat.le_refl _) (by simp [maxLen]) (by simp)
    exact this
  have hP' : (w.alloc (.cells #[] 141)).heap[P]? = some (.cells (L.map bV ++ J).toArray 141 (0, 0)) := (Below.heap_alloc _ _ _ (lt_of_block hP)).trans hP
  have HO := Lib.hid hO
  have HP := Lib.hid hP'
  clear hO hP' hP
  go_enter Try.func93, Try.ntmps93
  go_wp2_with (first
    | (at_builtin; go_must (refine wpList_append_pages _ rfl (.tmp 5) (.tmp 6) rfl w.heap.size _ rfl HO.out P n c L J HP.out hl h1 h2 rfl (by simp) rfl ?_)
       intro P' c' J' w5 hP5 hc5 hm5 hb5 hg5))
  go_ret
  exact ⟨P', c', J', rfl, hP5, hc5, hm5, hb5, ((Below.refl w.heap.size w).alloc (Nat.le_refl _) _).grown hg5 (by simp) (fun b hb => by cases hb; exact Nat.le_refl _)⟩
def ClonePost (w : World) (d : Dv) (e : Ending) (w' : World) : Prop := ∃ g, e = .returned (.pointer (some ⟨g, 0, none⟩)) ∧ Dk w' (fun b => w.heap.size ≤ b ∧ b < w'.heap.size) g d ∧ Below w.heap.size w w'
set_option maxRecDepth 100000 in
set_option maxHeartbeats 2000000 in
theorem clone_any {w : World} {Z : Nat → Prop} {g : Nat} {d : Dv} (h : Dk w Z g d) : Calls Try.prog 47 #[.pointer (some ⟨g, 0, none⟩)] w (ClonePost w d) := by
  obtain ⟨P, cp, J, fv, ha⟩ := h.at_
  have hlt := h.lt
  have hok := h.ok
  obtain ⟨n, L, fus, dead, wr⟩ := d
  have hlen : L.length = n * 64 := by have := hok.len; simp only at this; omega
  obtain ⟨hcp1, hcp2⟩ := ha.cap
  simp only at hcp1
  have c0 := ha.c0
  have c1 := ha.c1
  have c2 := ha.c2
  have c3 := ha.c3
  simp only at c0 c2 c3
  have hP' : (w.alloc (.cells #[.slice (some ⟨P, 0, none⟩) n cp, fv, .bool dead, .int .i64 (wr : Int)] 102)).heap[P]? = some (.cells (L.map bV ++ J).toArray 141 (0, 0)) := (Below.heap_alloc _ _ _ (lt_of_block ha.bytes)).trans ha.bytes
  have hpc := pclone_any (c := cp) hP' hlen hok.n1 hok.n2
  cases fus with
  | none =>
    obtain rfl : fv = .pointer none := ha.fus
    clear hP' h
    go_enter Try.func47, Try.ntmps47
    go_wp2_with (first
      | (go_at_call 93; refine hpc.mono ?_; rintro e w2 ⟨P', c', J', rfl, hP2, hc2, hm2, hb2, hbel2⟩
         have hnew : w2.heap[w.heap.size]? = some (.cells #[.slice (some ⟨P, 0, none⟩) n cp, .pointer none, .bool dead, .int .i64 (wr : Int)] 102 (0, 0)) := (hbel2.block w.heap.size (by simp)).trans (heap_alloc_new w _)
         have q0 : w2.cell? ⟨w.heap.size, 0, none⟩ = some (.slice (some ⟨P, 0, none⟩) n cp) := by simp [World.cell?, hnew]
         have qf := free_of hnew 0
         have d1 : w2.cell? ⟨g, 1, none⟩ = some (.pointer none) := (hbel2.cell (p := ⟨g, 1, none⟩) (by simp; omega)).trans ((World.cell?_alloc_lt w _ _ hlt).trans c1)))
    go_ret
    have hset := Lib.heap_setCell_same (i := 0) hnew (.slice (some ⟨P', 0, none⟩) n c')
    have hs2 := hbel2.size
    have hlt2 := lt_of_block hP2
    simp at hs2 hb2
    refine ⟨_, rfl, ⟨hok, ⟨Nat.le_refl _, by simp; omega⟩, P', .pointer none, c', J', ⟨hc2, hm2⟩, by simpa using hset, ?_, ⟨by omega, by simp; omega⟩, rfl⟩, ?_⟩
    · rw [Below.heap_setCell _ _ _ _ (fun e => by have e' : P' = w.heap.size := e; omega)]; exact hP2
    · exact (((Below.refl w.heap.size w).alloc (Nat.le_refl _) _).trans (hbel2.mono (by simp))).setCell (by simp) _
  | some p =>
    obtain ⟨a, t⟩ := p
    obtain ⟨F, rfl, hF1, hF3⟩ := ha.fus
    have hFlt := lt_of_block hF3
    have g0 : w.cell? ⟨F, 0, none⟩ = some (.int .i64 (a : Int)) := by simp [World.cell?, hF3]
    have g1 : w.cell? ⟨F, 1, none⟩ = some (.int .i64 (t : Int)) := by simp [World.cell?, hF3]
    clear hP' h hF3
    go_enter Try.func47, Try.ntmps47
    go_wp2_with (first
      | (go_at_call 93; refine hpc.mono ?_; rintro e w2 ⟨P', c', J', rfl, hP2, hc2, hm2, hb2, hbel2⟩
         have hnew : w2.heap[w.heap.size]? = some (.cells #[.slice (some ⟨P, 0, none⟩) n cp, .pointer (some ⟨F, 0, none⟩), .bool dead, .int .i64 (wr : Int)] 102 (0, 0)) := (hbel2.block w.heap.size (by simp)).trans (heap_alloc_new w _)
         have q0 : w2.cell? ⟨w.heap.size, 0, none⟩ = some (.slice (some ⟨P, 0, none⟩) n cp) := by simp [World.cell?, hnew]
         have q1 : w2.cell? ⟨w.heap.size, 1, none⟩ = some (.pointer (some ⟨F, 0, none⟩)) := by simp [World.cell?, hnew]
         have qf := free_of hnew 0
         have qg := free_of hnew 1
         have hne : ¬ w.heap.size = g := by omega
         have hne2 : ¬ w.heap.size = F := by omega
         have hszz : w.heap.size < w2.heap.size := lt_of_block hnew
         have d1 : w2.cell? ⟨g, 1, none⟩ = some (.pointer (some ⟨F, 0, none⟩)) := (hbel2.cell (p := ⟨g, 1, none⟩) (by simp; omega)).trans ((World.cell?_alloc_lt w _ _ hlt).trans c1)
         have k0 : w2.cell? ⟨F, 0, none⟩ = some (.int .i64 (a : Int)) := (hbel2.cell (p := ⟨F, 0, none⟩) (by simp; omega)).trans ((World.cell?_alloc_lt w _ _ hFlt).trans g0)
         have k1 : w2.cell? ⟨F, 1, none⟩ = some (.int .i64 (t : Int)) := (hbel2.cell (p := ⟨F, 1, none⟩) (by simp; omega)).trans ((World.cell?_alloc_lt w _ _ hFlt).trans g1)))
    go_ret
    have s1 := Lib.heap_setCell_same (i := 0) hnew (.slice (some ⟨P', 0, none⟩) n c')
    have s2 := Lib.heap_setCell_same (i := 1) s1 (.pointer (some ⟨w2.heap.size, 0, none⟩))
    have hs2 := hbel2.size
    have hlt2 := lt_of_block hP2
    simp at hs2 hb2
    have hsz : ((w2.setCell ⟨w.heap.size, 0, none⟩ (.slice (some ⟨P', 0, none⟩) n c')).setCell ⟨w.heap.size, 1, none⟩ (.pointer (some ⟨w2.heap.size, 0, none⟩))).heap.size = w2.heap.size := by simp [World.setCell]
    have hF := heap_alloc_new ((w2.setCell ⟨w.heap.size, 0, none⟩ (.slice (some ⟨P', 0, none⟩) n c')).setCell ⟨w.heap.size, 1, none⟩ (.pointer (some ⟨w2.heap.size, 0, none⟩))) (.cells #[.int .i64 (a : Int), .int .i64 (t : Int)] 139 (0, 0))
    rw [hsz] at hF
    refine ⟨_, rfl, ⟨hok, ⟨Nat.le_refl _, by simp; omega⟩, P', .pointer (some ⟨w2.heap.size, 0, none⟩), c', J', ⟨hc2, hm2⟩, ?_, ?_, ⟨by omega, by simp; omega⟩, w2.heap.size, rfl, ⟨by omega, by simp⟩, hF⟩, ?_⟩
    · rw [Below.heap_alloc _ _ _ (by rw [hsz]; exact hszz)]; simpa using s2
    · rw [Below.heap_alloc _ _ _ (by rw [hsz]; exact hlt2), Below.heap_setCell _ _ _ _ (fun e => by have e' : P' = w.heap.size := e; omega), Below.heap_setCell _ _ _ _ (fun e => by have e' : P' = w.heap.size := e; omega)]; exact hP2
    · exact (((((Below.refl w.heap.size w).alloc (Nat.le_refl _) _).trans (hbel2.mono (by simp))).setCell (by simp) _).setCell (by simp) _).alloc (by rw [hsz]; omega) _
end Go.Proofs.Ytmcjefdnkcpghaa
