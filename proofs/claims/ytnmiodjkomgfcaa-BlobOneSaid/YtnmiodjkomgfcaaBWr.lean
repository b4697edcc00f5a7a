/- THE WALK OF BlobWrites. -/
import Derived.Test.YtnmiodjkomgfcaaLiv5
namespace Go.Proofs.Ytnmiodjkomgfcaa
open Go.RowKit
def LawPost (w : World) (e : Ending) (w' : World) : Prop := e = .returned (.bool true) ∧ Below w.heap.size w w'
def allB (ls : List Opv) : List UInt8 := (ls.map Opv.bytes).flatten
def anyBad (ls : List Opv) : Bool := ls.any Opv.bad
theorem allB_snoc (ls : List Opv) (k : Nat) (h : k < ls.length) : allB (ls.take (k + 1)) = allB (ls.take k) ++ (ls[k]).bytes := by
  unfold allB; rw [List.take_succ_eq_append_getElem h, List.map_append, List.flatten_append]; simp
theorem anyBad_snoc (ls : List Opv) (k : Nat) (h : k < ls.length) : anyBad (ls.take (k + 1)) = (anyBad (ls.take k) || (ls[k]).bad) := by
  unfold anyBad; rw [List.take_succ_eq_append_getElem h, List.any_append]; simp
theorem Step.below {w w' : World} {g B : Nat} {s s' : Value} {l : List UInt8} {sp : Bool} (h : Step w w' g s s') (hw : Wr w g l sp s) (hB : B ≤ g) : Below B w w' :=
  h.kept.toBelow (Nat.le_trans hB (Nat.le_of_lt hw.lt)) fun b hb => ⟨by omega, fun e => by have := (hw.own.lt b e).1; omega⟩
/-- a struct that the call has laid: its cells, behind a step of a writer -/
theorem Step.box {w w' : World} {g : Nat} {s s' : Value} {l : List UInt8} {sp : Bool} {cs : Array Value} {t : TypeId} (hw : Wr w g l sp s) (h : Step (w.alloc (.cells cs t)) w' g s s') : w'.heap[w.heap.size]? = some (.cells cs t (0, 0)) :=
  h.kept.heap (heap_alloc_new w _) ⟨fun e => by have := hw.lt; omega, fun e => by have := (hw.own.lt _ e).2; omega⟩
theorem cells_of {w : World} {b : Nat} {cs : Array Value} {t : TypeId} {fr : Nat × Nat} (h : w.heap[b]? = some (.cells cs t fr)) (i : Nat) (v : Value) (hi : cs[i]? = some v) : w.cell? ⟨b, i, none⟩ = some v := by
  simp [World.cell?, h, hi]
theorem wr_behind {w w3 w4 w5 : World} {g base : Nat} {u4 s' s3 : Value} {l l' L : List UInt8} {sp sp' : Bool} {o : Obj} (hown : Own w base u4 L) (hwr : Wr w g l sp s') (hdis : ∀ b, u4.ownBlock = some b → s'.ownBlock ≠ some b)
    (hst : Step (w.alloc o) w3 g s' s3) (hw3 : Wr w3 g l' sp' s3) (hb4 : Below w3.heap.size w3 w4) (hg : w4.grownBy w5 u4.ownBlock) : Wr w5 g l' sp' s3 := by
  refine (hw3.below hb4).kept (S := fun b => u4.ownBlock ≠ some b) ((Kept.refl _ _).grown hg (fun k hk _ hS => hS hk)) (hown.apart hwr.heap (by decide)) (fun b hb e => ?_)
  rcases hst.row b hb with h | h
  · exact hdis b e h
  · have := (hown.lt b e).2; simp at h; omega
theorem dis_behind {w w3 w4 : World} {g base : Nat} {u4 v5 s' s3 : Value} {l' L : List UInt8} {sp' : Bool} {o : Obj} (hown : Own w base u4 L) (hdis : ∀ b, u4.ownBlock = some b → s'.ownBlock ≠ some b)
    (hst : Step (w.alloc o) w3 g s' s3) (hw3 : Wr w3 g l' sp' s3) (hb4 : Below w3.heap.size w3 w4) (hat : v5.ownBlock = u4.ownBlock ∨ v5.ownBlock = some w4.heap.size) : ∀ b, v5.ownBlock = some b → s3.ownBlock ≠ some b := by
  intro b hb e
  rcases hat with h | h
  · rw [h] at hb
    rcases hst.row b e with h1 | h1
    · exact hdis b hb h1
    · have := (hown.lt b hb).2; simp at h1; omega
  · rw [h] at hb
    cases hb
    have := (hw3.own.lt _ e).2
    have := hb4.size
    omega
set_option maxRecDepth 100000 in
set_option maxHeartbeats 4000000 in
theorem blobWrites_walk (v : Value) (ls : List Opv) {B : Nat} {w : World} (hv : Ops w B v ls) :
    Calls Try.prog 3 #[v] w (LawPost w) := by
  have hlight := light_any v ls w B hv
  obtain ⟨A, c, rfl, hc, hm, hr⟩ := hv.heap
  unfold maxLen at hm
  have HR := Lib.hid hr
  clear hr hv
  go_enter Try.func3, Try.ntmps3
  go_wp2_with (first
    | (go_at_call 8; refine hlight.mono ?_; rintro e w1 ⟨b, rfl, hb100, hb1⟩; cases b)
    | (go_at_call 9; refine (lives_any _).mono ?_; rintro e w9 ⟨rfl, hb9⟩)
    | (go_at_call 10; refine (new_any _).mono ?_; rintro e w2 ⟨rfl, hw2, hb2⟩))
  · go_ret
    exact ⟨rfl, hb1.trans (hb9.mono hb1.size)⟩
  · have h100 := hb100 trivial
    have hs1 := hb1.size
    have hs2 := hb2.size
    have hb12 := hb1.trans (hb2.mono hs1)
    generalize w1.heap.size = g at *
    go_loopg [3, 4, 5, 19] ls.length (fun gk x3 v4 x5 x19 wr => ∃ (k : Nat) (s' : Value), k ≤ ls.length ∧ gk = ls.length - k ∧ x3 = .pointer (some ⟨g, 0, none⟩) ∧ x5 = .bool (!anyBad (ls.take k)) ∧ x19 = .int .i64 (k : Int) ∧
      Own wr w.heap.size v4 (allB (ls.take k)) ∧ Wr wr g (allB (ls.take k)) (anyBad (ls.take k)) s' ∧ (∀ b, v4.ownBlock = some b → s'.ownBlock ≠ some b) ∧ Below w.heap.size w wr ∧ (allB (ls.take k)).length ≤ 65600 * k)
    case atStart => exact ⟨0, _, Nat.zero_le _, rfl, rfl, rfl, rfl, Own.nil_ _ _, hw2, fun b hb => by simp [Value.ownBlock] at hb, hb12, by simp [allB]⟩
    case round =>
      obtain ⟨k, s', hk, hgk, rfl, rfl, rfl, hown, hwr, hdis, hbel, hlen⟩ := hrel
      have HG := Lib.hid hgk
      clear hgk
      by_cases h : k < ls.length
      · obtain ⟨ad, rfl, hadB, hrow⟩ := HR.out (by omega)
        obtain ⟨hok, hat⟩ := hrow k ls[k] (List.getElem?_eq_getElem h)
        have hat' := hat.keep fun q hq => hbel.cell (p := q) (by rw [hq, addr_add_block]; exact hadB)
        have hbn := allB_snoc ls k h
        have han := anyBad_snoc ls k h
        have HBN := Lib.hid hbn
        have HAN := Lib.hid han
        clear hrow hat hbn han
        generalize ls[k] = o at *
        generalize allB (ls.take k) = L at *
        generalize anyBad (ls.take k) = bad at *
        obtain ⟨c0, c1, c2, c3⟩ := hat'
        have hbl := o.bytes_len hok
        have hwa : Wr (wr.alloc (.cells #[.int .i64 o.kind, .int .i64 o.n, .string o.s, .bool o.b] 29)) g L bad s' := hwr.below ((Below.refl _ _).alloc (Nat.le_refl _) _)
        have hput := put_any o hok hwa (by omega)
        have hdoc := fun w => doc_any (w := w) o hok
        unfold Opv.val ptr at hput
        unfold Opv.val at hdoc
        cases bad
        all_goals
         go_wp2_with (first
          | (go_at_call 11; refine hput.mono ?_; rintro e w3 ⟨s3, rfl, hw3, hst3⟩
             have hbx := Step.box hwr hst3
             have d0 := cells_of hbx 0 _ rfl
             have d1 := cells_of hbx 1 _ rfl
             have d2 := cells_of hbx 2 _ rfl
             have d3 := cells_of hbx 3 _ rfl)
          | (go_at_call 12; refine (hdoc _).mono ?_; rintro e w4 ⟨r, rfl, hr4, hb4⟩
             have hown4 := (Own.kept (hown.alloc _) hst3.kept (fun b hb => ⟨fun e => hown.apart hwr.heap (by decide) (e ▸ hb), hdis b hb⟩)).below hb4)
          | (at_builtin; go_must (refine wpList_append_byt _ rfl (.tmp 33) (.tmp 34) rfl w.heap.size u4 L rfl hown4 _ _ o.bytes rfl hr4.byt (by omega) (by have := hbel.size; have := hst3.kept.size; have := hb4.size; simp at *; omega) ?_)
             intro v5 w5 hown5 hg5 hat5))
         go_roundg (ls.length - (k + 1))
         case measure => have := HG.out; omega
         case rel =>
          have hwr5 := wr_behind hown hwr hdis hst3 hw3 hb4 hg5
          refine ⟨k + 1, s3, by omega, rfl, rfl, by rw [HAN.out]; rfl, by go_num, by rw [HBN.out]; exact hown5, by rw [HBN.out, HAN.out]; exact hwr5, ?_, ?_, by rw [HBN.out, List.length_append]; omega⟩
          · exact dis_behind hown hdis hst3 hw3 hb4 hat5
          · exact (((hbel.alloc hbel.size _).trans ((Step.below hst3 hwa (Nat.le_refl _)).mono (by have := hbel.size; omega))).trans (hb4.mono (by have := hbel.size; have := hst3.kept.size; simp at *; omega))).grown hg5 (by have := hbel.size; have := hst3.kept.size; have := hb4.size; simp at *; omega) (fun b hb => (hown4.lt b hb).1)
      · obtain rfl : k = ls.length := by omega
        rw [List.take_length] at *
        have hl : (allB ls).length ≤ 2000000000 := by omega
        clear hlen hdis HR
        generalize allB ls = L at *
        generalize anyBad ls = bad at *
        have hst1 := hown.byt
        cases bad
        · go_wp2_with (first
            | (go_at_call 9; refine (lives_any _).mono ?_; rintro e w9 ⟨rfl, hb9⟩)
            | (go_at_call 13; refine (bytes_any hwr hl).mono ?_; rintro e w6 ⟨r6, rfl, hown6, hb6⟩; have hsa := hown6.byt.str; have hsb := (hst1.below hb6).str))
          go_ret
          exact ⟨rfl, (hbel.trans (hb6.mono hbel.size)).trans (hb9.mono (Nat.le_trans hbel.size hb6.size))⟩
        · go_wp2_with (first
            | (go_at_call 9; refine (lives_any _).mono ?_; rintro e w9 ⟨rfl, hb9⟩)
            | (go_at_call 13; refine (bytes_spoilt hwr).mono ?_; rintro e w6 ⟨rfl, rfl⟩))
          go_ret
          exact ⟨rfl, hbel.trans (hb9.mono hbel.size)⟩
end Go.Proofs.Ytnmiodjkomgfcaa
