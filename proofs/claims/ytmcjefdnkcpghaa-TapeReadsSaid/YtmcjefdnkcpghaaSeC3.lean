/- THE WALK OF sector's Write: SeC3. -/
import Derived.Test.YtmcjefdnkcpghaaSeC
namespace Go.Proofs.Ytmcjefdnkcpghaa
open Go.RowKit
set_option maxRecDepth 100000 in
set_option maxHeartbeats 4000000 in
theorem write_dec {w : World} {Z : Nat → Prop} {g P cp n wr k B : Nat} {L m : List UInt8} {J : List Value} {dead : Bool} {v : Value} {F a t : Nat} (ha : DkAt w Z g P cp J (.pointer (some ⟨F, 0, none⟩)) ⟨n, L, some (a + 1, t), dead, wr⟩) (hk : k < n) (hv : Byt w B v m) (h64 : m.length = 64) (hw : wr + 1 ≤ 1000000000)
    (hc : Calls Try.prog 89 #[.pointer (some ⟨g, 0, none⟩), .int .i64 (k : Int)] w fun e w' => e = .returned (.int .i64 0) ∧ w = w') :
    Calls Try.prog 35 #[.pointer (some ⟨g, 0, none⟩), .int .i64 (k : Int), v] w (DkPost w Z g ⟨n, splice L (k * 64) (m.take 64), some (a, t), dead, wr + 1⟩ 0) := by
  have hlen := ha.ok.len
  have hn2 := ha.ok.n2
  obtain ⟨hcp1, hcp2⟩ := ha.cap
  simp only at hcp1
  have hkn : k < n := hk
  have hroom : k * 64 + 64 ≤ L.length := by simp only at hlen; omega
  have e64 : ((m.length : Int) == 64) = true := by rw [beq_iff_eq]; omega
  have e64' : ((m.length : Int) != 64) = false := by simp; omega
  obtain ⟨A, c, rfl, hcc, hm, _⟩ := id hv
  unfold maxLen at hm
  have hpos : 0 < m.length := by omega
  have HM := Lib.hid (show 64 = Nat.min m.length 64 by rw [h64]; rfl)
  have HV := Lib.hid hv
  have H64 := Lib.hid h64
  have HL := Lib.hid hlen
  simp only at hn2 hw
  have c0 := ha.c0
  have c1 := ha.c1
  have c2 := ha.c2
  have c3 := ha.c3
  have f1 := ha.f 1
  have f2 := ha.f 2
  simp only at c0 c2 c3
  clear hlen hv h64
  obtain ⟨F', e, hF1, hF3⟩ := ha.fus
  injection e with e
  injection e with e
  injection e with e
  subst e
  have ha1 := (ha.ok.fus (a + 1) t rfl).1
  have g0 : w.cell? ⟨F, 0, none⟩ = some (.int .i64 ((a : Int) + 1)) := by simp [World.cell?, hF3]
  have fr0 : w.frozen? ⟨F, 0, none⟩ = false := free_of hF3 0
  have z0 : (((a : Int) + 1) == 0) = false := by rw [beq_eq_false_iff_ne]; omega
  obtain ⟨h1, hk1⟩ := ha.dec rfl
  have HV1 := Lib.hid (HV.out.setKind g0 (fun b e => by cases e) (.int .i64 (a : Int)))
  have b0 := h1.c0
  have b3 := h1.c3
  simp only at b0 b3
  clear hF3
  go_enter Try.func35, Try.ntmps35
  go_wp2_with (first
    | (go_at_call 89; refine hc.mono ?_; rintro e w' ⟨rfl, rfl⟩)
    | ((with_reducible show wpList _ _ _ (⟨some 77, _, _, _, _, _⟩ :: _) _ _); refine wpList_copy_page (o := ⟨some 77, _, _, _, _, _⟩) _ rfl (.tmp 75) (.tmp 76) rfl P 141 L J h1.bytes (k * 64) 64 64 rfl B _ m rfl HV1.out hpos 64 HM.out hroom ?_
       intro w2 hP2 hk2
       have h2 := h1.copied (m := m.take 64) hP2 hk2 (by rw [List.length_take]; show k * 64 + _ ≤ L.length; omega)
       have d3 := h2.c3
       have f3 := h2.f 3
       have h3 := h2.wrote hw))
  go_ret
  exact ⟨rfl, h3.dk, (hk1.rng (hk2.one ha.pz)).rng (Kept.cellr _ ha.gz)⟩
end Go.Proofs.Ytmcjefdnkcpghaa
