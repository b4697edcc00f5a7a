/- THE WALK OF sector's Write: SeC2. -/
import Derived.Test.YtmcjefdnkcpghaaSeC
namespace Go.Proofs.Ytmcjefdnkcpghaa
open Go.RowKit
set_option maxRecDepth 100000 in
set_option maxHeartbeats 4000000 in
theorem write_torn {w : World} {Z : Nat → Prop} {g P cp n wr k B : Nat} {L m : List UInt8} {J : List Value} {dead : Bool} {v : Value} {F t : Nat} (ha : DkAt w Z g P cp J (.pointer (some ⟨F, 0, none⟩)) ⟨n, L, some (0, t), dead, wr⟩) (hk : k < n) (hv : Byt w B v m) (h64 : m.length = 64) (_hw : wr + 1 ≤ 1000000000)
    (hc : Calls Try.prog 89 #[.pointer (some ⟨g, 0, none⟩), .int .i64 (k : Int)] w fun e w' => e = .returned (.int .i64 0) ∧ w = w') :
    Calls Try.prog 35 #[.pointer (some ⟨g, 0, none⟩), .int .i64 (k : Int), v] w (DkPost w Z g ⟨n, splice L (k * 64) (m.take t), none, true, wr⟩ 32) := by
  have hlen := ha.ok.len
  have hn2 := ha.ok.n2
  obtain ⟨hcp1, hcp2⟩ := ha.cap
  simp only at hcp1
  have hkn : k < n := hk
  have hroom : k * 64 + 64 ≤ L.length := by simp only at hlen; omega
  have e64 : ((m.length : Int) == 64) = true := by rw [beq_iff_eq]; omega
  have e64' : ((m.length : Int) != 64) = false := by simp; omega
  obtain ⟨A, c, rfl, hcc, hm, _⟩ := id hv
  unfold maxLen at hm
  have hpos : 0 < m.length := by omega
  have HM := Lib.hid (show 64 = Nat.min m.length 64 by rw [h64]; rfl)
  have HV := Lib.hid hv
  have H64 := Lib.hid h64
  have HL := Lib.hid hlen
  simp only at hn2
  have c0 := ha.c0
  have c1 := ha.c1
  have c2 := ha.c2
  have c3 := ha.c3
  have f1 := ha.f 1
  have f2 := ha.f 2
  simp only at c0 c2 c3
  clear hlen hv h64
  obtain ⟨F', e, hF1, hF3⟩ := ha.fus
  injection e with e
  injection e with e
  injection e with e
  subst e
  have ht1 := (ha.ok.fus 0 t rfl).2
  have g0 : w.cell? ⟨F, 0, none⟩ = some (.int .i64 0) := by simp [World.cell?, hF3]
  have g1 : w.cell? ⟨F, 1, none⟩ = some (.int .i64 (t : Int)) := by simp [World.cell?, hF3]
  have HT := Lib.hid (show t = Nat.min m.length t by rw [H64.out]; exact (Nat.min_eq_right ht1).symm)
  have hroom2 : k * 64 + t ≤ L.length := by omega
  have ht0 : (0 : Int) ≤ (t : Int) := by omega
  have ht64 : (t : Int) ≤ 64 := by omega
  clear hF3
  go_enter Try.func35, Try.ntmps35
  go_wp2_with (first
    | (go_at_call 89; refine hc.mono ?_; rintro e w' ⟨rfl, rfl⟩))
  go_still_tail 15, (by kernel_rfl)
  refine wpList_copy_page _ rfl (.tmp 45) (.tmp 46) rfl P 141 L J ha.bytes (k * 64) t 64 rfl B _ m rfl HV.out hpos t HT.out hroom2 ?_
  intro w2 hP2 hk2
  have hk3 : Kept (fun b => b ≠ P) w w2 := (Kept.refl _ w).drew.trans hk2 fun _ _ h => h
  have h2 := ha.copied (m := m.take t) hP2 hk3 (by rw [List.length_take]; show k * 64 + _ ≤ L.length; omega)
  have d1 := h2.c1
  have d2 := h2.c2
  have q1 := h2.f 1
  have q2 := h2.f 2
  have h3 := h2.dk.set (.pointer none) true none (fun _ _ => rfl) (fun a t e => by cases e)
  simp only at d2
  go_wp2
  go_ret
  exact ⟨rfl, h3.1, (hk3.one ha.pz).rng h3.2⟩
end Go.Proofs.Ytmcjefdnkcpghaa
