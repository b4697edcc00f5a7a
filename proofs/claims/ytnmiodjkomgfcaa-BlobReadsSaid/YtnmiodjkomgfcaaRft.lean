/- THE WALK OF octroiref05.Reader.Text. -/
import Derived.Test.YtnmiodjkomgfcaaRfn
namespace Go.Proofs.Ytnmiodjkomgfcaa
open Go.RowKit
section
variable {w w' : World} {g B : Nat} {A : Option Addr} {c : Nat} {L : List UInt8} {pos : Nat} {bad : Bool}
/-- s[i:j] of bytes -/
theorem byt_mid {w : World} {B : Nat} {A : Option Addr} {c : Nat} {l : List UInt8} (i j : Nat) (h : Byt w B (.slice A l.length c) l) (hi : i ≤ j) (hj : j ≤ l.length) :
    Byt w B (.slice (if c = i then A else A.map (·.add i)) (j - i) (c - i)) ((l.drop i).take (j - i)) := by
  have h1 := (byt_cut i h (by omega)).2
  rw [show l.length - i = (l.drop i).length by rw [List.length_drop]] at h1
  exact (byt_cut (j - i) h1 (by rw [List.length_drop]; omega)).1
set_option maxRecDepth 100000 in
set_option maxHeartbeats 4000000 in
theorem qtext_any (hR : Rr w g B A c L pos bad) : Calls Try.prog 18 #[.pointer (some ⟨g, 0, none⟩)] w (QPost (fun s : ByteArray => .string s) ⟨#[]⟩ w g B A c L bad (rdText (L.drop pos))) := by
  have hnum := qnum_any hR
  obtain ⟨hcl, hm⟩ := hR.cap
  cases bad with
  | true =>
    go_enter Try.func18, Try.ntmps18
    go_wp2_with (go_at_call 16; refine hnum.mono ?_; rintro e w1 ⟨p, rfl, hR1, hO1⟩; have c2 := hR1.c2; have f2 := hR1.f2)
    go_quiet (fail)
    go_wp2
    go_ret
    exact ⟨_, rfl, (hR1.drewN _).spoil.1, Only.trans hO1 (only_drewN _ (hR1.drewN _).spoil.2)⟩
  | false =>
    unfold rdText
    cases hr : rdNum (L.drop pos) with
    | none =>
      rw [hr] at hnum
      clear hr
      go_enter Try.func18, Try.ntmps18
      go_wp2_with (go_at_call 16; refine hnum.mono ?_; rintro e w1 ⟨p, rfl, hR1, hO1⟩; have c2 := hR1.c2; have f2 := hR1.f2)
      go_quiet (fail)
      go_wp2
      go_ret
      exact ⟨_, rfl, (hR1.drewN _).spoil.1, Only.trans hO1 (only_drewN _ (hR1.drewN _).spoil.2)⟩
    | some q =>
      obtain ⟨n, t⟩ := q
      obtain ⟨r1, r2⟩ := rdNum_range hr
      rw [hr] at hnum
      clear hr
      show Calls Try.prog 18 #[.pointer (some ⟨g, 0, none⟩)] w (QPost (fun s : ByteArray => .string s) ⟨#[]⟩ w g B A c L false (if 0 ≤ n ∧ n ≤ 65536 ∧ n ≤ t.length then some (⟨(t.take n.toNat).toArray⟩, t.drop n.toNat) else none))
      by_cases hok : 0 ≤ n ∧ n ≤ 65536 ∧ n ≤ t.length
      · rw [if_pos hok]
        obtain ⟨k, rfl⟩ : ∃ k : Nat, n = (k : Int) := ⟨n.toNat, by omega⟩
        rw [Int.toNat_natCast]
        have d0 : decide ((k : Int) < 0) = false := decide_eq_false (by omega)
        have d1 : decide ((65536 : Int) < (k : Int)) = false := decide_eq_false (by omega)
        go_enter Try.func18, Try.ntmps18
        go_wp2_with (go_at_call 16; refine hnum.mono ?_; rintro e w1 ⟨p, rfl, hd, hR1, hO1⟩; have c0 := hR1.c0; have c1 := hR1.c1; have c2 := hR1.c2; have f1 := hR1.f1)
        have hpp := hR1.pos_le
        have htl : t.length = L.length - p := by rw [← hd, List.length_drop]
        have w1' : IntKind.i64.wrap ((L.length : Int) - (p : Int)) = (L.length : Int) - (p : Int) := IntWalk.i64_in _ (by omega)
        have w2' : IntKind.i64.wrap ((p : Int) + (k : Int)) = (p : Int) + (k : Int) := IntWalk.i64_in _ (by omega)
        have d2 : decide ((L.length : Int) - (p : Int) < (k : Int)) = false := decide_eq_false (by omega)
        have i1 : (0 : Int) ≤ (p : Int) := by omega
        have i2 : (p : Int) ≤ (p : Int) + (k : Int) := by omega
        have i3 : (p : Int) + (k : Int) ≤ (c : Int) := by omega
        have n1 : ((p : Int) + (k : Int)).toNat = p + k := by omega
        have hmid := byt_mid p (p + k) hR1.byt (by omega) (by omega)
        rw [show p + k - p = k by omega, hd] at hmid
        have hstr : ∀ n : Nat, (convert 27 9 (.slice (if c = p then A else A.map (·.add p)) k (c - p))).run Try.prog (w1.drewN n) = .ok (.string ⟨(t.take k).toArray⟩) (w1.drewN n) := fun n => Byt.str (w := w1.drewN n) hmid
        have HD := Lib.hid hd
        have hle : p + k ≤ L.length := by omega
        have HM := Lib.hid (fun n : Nat => (hR1.drewN n).move (p + k) hle)
        rw [show ((p + k : Nat) : Int) = (p : Int) + (k : Int) by omega] at HM
        clear hd htl hmid hnum hle
        have HT := Lib.hid (show L.drop (p + k) = t.drop k by rw [← HD.out, List.drop_drop])
        by_cases hcp : c = p
        · subst hcp
          rw [if_pos rfl, Nat.sub_self] at hstr
          clear HD
          go_quiet (fail)
          go_wp2_with fail
          go_quiet (fail)
          go_wp2
          go_ret
          exact ⟨_, rfl, HT.out, (HM.out _).1, Only.trans hO1 (only_drewN _ (HM.out _).2)⟩
        · rw [if_neg hcp] at hstr
          go_quiet (fail)
          go_wp2_with fail
          go_quiet (fail)
          go_wp2
          go_ret
          exact ⟨_, rfl, HT.out, (HM.out _).1, Only.trans hO1 (only_drewN _ (HM.out _).2)⟩
      · rw [if_neg hok]
        by_cases h0 : n < 0
        · go_enter Try.func18, Try.ntmps18
          go_wp2_with (go_at_call 16; refine hnum.mono ?_; rintro e w1 ⟨p, rfl, hd, hR1, hO1⟩; have c0 := hR1.c0; have c1 := hR1.c1; have c2 := hR1.c2; have f2 := hR1.f2)
          clear hd
          go_quiet (fail)
          go_wp2
          go_ret
          exact ⟨_, rfl, (hR1.drewN _).spoil.1, Only.trans hO1 (only_drewN _ (hR1.drewN _).spoil.2)⟩
        · have d0 : decide (n < 0) = false := decide_eq_false h0
          by_cases h6 : (65536 : Int) < n
          · go_enter Try.func18, Try.ntmps18
            go_wp2_with (go_at_call 16; refine hnum.mono ?_; rintro e w1 ⟨p, rfl, hd, hR1, hO1⟩; have c0 := hR1.c0; have c1 := hR1.c1; have c2 := hR1.c2; have f2 := hR1.f2)
            clear hd
            go_quiet (fail)
            go_wp2
            go_ret
            exact ⟨_, rfl, (hR1.drewN _).spoil.1, Only.trans hO1 (only_drewN _ (hR1.drewN _).spoil.2)⟩
          · have d1 : decide ((65536 : Int) < n) = false := decide_eq_false h6
            have h7 : (t.length : Int) < n := by omega
            go_enter Try.func18, Try.ntmps18
            go_wp2_with (go_at_call 16; refine hnum.mono ?_; rintro e w1 ⟨p, rfl, hd, hR1, hO1⟩; have c0 := hR1.c0; have c1 := hR1.c1; have c2 := hR1.c2; have f2 := hR1.f2)
            have hpp := hR1.pos_le
            have htl : t.length = L.length - p := by rw [← hd, List.length_drop]
            have w1' : IntKind.i64.wrap ((L.length : Int) - (p : Int)) = (L.length : Int) - (p : Int) := IntWalk.i64_in _ (by omega)
            have d2 : (L.length : Int) - (p : Int) < n := by omega
            clear htl
            clear hd
            go_quiet (fail)
            go_wp2
            go_ret
            exact ⟨_, rfl, (hR1.drewN _).spoil.1, Only.trans hO1 (only_drewN _ (hR1.drewN _).spoil.2)⟩
end
end Go.Proofs.Ytnmiodjkomgfcaa
