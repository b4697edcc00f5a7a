/- THE WALK OF CrcParts. -/
import Derived.Test.YtmcjefdnkcpghaaLaw1
import Derived.Test.YtmcjefdnkcpghaaMem2
import Derived.Deep.LoopGhost
namespace Go.Proofs.Ytmcjefdnkcpghaa
open Go.RowKit
set_option maxRecDepth 100000 in
set_option maxHeartbeats 1000000 in
theorem crcParts_walk (v : Value) (ls : List (List UInt8)) {B : Nat} {w : World} (hv0 : Byts w B v ls) :
    Calls Try.prog 5 #[v] w (LawPost w) := by
  obtain ⟨A, c, rfl, hc, hm, hr⟩ := hv0.heap
  unfold maxLen at hm
  have HR := Lib.hid hr
  clear hr
  go_enter Try.func5, Try.ntmps5
  go_wp2
  go_loopg [3, 4, 9] ls.length (fun g x a m wr => ∃ k : Nat, k ≤ ls.length ∧ k ≤ 50 ∧ g = ls.length - k ∧ x = .int .u32 (Crc.on 0 (nats (ls.take k).flatten)) ∧ m = .int .i64 (k : Int) ∧ Own wr w.heap.size a (ls.take k).flatten ∧ Below w.heap.size w wr ∧ (ls.take k).flatten.length ≤ 2000 * k)
  case atStart => exact ⟨0, by omega, by omega, rfl, by rw [show Crc.on 0 (nats (ls.take 0).flatten) = 0 from by simp [nats]; decide]; rfl, rfl, Own.nil_ _ _, Below.refl _ _, by simp⟩
  case round =>
    obtain ⟨k, hk, hk5, hg, rfl, rfl, hown, hbel, hsz⟩ := hrel
    have HG := Lib.hid hg
    clear hg
    have hlt := on0_lt (ls.take k).flatten
    by_cases h : k < ls.length
    · obtain ⟨ad, rfl, hadB, hrow⟩ := HR.out (by omega)
      obtain ⟨u, hu, hl⟩ := hrow k ls[k] (List.getElem?_eq_getElem h)
      have hcell := (hbel.cell (p := ad.add k) (by rw [addr_add_block]; exact hadB)).trans hu
      have hlw := hl.below hbel
      clear hu hrow hl
      have hsn : (ls.take (k + 1)).flatten = (ls.take k).flatten ++ ls[k] := by
        rw [List.take_succ_eq_append_getElem h, List.flatten_append]; simp
      generalize ls[k] = l at *
      obtain ⟨A', c', rfl, hc', hm', hr'⟩ := id hlw
      unfold maxLen at hm'
      clear hr'
      by_cases h5 : 50 ≤ k
      · go_wp2_with (go_at_call 22; refine (lives06 _).mono ?_; rintro e w3 ⟨rfl, hb3⟩)
        go_ret
        exact ⟨rfl, hbel.trans (hb3.mono hbel.size)⟩
      · by_cases hl2 : l.length ≤ 2000
        · have hon : Crc.on (Crc.on 0 (nats (ls.take k).flatten)) (nats l) = Crc.on 0 (nats (ls.take (k + 1)).flatten) := by
            rw [hsn]; unfold nats; rw [List.map_append, Crc.on_append]
          have HSN := Lib.hid hsn
          have HON := Lib.hid hon
          clear hsn hon
          generalize (ls.take k).flatten = t at *
          generalize Crc.on 0 (nats t) = x at *
          go_wp2_with (first
            | (go_at_call 23; refine (on_any x hlt _ l _ _ hlw).mono ?_; rintro e w1 ⟨rfl, hb1⟩; rw [HON.out]; have hown1 := hown.below hb1; have hlw1 := hlw.below (hb1.mono hbel.size); have hbel1 := hbel.trans (hb1.mono hbel.size))
            | (at_builtin; refine wpList_append_byt _ rfl (.tmp 25) (.tmp 26) rfl w.heap.size _ t rfl hown1 w.heap.size _ l rfl hlw1 (by omega) hbel1.size ?_; intro v' w2 hown2 hgrow hat))
          go_roundg (ls.length - (k + 1))
          case measure => have := HG.out; omega
          case rel =>
            exact ⟨k + 1, by omega, by omega, rfl, rfl, rfl, by rw [HSN.out]; exact hown2, hbel1.grown hgrow hbel1.size (fun g hg => (hown1.lt g hg).1), by rw [HSN.out, List.length_append]; omega⟩
        · go_wp2_with (go_at_call 22; refine (lives06 _).mono ?_; rintro e w3 ⟨rfl, hb3⟩)
          go_ret
          exact ⟨rfl, hbel.trans (hb3.mono hbel.size)⟩
    · obtain rfl : k = ls.length := by omega
      rw [List.take_length] at hown hlt ⊢
      go_wp2_with (first
        | (go_at_call 25; refine (sum_any _ _ _ _ hown.byt).mono ?_; rintro e w1 ⟨rfl, hb1⟩)
        | (go_at_call 22; refine (lives06 _).mono ?_; rintro e w3 ⟨rfl, hb3⟩))
      go_ret
      exact ⟨rfl, (hbel.trans (hb1.mono hbel.size)).trans (hb3.mono (Nat.le_trans hbel.size hb1.size))⟩
end Go.Proofs.Ytmcjefdnkcpghaa
