/- THE WALKS OF octroiref07.Clean, Zone (both) AND lives. -/
import Derived.Test.YtljaglppldmgoaaVaJ
namespace Go.Proofs.Ytljaglppldmgoaa
open Go.RowKit
set_option maxRecDepth 100000 in
set_option maxHeartbeats 8000000 in
theorem rclean_any (s : ByteArray) (hs : s.size ≤ 50000) (w : World) : Calls Try.prog 13 #[.string s] w (CleanPost s w) := by
  go_enter Try.func13, Try.ntmps13
  go_wp2
  go_loopg [5, 6, 7] s.size (fun g x5 x6 x7 wr => ∃ k : Nat, k ≤ s.size ∧ g = s.size - k ∧ x6 = .int .i64 (k : Int) ∧ Own wr w.heap.size x5 (cleanL (s.data.toList.take k)) ∧ Below w.heap.size w wr)
  case atStart => exact ⟨0, Nat.zero_le _, rfl, rfl, Own.nil_ _ _, Below.refl _ _⟩
  case round =>
    obtain ⟨k, hk, hg, rfl, hown, hbel⟩ := hrel
    have HG := Lib.hid hg
    clear hg
    have hsz := hbel.size
    have es : s.data.toList.length = s.size := Array.length_toList
    have hcl := clean_len (s.data.toList.take k)
    have htl : (s.data.toList.take k).length ≤ k := by rw [List.length_take]; omega
    have hlen : (cleanL (s.data.toList.take k)).length ≤ 50000 := by omega
    have ES := Lib.hid es
    clear hcl htl es
    by_cases h : k < s.size
    · have HS := Lib.hid (cleanUp_succ s k h)
      generalize cleanL (s.data.toList.take k) = L at *
      by_cases hsep : s[k] = 32 ∨ s[k] = 46 ∨ s[k] = 45 ∨ s[k] = 47
      · have HK := Lib.hid (keep_sep hsep)
        rcases hsep with e | e | e | e
        · have v : (s[k].toNat : Int) = 32 := by rw [e]; rfl
          clear e
          go_wp2
          go_roundg (s.size - (k + 1))
          case measure => have := HG.out; omega
          case rel => exact ⟨k + 1, by omega, rfl, by go_num, by rw [HS.out, HK.out, List.append_nil]; exact hown, hbel⟩
        · have v : (s[k].toNat : Int) = 46 := by rw [e]; rfl
          clear e
          go_wp2
          go_roundg (s.size - (k + 1))
          case measure => have := HG.out; omega
          case rel => exact ⟨k + 1, by omega, rfl, by go_num, by rw [HS.out, HK.out, List.append_nil]; exact hown, hbel⟩
        · have v : (s[k].toNat : Int) = 45 := by rw [e]; rfl
          clear e
          go_wp2
          go_roundg (s.size - (k + 1))
          case measure => have := HG.out; omega
          case rel => exact ⟨k + 1, by omega, rfl, by go_num, by rw [HS.out, HK.out, List.append_nil]; exact hown, hbel⟩
        · have v : (s[k].toNat : Int) = 47 := by rw [e]; rfl
          clear e
          go_wp2
          go_roundg (s.size - (k + 1))
          case measure => have := HG.out; omega
          case rel => exact ⟨k + 1, by omega, rfl, by go_num, by rw [HS.out, HK.out, List.append_nil]; exact hown, hbel⟩
      · have n1 : ((s[k].toNat : Int) == 32) = false := toNat_ne (k := 32) (by decide) (fun e => hsep (.inl e))
        have n2 : ((s[k].toNat : Int) == 46) = false := toNat_ne (k := 46) (by decide) (fun e => hsep (.inr (.inl e)))
        have n3 : ((s[k].toNat : Int) == 45) = false := toNat_ne (k := 45) (by decide) (fun e => hsep (.inr (.inr (.inl e))))
        have n4 : ((s[k].toNat : Int) == 47) = false := toNat_ne (k := 47) (by decide) (fun e => hsep (.inr (.inr (.inr e))))
        have n1' : ((s[k].toNat : Int) != 32) = true := by simp only [bne, n1]; rfl
        have n2' : ((s[k].toNat : Int) != 46) = true := by simp only [bne, n2]; rfl
        have n3' : ((s[k].toNat : Int) != 45) = true := by simp only [bne, n3]; rfl
        have n4' : ((s[k].toNat : Int) != 47) = true := by simp only [bne, n4]; rfl
        by_cases hlow : 97 ≤ s[k].toNat ∧ s[k].toNat ≤ 122
        · obtain ⟨l1, l2⟩ := hlow
          have HK := Lib.hid (keep_low l1 l2)
          have m1 : (97 : Int) ≤ (s[k].toNat : Int) := by omega
          have m2 : (s[k].toNat : Int) ≤ 122 := by omega
          have p1 : ((s[k].toNat : Int) - 32 != 32) = true := by simp; omega
          have p2 : ((s[k].toNat : Int) - 32 != 46) = true := by simp; omega
          have p3 : ((s[k].toNat : Int) - 32 != 45) = true := by simp; omega
          have p4 : ((s[k].toNat : Int) - 32 != 47) = true := by simp; omega
          have r1 : ((s[k].toNat : Int) - 32 == 32) = false := by rw [beq_eq_false_iff_ne]; omega
          have r2 : ((s[k].toNat : Int) - 32 == 46) = false := by rw [beq_eq_false_iff_ne]; omega
          have r3 : ((s[k].toNat : Int) - 32 == 45) = false := by rw [beq_eq_false_iff_ne]; omega
          have r4 : ((s[k].toNat : Int) - 32 == 47) = false := by rw [beq_eq_false_iff_ne]; omega
          clear hsep l1 l2
          go_wp2_with (first
            | (at_builtin; go_must (refine wpList_append_byt _ rfl (.tmp 41) (.tmp 43) rfl w.heap.size u5 L rfl (hown.alloc _) _ _ [s[k] - 32] rfl (byt_one1 _ _ _ (by rw [HK.out.2]; omega)) (by simp; omega) (by simp; omega) ?_)
               intro v5 w5 hown5 hg5 _))
          go_roundg (s.size - (k + 1))
          case measure => have := HG.out; omega
          case rel => exact ⟨k + 1, by omega, rfl, by go_num, by rw [HS.out, HK.out.1]; exact hown5, (hbel.alloc hbel.size _).grown hg5 (by simp; omega) (fun b hb => ((hown.alloc (.cells #[Value.int .u8 0] 5)).lt b hb).1)⟩
        · have HK := Lib.hid (keep_other hsep hlow)
          clear hsep
          by_cases l1 : 97 ≤ s[k].toNat
          · have m1 : (97 : Int) ≤ (s[k].toNat : Int) := by omega
            have m2 : decide ((s[k].toNat : Int) ≤ 122) = false := decide_eq_false (by omega)
            clear hlow
            go_wp2_with (first
              | (at_builtin; go_must (refine wpList_append_byt _ rfl (.tmp 41) (.tmp 43) rfl w.heap.size u5 L rfl (hown.alloc _) _ _ [s[k]] rfl (byt_one1 _ _ _ rfl) (by simp; omega) (by simp; omega) ?_)
                 intro v5 w5 hown5 hg5 _))
            go_roundg (s.size - (k + 1))
            case measure => have := HG.out; omega
            case rel => exact ⟨k + 1, by omega, rfl, by go_num, by rw [HS.out, HK.out]; exact hown5, (hbel.alloc hbel.size _).grown hg5 (by simp; omega) (fun b hb => ((hown.alloc (.cells #[Value.int .u8 0] 5)).lt b hb).1)⟩
          · have m1 : decide ((97 : Int) ≤ (s[k].toNat : Int)) = false := decide_eq_false (by omega)
            clear hlow
            go_wp2_with (first
              | (at_builtin; go_must (refine wpList_append_byt _ rfl (.tmp 41) (.tmp 43) rfl w.heap.size u5 L rfl (hown.alloc _) _ _ [s[k]] rfl (byt_one1 _ _ _ rfl) (by simp; omega) (by simp; omega) ?_)
                 intro v5 w5 hown5 hg5 _))
            go_roundg (s.size - (k + 1))
            case measure => have := HG.out; omega
            case rel => exact ⟨k + 1, by omega, rfl, by go_num, by rw [HS.out, HK.out]; exact hown5, (hbel.alloc hbel.size _).grown hg5 (by simp; omega) (fun b hb => ((hown.alloc (.cells #[Value.int .u8 0] 5)).lt b hb).1)⟩
    · obtain rfl : k = s.size := by omega
      rw [List.take_of_length_le (by rw [ES.out]; exact Nat.le_refl _)] at hown hlen
      obtain ⟨A, cp, rfl, hc, hm, hr⟩ := id hown.byt
      unfold maxLen at hm
      by_cases h2 : 2 ≤ (cleanL s.data.toList).length
      · obtain ⟨ht, hd⟩ := byt_cut 2 hown.byt h2
        obtain ⟨ad, rfl⟩ : ∃ ad, A = some ad := by
          obtain ⟨ad, h, _⟩ := hr (by omega)
          exact ⟨ad, h⟩
        clear hr
        have hqs := @cleanP_no s.data.toList
        have hqy := @cleanP_yes s.data.toList h2
        have hl2 : ((cleanL s.data.toList).drop 2).length ≤ 100000 := by rw [List.length_drop]; omega
        have hl1 : ((cleanL s.data.toList).take 2).length ≤ 100000 := by rw [List.length_take]; omega
        generalize cleanL s.data.toList = L at *
        generalize L.take 2 = T at *
        generalize L.drop 2 = D at *
        have hR := rright_any (bsA T) (bsA D) (by rw [bsA_size]; exact hl2)
        have hi2 : decide ((L.length : Int) < 2) = false := decide_eq_false (by omega)
        have hi3 : (2 : Int) ≤ (L.length : Int) := by omega
        have hi4 : (2 : Int) ≤ (cp : Int) := by omega
        have hi5 : L.length ≤ cp := by omega
        obtain ⟨A2, hsl2, hdd⟩ : ∃ A2, (∀ W, (Instr.slice 43 (.slice (some ad) L.length cp) (some (.int .i64 2)) none none).run Try.prog W = .ok (.slice (some A2) (L.length - 2) (cp - 2)) W) ∧ Byt wr wr.heap.size (.slice (some A2) (L.length - 2) (cp - 2)) D :=
          ⟨if cp = 2 then ad else ad.add 2, fun W => run_tail2 W ad L.length cp h2 hi5 hm, by
            by_cases hcp : cp = 2
            · rw [if_pos hcp] at hd ⊢; exact hd
            · rw [if_neg hcp] at hd ⊢; exact hd⟩
        have ht1 := ht.str2
        have hd1 := hdd.str2
        clear ht hd hdd
        generalize hq : rightL T D = q at *
        have HQ := Lib.hid hq
        clear hq
        cases q with
        | false =>
          have HN := Lib.hid (hqs rfl)
          clear hqs hqy
          go_wp2_with (go_at_call 8; refine (hR _).mono ?_; rintro e w8 ⟨rfl, hb8⟩; rw [bsA_list, bsA_list, HQ.out])
          go_ret3
          refine ⟨?_, hbel.trans (hb8.mono hbel.size)⟩
          rw [HN.out]; rfl
        | true =>
          have HN := Lib.hid (hqy rfl)
          clear hqs hqy
          go_wp2_with (go_at_call 8; refine (hR _).mono ?_; rintro e w8 ⟨rfl, hb8⟩; rw [bsA_list, bsA_list, HQ.out])
          go_ret3
          refine ⟨?_, hbel.trans (hb8.mono hbel.size)⟩
          rw [HN.out]; rfl
      · have HN := Lib.hid (cleanP_short (s := s.data.toList) (by omega))
        have hi2 : ((cleanL s.data.toList).length : Int) < 2 := by omega
        clear hr
        generalize cleanL s.data.toList = L at *
        go_wp2
        go_ret3
        refine ⟨?_, hbel⟩
        rw [HN.out]; rfl
end Go.Proofs.Ytljaglppldmgoaa
