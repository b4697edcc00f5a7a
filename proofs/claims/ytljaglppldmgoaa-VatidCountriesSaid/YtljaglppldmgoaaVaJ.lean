/- THE WALKS OF vatid.Clean AND octroiref07.Clean. -/
import Derived.Test.YtljaglppldmgoaaVaI
import Derived.Test.YtljaglppldmgoaaGr2
namespace Go.Proofs.Ytljaglppldmgoaa
open Go.RowKit
/-- a slice of one byte, laid in a new block -/
theorem byt_one1 (w : World) (n : Int) (b : UInt8) (hb : n = (b.toNat : Int)) : Byt (w.alloc (.cells #[.int .u8 n] 5)) (w.heap.size + 1) (.slice (some ⟨w.heap.size, 0, none⟩) 1 1) [b] := by
  subst hb
  have := (own_lit w [b] (by simp [maxLen])).byt
  simpa [bV] using this
/-- s[:k] and s[k:] of bytes -/
theorem byt_cut {w : World} {B : Nat} {A : Option Addr} {c : Nat} {l : List UInt8} (k : Nat) (h : Byt w B (.slice A l.length c) l) (hk : k ≤ l.length) :
    Byt w B (.slice A k c) (l.take k) ∧ Byt w B (.slice (if c = k then A else A.map (·.add k)) (l.length - k) (c - k)) (l.drop k) := by
  obtain ⟨A', c', hv, hc, hm, hr⟩ := h
  simp only [Value.slice.injEq, true_and] at hv
  obtain ⟨rfl, rfl⟩ := hv
  refine ⟨⟨A, c, by rw [List.length_take, Nat.min_eq_left hk], by rw [List.length_take]; omega, hm, fun h0 => ?_⟩, ⟨_, c - k, by rw [List.length_drop], by rw [List.length_drop]; omega, by omega, fun h0 => ?_⟩⟩
  · rw [List.length_take] at h0
    obtain ⟨ad, rfl, hb, hx⟩ := hr (by omega)
    refine ⟨ad, rfl, hb, fun j x hj => hx j x ?_⟩
    rw [List.getElem?_take] at hj
    split at hj
    · exact hj
    · cases hj
  · rw [List.length_drop] at h0
    obtain ⟨ad, rfl, hb, hx⟩ := hr (by omega)
    rw [if_neg (by omega)]
    refine ⟨ad.add k, rfl, by rw [addr_add_block]; exact hb, fun j x hj => ?_⟩
    rw [addr_add_add]
    exact hx _ x (by rw [← hj, List.getElem?_drop])
def CleanPost (s : ByteArray) (w : World) (e : Ending) (w' : World) : Prop :=
  e = .returned (match cleanP s.data.toList with | some (c, n) => .tuple #[.string (bsA c), .string (bsA n), .int .i64 0] | none => .tuple #[.string ⟨#[]⟩, .string ⟨#[]⟩, .int .i64 40]) ∧ Below w.heap.size w w'
theorem cleanUp_succ (s : ByteArray) (k : Nat) (h : k < s.size) : cleanL (s.data.toList.take (k + 1)) = cleanL (s.data.toList.take k) ++ keepB s[k] := by
  have e : s.data.toList.length = s.size := Array.length_toList
  rw [List.take_succ_eq_append_getElem (by omega), cleanL_snoc]
  rfl
theorem keep_sep {b : UInt8} (h : b = 32 ∨ b = 46 ∨ b = 45 ∨ b = 47) : keepB b = [] := by unfold keepB; rw [if_pos h]
theorem keep_low {b : UInt8} (h1 : 97 ≤ b.toNat) (h2 : b.toNat ≤ 122) : keepB b = [b - 32] ∧ (b - 32).toNat = b.toNat - 32 := by
  have ne : ∀ k : UInt8, k.toNat ≤ 47 → b ≠ k := fun k hk e => by rw [e] at h1; omega
  refine ⟨?_, ?_⟩
  · unfold keepB
    rw [if_neg (by simp only [not_or]; exact ⟨ne _ (by decide), ne _ (by decide), ne _ (by decide), ne _ (by decide)⟩), if_pos ⟨h1, h2⟩]
  · have h32 : (32 : UInt8) ≤ b := by rw [UInt8.le_iff_toNat_le]; show 32 ≤ b.toNat; omega
    rw [UInt8.toNat_sub_of_le _ _ h32]; rfl
theorem keep_other {b : UInt8} (h : ¬ (b = 32 ∨ b = 46 ∨ b = 45 ∨ b = 47)) (h2 : ¬ (97 ≤ b.toNat ∧ b.toNat ≤ 122)) : keepB b = [b] := by unfold keepB; rw [if_neg h, if_neg h2]
theorem cleanP_short {s : List UInt8} (h : (cleanL s).length < 2) : cleanP s = none := by unfold cleanP; rw [if_neg (by omega)]
theorem cleanP_no {s : List UInt8} (h : rightL ((cleanL s).take 2) ((cleanL s).drop 2) = false) : cleanP s = none := by unfold cleanP; rw [if_neg (by rw [h]; simp)]
theorem cleanP_yes {s : List UInt8} (h1 : 2 ≤ (cleanL s).length) (h : rightL ((cleanL s).take 2) ((cleanL s).drop 2) = true) : cleanP s = some ((cleanL s).take 2, (cleanL s).drop 2) := by unfold cleanP; rw [if_pos ⟨h1, h⟩]
theorem run_tail2 (W : World) (ad : Addr) (n c : Nat) (h2 : 2 ≤ n) (hc : n ≤ c) (hm : c ≤ 2 ^ 63 - 1) : (Instr.slice 43 (.slice (some ad) n c) (some (.int .i64 2)) none none).run Try.prog W = .ok (.slice (some (if c = 2 then ad else ad.add 2)) (n - 2) (c - 2)) W := by
  have h3 : (2 : Int) ≤ (n : Int) := by omega
  have h4 : (2 : Int) ≤ (c : Int) := by omega
  by_cases hcp : c = 2
  · rw [if_pos hcp]
    subst hcp
    go_simp
  · rw [if_neg hcp]
    go_simp
theorem ret_val {a b : Bool} (h : a = b) : Value.bool a = .bool b := by rw [h]
theorem Byt.str2 {w : World} {B : Nat} {v : Value} {l : List UInt8} (h : Byt w B v l) : (convert 43 9 v).run Try.prog w = .ok (.string (bsA l)) w := h.str
set_option maxRecDepth 100000 in
set_option maxHeartbeats 8000000 in
theorem clean_any (s : ByteArray) (hs : s.size ≤ 50000) (w : World) : Calls Try.prog 12 #[.string s] w (CleanPost s w) := by
  go_enter Try.func12, Try.ntmps12
  go_wp2
  go_loopg [5, 6, 7, 10] s.size (fun g x5 x6 x7 x10 wr => ∃ k : Nat, k ≤ s.size ∧ g = s.size - k ∧ x10 = .int .i64 (k : Int) ∧ Own wr w.heap.size x5 (cleanL (s.data.toList.take k)) ∧ Below w.heap.size w wr)
  case atStart => exact ⟨0, Nat.zero_le _, rfl, rfl, Own.nil_ _ _, Below.refl _ _⟩
  case round =>
    obtain ⟨k, hk, hg, rfl, hown, hbel⟩ := hrel
    have HG := Lib.hid hg
    clear hg
    have hsz := hbel.size
    have es : s.data.toList.length = s.size := Array.length_toList
    have hcl := clean_len (s.data.toList.take k)
    have htl : (s.data.toList.take k).length ≤ k := by rw [List.length_take]; omega
    have hlen : (cleanL (s.data.toList.take k)).length ≤ 50000 := by omega
    have ES := Lib.hid es
    clear hcl htl es
    by_cases h : k < s.size
    · have HS := Lib.hid (cleanUp_succ s k h)
      generalize cleanL (s.data.toList.take k) = L at *
      by_cases hsep : s[k] = 32 ∨ s[k] = 46 ∨ s[k] = 45 ∨ s[k] = 47
      · have HK := Lib.hid (keep_sep hsep)
        rcases hsep with e | e | e | e
        · have v : (s[k].toNat : Int) = 32 := by rw [e]; rfl
          clear e
          go_wp2
          go_roundg (s.size - (k + 1))
          case measure => have := HG.out; omega
          case rel => exact ⟨k + 1, by omega, rfl, by go_num, by rw [HS.out, HK.out, List.append_nil]; exact hown, hbel⟩
        · have v : (s[k].toNat : Int) = 46 := by rw [e]; rfl
          clear e
          go_wp2
          go_roundg (s.size - (k + 1))
          case measure => have := HG.out; omega
          case rel => exact ⟨k + 1, by omega, rfl, by go_num, by rw [HS.out, HK.out, List.append_nil]; exact hown, hbel⟩
        · have v : (s[k].toNat : Int) = 45 := by rw [e]; rfl
          clear e
          go_wp2
          go_roundg (s.size - (k + 1))
          case measure => have := HG.out; omega
          case rel => exact ⟨k + 1, by omega, rfl, by go_num, by rw [HS.out, HK.out, List.append_nil]; exact hown, hbel⟩
        · have v : (s[k].toNat : Int) = 47 := by rw [e]; rfl
          clear e
          go_wp2
          go_roundg (s.size - (k + 1))
          case measure => have := HG.out; omega
          case rel => exact ⟨k + 1, by omega, rfl, by go_num, by rw [HS.out, HK.out, List.append_nil]; exact hown, hbel⟩
      · have n1 : ((s[k].toNat : Int) == 32) = false := toNat_ne (k := 32) (by decide) (fun e => hsep (.inl e))
        have n2 : ((s[k].toNat : Int) == 46) = false := toNat_ne (k := 46) (by decide) (fun e => hsep (.inr (.inl e)))
        have n3 : ((s[k].toNat : Int) == 45) = false := toNat_ne (k := 45) (by decide) (fun e => hsep (.inr (.inr (.inl e))))
        have n4 : ((s[k].toNat : Int) == 47) = false := toNat_ne (k := 47) (by decide) (fun e => hsep (.inr (.inr (.inr e))))
        by_cases hlow : 97 ≤ s[k].toNat ∧ s[k].toNat ≤ 122
        · obtain ⟨l1, l2⟩ := hlow
          have HK := Lib.hid (keep_low l1 l2)
          have m1 : (97 : Int) ≤ (s[k].toNat : Int) := by omega
          have m2 : (s[k].toNat : Int) ≤ 122 := by omega
          clear hsep l1 l2
          go_wp2_with (first
            | (at_builtin; go_must (refine wpList_append_byt _ rfl (.tmp 42) (.tmp 46) rfl w.heap.size u5 L rfl (hown.alloc _) _ _ [s[k] - 32] rfl (byt_one1 _ _ _ (by rw [HK.out.2]; omega)) (by simp; omega) (by simp; omega) ?_)
               intro v5 w5 hown5 hg5 _))
          go_roundg (s.size - (k + 1))
          case measure => have := HG.out; omega
          case rel => exact ⟨k + 1, by omega, rfl, by go_num, by rw [HS.out, HK.out.1]; exact hown5, (hbel.alloc hbel.size _).grown hg5 (by simp; omega) (fun b hb => ((hown.alloc (.cells #[Value.int .u8 0] 5)).lt b hb).1)⟩
        · have HK := Lib.hid (keep_other hsep hlow)
          clear hsep
          by_cases l1 : 97 ≤ s[k].toNat
          · have m1 : (97 : Int) ≤ (s[k].toNat : Int) := by omega
            have m2 : decide ((s[k].toNat : Int) ≤ 122) = false := decide_eq_false (by omega)
            clear hlow
            go_wp2_with (first
              | (at_builtin; go_must (refine wpList_append_byt _ rfl (.tmp 16) (.tmp 18) rfl w.heap.size u5 L rfl (hown.alloc _) _ _ [s[k]] rfl (byt_one1 _ _ _ rfl) (by simp; omega) (by simp; omega) ?_)
                 intro v5 w5 hown5 hg5 _))
            go_roundg (s.size - (k + 1))
            case measure => have := HG.out; omega
            case rel => exact ⟨k + 1, by omega, rfl, by go_num, by rw [HS.out, HK.out]; exact hown5, (hbel.alloc hbel.size _).grown hg5 (by simp; omega) (fun b hb => ((hown.alloc (.cells #[Value.int .u8 0] 5)).lt b hb).1)⟩
          · have m1 : decide ((97 : Int) ≤ (s[k].toNat : Int)) = false := decide_eq_false (by omega)
            clear hlow
            go_wp2_with (first
              | (at_builtin; go_must (refine wpList_append_byt _ rfl (.tmp 16) (.tmp 18) rfl w.heap.size u5 L rfl (hown.alloc _) _ _ [s[k]] rfl (byt_one1 _ _ _ rfl) (by simp; omega) (by simp; omega) ?_)
                 intro v5 w5 hown5 hg5 _))
            go_roundg (s.size - (k + 1))
            case measure => have := HG.out; omega
            case rel => exact ⟨k + 1, by omega, rfl, by go_num, by rw [HS.out, HK.out]; exact hown5, (hbel.alloc hbel.size _).grown hg5 (by simp; omega) (fun b hb => ((hown.alloc (.cells #[Value.int .u8 0] 5)).lt b hb).1)⟩
    · obtain rfl : k = s.size := by omega
      rw [List.take_of_length_le (by rw [ES.out]; exact Nat.le_refl _)] at hown hlen
      obtain ⟨A, cp, rfl, hc, hm, hr⟩ := id hown.byt
      unfold maxLen at hm
      clear hr
      by_cases h2 : 2 ≤ (cleanL s.data.toList).length
      · obtain ⟨ht, hd⟩ := byt_cut 2 hown.byt h2
        have hqs := @cleanP_no s.data.toList
        have hqy := @cleanP_yes s.data.toList h2
        have hl2 : ((cleanL s.data.toList).drop 2).length ≤ 100000 := by rw [List.length_drop]; omega
        have hl1 : ((cleanL s.data.toList).take 2).length ≤ 100000 := by rw [List.length_take]; omega
        generalize cleanL s.data.toList = L at *
        generalize L.take 2 = T at *
        generalize L.drop 2 = D at *
        have hR := right_any (bsA T) (bsA D) (by rw [bsA_size]; exact hl1) (by rw [bsA_size]; exact hl2)
        have ht1 := (ht.drew).str2
        have hd1 := (hd.drew).str2
        have hi2 : decide ((L.length : Int) < 2) = false := decide_eq_false (by omega)
        have hi3 : (2 : Int) ≤ (L.length : Int) := by omega
        have hi4 : (2 : Int) ≤ (cp : Int) := by omega
        have hi5 : L.length ≤ cp := by omega
        have HT := Lib.hid ht
        have hszr : (w.heap.size : Nat) ≤ wr.heap.size := hsz
        obtain ⟨ad, rfl⟩ : ∃ ad, A = some ad := by
          obtain ⟨A', c', hv, _, _, hr⟩ := hown.byt
          cases hv
          obtain ⟨ad, h, _⟩ := hr (by omega)
          exact ⟨ad, h⟩
        obtain ⟨A2, hsl2, hdd⟩ : ∃ A2, (∀ W, (Instr.slice 43 (.slice (some ad) L.length cp) (some (.int .i64 2)) none none).run Try.prog W = .ok (.slice (some A2) (L.length - 2) (cp - 2)) W) ∧ Byt wr wr.heap.size (.slice (some A2) (L.length - 2) (cp - 2)) D :=
          ⟨if cp = 2 then ad else ad.add 2, fun W => run_tail2 W ad L.length cp h2 hi5 hm, by
            by_cases hcp : cp = 2
            · rw [if_pos hcp] at hd ⊢; exact hd
            · rw [if_neg hcp] at hd ⊢; exact hd⟩
        have HDD := Lib.hid hdd
        clear hdd
        generalize hq : rightL T D = q at *
        have HQ := Lib.hid hq
        clear hq ht hd ht1 hd1
        go_wp2
        refine wp_region_sp (by kernel_rfl) [isS (.slice (some ad) L.length cp), isS (.int .i64 (L.length : Int)), isS (.bool false), isS (.bool false), isS (.slice (some ad) L.length cp), isS (.slice (some ad) 2 cp), isS (.string (bsA T)), isS (.slice (some ad) L.length cp), isS (.slice (some A2) (L.length - 2) (cp - 2)), isS (.string (bsA D)), isS (.bool q), isS (.bool (!q)), isS (.bool (!q))] (by kernel_rfl) (by kernel_rfl) (fun i hi => ?_) (fun a w5 hc hs => ?_)
        · match i, hi with
          | 0, _ =>
            intro a W hc hd
            have z5 := hc.same 5 (by kernel_rfl)
            simp only [List.getElem?_toArray, List.getElem?_cons_succ, List.getElem?_cons_zero, Option.getD_some] at z5
            refine obl_val rfl (wanted_none rfl) ?_ rfl
            go_simp
          | 1, _ =>
            intro a W hc hd
            have s0 : a.tmps[49]?.getD undef = (.slice (some ad) L.length cp) := hd 0 (by kernel_rfl)
            refine obl_val rfl (wanted_none rfl) ?_ rfl
            go_simp
          | 2, _ =>
            intro a W hc hd
            have s1 : a.tmps[50]?.getD undef = (.int .i64 (L.length : Int)) := hd 1 (by kernel_rfl)
            refine obl_val rfl (wanted_none rfl) ?_ rfl
            go_simp
          | 3, _ =>
            intro a W hc hd
            have s2 : a.tmps[51]?.getD undef = (.bool false) := hd 2 (by kernel_rfl)
            refine obl_val rfl (wanted_none rfl) ?_ rfl
            go_simp
          | 4, _ =>
            intro a W hc hd
            have z5 := hc.same 5 (by kernel_rfl)
            have s3 : a.tmps[52]?.getD undef = (.bool false) := hd 3 (by kernel_rfl)
            simp only [List.getElem?_toArray, List.getElem?_cons_succ, List.getElem?_cons_zero, Option.getD_some] at z5
            refine obl_val rfl (wanted_some rfl rfl s3) ?_ rfl
            go_simp
          | 5, _ =>
            intro a W hc hd
            have s4 : a.tmps[53]?.getD undef = (.slice (some ad) L.length cp) := hd 4 (by kernel_rfl)
            have s3 : a.tmps[52]?.getD undef = (.bool false) := hd 3 (by kernel_rfl)
            refine obl_val rfl (wanted_some rfl rfl s3) ?_ rfl
            go_simp
          | 6, _ =>
            intro a W hc hd
            have s5 : a.tmps[54]?.getD undef = (.slice (some ad) 2 cp) := hd 5 (by kernel_rfl)
            have s3 : a.tmps[52]?.getD undef = (.bool false) := hd 3 (by kernel_rfl)
            have e := ((HT.out.drew.below hc.below).str2)
            refine obl_val rfl (wanted_some rfl rfl s3) ?_ rfl
            go_simp
          | 7, _ =>
            intro a W hc hd
            have z5 := hc.same 5 (by kernel_rfl)
            have s3 : a.tmps[52]?.getD undef = (.bool false) := hd 3 (by kernel_rfl)
            simp only [List.getElem?_toArray, List.getElem?_cons_succ, List.getElem?_cons_zero, Option.getD_some] at z5
            refine obl_val rfl (wanted_some rfl rfl s3) ?_ rfl
            go_simp
          | 8, _ =>
            intro a W hc hd
            have s7 : a.tmps[56]?.getD undef = (.slice (some ad) L.length cp) := hd 7 (by kernel_rfl)
            have s3 : a.tmps[52]?.getD undef = (.bool false) := hd 3 (by kernel_rfl)
            refine obl_val rfl (wanted_some rfl rfl s3) ?_ rfl
            go_simp
          | 9, _ =>
            intro a W hc hd
            have s8 : a.tmps[57]?.getD undef = (.slice (some A2) (L.length - 2) (cp - 2)) := hd 8 (by kernel_rfl)
            have s3 : a.tmps[52]?.getD undef = (.bool false) := hd 3 (by kernel_rfl)
            have e := ((HDD.out.drew.below hc.below).str2)
            refine obl_val rfl (wanted_some rfl rfl s3) ?_ rfl
            go_simp
          | 10, _ =>
            intro a W hc hd
            have s6 : a.tmps[55]?.getD undef = (.string (bsA T)) := hd 6 (by kernel_rfl)
            have s9 : a.tmps[58]?.getD undef = (.string (bsA D)) := hd 9 (by kernel_rfl)
            have s3 : a.tmps[52]?.getD undef = (.bool false) := hd 3 (by kernel_rfl)
            refine obl_call rfl (wanted_some rfl rfl s3) (by go_simp) (hR W) ?_
            rintro e w8 ⟨rfl, hb8⟩
            exact ⟨_, rfl, ret_val (by rw [bsA_list, bsA_list, HQ.out]), hb8⟩
          | 11, _ =>
            intro a W hc hd
            have s10 : a.tmps[59]?.getD undef = (.bool q) := hd 10 (by kernel_rfl)
            have s3 : a.tmps[52]?.getD undef = (.bool false) := hd 3 (by kernel_rfl)
            refine obl_val rfl (wanted_some rfl rfl s3) ?_ rfl
            go_simp
          | 12, _ =>
            intro a W hc hd
            have s3 : a.tmps[52]?.getD undef = (.bool false) := hd 3 (by kernel_rfl)
            have s11 : a.tmps[60]?.getD undef = (.bool (!q)) := hd 11 (by kernel_rfl)
            refine obl_val rfl (wanted_none rfl) ?_ rfl
            go_simp
          | n + 13, h => exact absurd h (by simp)
        · have hfr := grow_frame hc [(49, (.slice (some ad) L.length cp)), (50, (.int .i64 (L.length : Int))), (51, (.bool false)), (52, (.bool false)), (53, (.slice (some ad) L.length cp)), (54, (.slice (some ad) 2 cp)), (55, (.string (bsA T))), (56, (.slice (some ad) L.length cp)), (57, (.slice (some A2) (L.length - 2) (cp - 2))), (58, (.string (bsA D))), (59, (.bool q)), (60, (.bool (!q))), (61, (.bool (!q)))] (by kernel_rfl) (fun p hp => by
              simp only [List.mem_cons, List.not_mem_nil, or_false] at hp
              rcases hp with rfl | rfl | rfl | rfl | rfl | rfl | rfl | rfl | rfl | rfl | rfl | rfl | rfl
              · exact hs 0 49 (by decide) (by kernel_rfl)
              · exact hs 1 50 (by decide) (by kernel_rfl)
              · exact hs 2 51 (by decide) (by kernel_rfl)
              · exact hs 3 52 (by decide) (by kernel_rfl)
              · exact hs 4 53 (by decide) (by kernel_rfl)
              · exact hs 5 54 (by decide) (by kernel_rfl)
              · exact hs 6 55 (by decide) (by kernel_rfl)
              · exact hs 7 56 (by decide) (by kernel_rfl)
              · exact hs 8 57 (by decide) (by kernel_rfl)
              · exact hs 9 58 (by decide) (by kernel_rfl)
              · exact hs 10 59 (by decide) (by kernel_rfl)
              · exact hs 11 60 (by decide) (by kernel_rfl)
              · exact hs 12 61 (by decide) (by kernel_rfl)
              )
          simp only [List.range, List.range.loop, List.size_toArray, List.length_cons, List.length_nil, List.map_cons, List.map_nil, List.lookup_cons, List.lookup_nil, Nat.reduceAdd, Nat.reduceBEq, Option.getD_some, Option.getD_none, List.getElem?_toArray, List.getElem?_cons_succ, List.getElem?_cons_zero] at hfr
          have hB5 := hbel.drew.trans (hc.below.mono hbel.size)
          have ht5 := fun n => ((HT.out.drew.below hc.below).below (below_drewN (Below.refl _ _) n)).str2
          have hd5 := fun n => ((HDD.out.drew.below hc.below).below (below_drewN (Below.refl _ _) n)).str2
          have ht6 := (HT.out.drew.below hc.below).str2
          have hd6 := (HDD.out.drew.below hc.below).str2
          clear hs hc
          subst hfr
          cases q with
          | false =>
            have HN := Lib.hid (hqs rfl)
            clear hqs hqy
            go_wp2
            go_ret3
            refine ⟨?_, hB5⟩
            rw [HN.out]; rfl
          | true =>
            have HN := Lib.hid (hqy rfl)
            clear hqs hqy
            go_wp2
            go_quiet (fail)
            go_wp2
            go_ret3
            refine ⟨?_, below_drewN hB5 _⟩
            rw [HN.out]; rfl
      · have HN := Lib.hid (cleanP_short (s := s.data.toList) (by omega))
        have hi2 : ((cleanL s.data.toList).length : Int) < 2 := by omega
        generalize cleanL s.data.toList = L at *
        go_wp2
        go_quiet (fail)
        go_wp2
        go_ret3
        refine ⟨?_, below_drewN hbel _⟩
        rw [HN.out]; rfl
end Go.Proofs.Ytljaglppldmgoaa
