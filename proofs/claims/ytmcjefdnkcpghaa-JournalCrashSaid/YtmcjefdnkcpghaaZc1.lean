/- THE SCANNER'S PAGE. -/
import Derived.Test.YtmcjefdnkcpghaaZt3
import Derived.Lib.ConvBytes
namespace Go.Proofs.Ytmcjefdnkcpghaa
open Go.RowKit
/-- a store of what lies there already -/
theorem heap_setCell_id {w : World} {b i : Nat} {cs : Array Value} {t : TypeId} {m : Nat × Nat} {v : Value} (h : w.heap[b]? = some (.cells cs t m)) (hv : cs[i]? = some v) (k : Nat) : (w.setCell ⟨b, i, none⟩ v).heap[k]? = w.heap[k]? := by
  simp only [World.setCell]
  rw [Array.getElem?_modify]
  split
  · next e =>
    subst e
    rw [h]
    simp only [Option.map_some, Option.isSome_none, Bool.false_eq_true, if_false]
    congr 2
    apply Array.ext_getElem?
    intro j
    rw [Array.getElem?_setIfInBounds]
    split
    · next e => subst e; split
                · exact hv.symm
                · next h2 => rw [Array.getElem?_eq_none (by omega)] 
    · rfl
  · rfl
theorem Below.setCell_id {B : Nat} {w w' : World} {b i : Nat} {cs : Array Value} {t : TypeId} {m : Nat × Nat} {v : Value} (hb : Below B w w') (h : w'.heap[b]? = some (.cells cs t m)) (hv : cs[i]? = some v) : Below B w (w'.setCell ⟨b, i, none⟩ v) :=
  ⟨hb.os, hb.tape, hb.output, by simpa [World.setCell] using hb.size, fun k hk => (heap_setCell_id h hv k).trans (hb.block k hk)⟩
theorem page_ok {w : World} {Z : Nat → Prop} {g b : Nat} {d : Dv} (h : Dk w Z g d) (hb : w.heap[b]? = some (.cells #[.pointer (some ⟨g, 0, none⟩), .int .i64 0] 157 (0, 0))) (hd : d.dead = false) (i : Nat) (hi : i < d.n) :
    Calls Try.prog 107 #[.pointer (some ⟨b, 0, none⟩), .int .i64 (i : Int)] w fun e w' => ∃ r, e = .returned (.tuple #[r, .bool true]) ∧ BytN (fun _ => True) w' r (page d.L i) ∧ Below w.heap.size w w' := by
  have hr := read_any h (i : Int)
  have hcan : d.can (i : Int) = 0 := by unfold Dv.can; rw [hd, if_neg (by simp), if_neg (by omega)]
  unfold ReadPost at hr
  rw [hcan, if_pos rfl, Int.toNat_natCast] at hr
  have c0 := cells_of hb 0 _ rfl
  have c1 := cells_of hb 1 _ rfl
  have hlt := lt_of_block hb
  generalize page d.L i = pg at *
  have HB := Lib.hid hb
  clear hb h hcan hd hi
  go_enter Try.func107, Try.ntmps107
  go_wp2_with fail
  refine hr.mono ?_
  rintro e w1 ⟨r, rfl, ho1, hb1⟩
  have hx := (hb1.block b hlt).trans HB.out
  have d0 := cells_of hx 0 _ rfl
  have d1 := cells_of hx 1 _ rfl
  have hf := free_of hx 1
  clear hr c0 c1
  go_wp2
  go_ret2
  have hs := Below.setCell_id (hb1) hx (i := 1) (v := .int .i64 0) rfl
  exact ⟨_, rfl, (ho1.bytn (fun _ _ => trivial)).below (Below.setCell_id (Below.refl _ _) hx (i := 1) rfl), hs⟩
end Go.Proofs.Ytmcjefdnkcpghaa
/- A BATCH AT A SECTOR: plainly, and the walk of the scanner's. -/
namespace Go.Proofs.Ytmcjefdnkcpghaa
open Go.RowKit
def needN (n : Nat) : Nat := (needI n).toNat
def midsR (pg : Nat → List UInt8) (at_ nd : Nat) : List (List UInt8) := (List.range (nd - 2)).map fun i => pg (at_ + 1 + i)
def batchR (pg : Nat → List UInt8) (n at_ seq : Nat) : List UInt8 × Nat :=
  if beginB (pg at_) = true ∧ hdS (pg at_) = seq ∧ needN (hdL (pg at_)) ≤ n - at_ then
    if joinB (midsR pg at_ (needN (hdL (pg at_)))) seq (hdL (pg at_)) (hdC (pg at_)) = true ∧ endB (pg (at_ + needN (hdL (pg at_)) - 1)) seq (hdC (pg at_)) = true then
      (joinL (midsR pg at_ (needN (hdL (pg at_)))) seq (hdL (pg at_)) (hdC (pg at_)), needN (hdL (pg at_)))
    else ([], 0)
  else ([], 0)
def BatchPost (w : World) (B : List UInt8 × Nat) (e : Ending) (w' : World) : Prop := ∃ v, e = .returned (.tuple #[v, .int .i64 (B.2 : Int)]) ∧ BytN (fun b => w.heap.size ≤ b) w' v B.1 ∧ Below w.heap.size w w'
theorem BatchPost.no {w w' : World} (hb : Below w.heap.size w w') : BatchPost w ([], 0) (.returned (.tuple #[.slice none 0 0, .int .i64 0])) w' := ⟨_, rfl, ⟨Byt.nil_ _ _, fun ad n c e => by cases e⟩, hb⟩
theorem begin_need {l : List UInt8} (h : beginB l = true) : 3 ≤ needN (hdL l) ∧ needN (hdL l) ≤ 2050 ∧ ((needN (hdL l) : Nat) : Int) = needI (hdL l) := by
  unfold beginB at h
  simp only [Bool.and_eq_true] at h
  obtain ⟨_, _, h1, h2⟩ := rightB_yes h.1.2
  unfold needN needI
  rw [if_neg (by omega)]
  omega
theorem midsR_len (pg : Nat → List UInt8) (at_ nd : Nat) : (midsR pg at_ nd).length = nd - 2 := by simp [midsR]
theorem midsR_take (pg : Nat → List UInt8) (at_ nd k : Nat) (h : k < nd - 2) : (midsR pg at_ nd).take (k + 1) = (midsR pg at_ nd).take k ++ [pg (at_ + 1 + k)] := by
  rw [List.take_succ_eq_append_getElem (by rw [midsR_len]; exact h)]
  simp [midsR]
set_option maxRecDepth 100000 in
set_option maxHeartbeats 4000000 in
theorem batch_any {w : World} {Z : Nat → Prop} {g b : Nat} {d : Dv} (h : Dk w Z g d) (hb : w.heap[b]? = some (.cells #[.pointer (some ⟨g, 0, none⟩), .int .i64 0] 157 (0, 0))) (hd : d.dead = false) (at_ : Nat) (hat : at_ < d.n) (seq : Nat) :
    Calls Try.prog 108 #[.pointer (some ⟨b, 0, none⟩), .int .i64 (at_ : Int), .int .i64 (seq : Int)] w (BatchPost w (batchR (page d.L) d.n at_ seq)) := by
  have hp1 := page_ok h hb hd at_ hat
  have hpg := fun (W : World) (hW : Below w.heap.size w W) (i : Nat) (hi : i < d.n) => page_ok (h.below hW) ((hW.block b (lt_of_block hb)).trans hb) hd i hi
  have hsl := fun (W : World) (hW : Below w.heap.size w W) => slen_any (h.below hW)
  have hn2 := h.ok.n2
  have HBX := Lib.hid hb
  have HPG := Lib.hid hpg
  have HSL := Lib.hid hsl
  have hlt := lt_of_block hb
  unfold batchR
  generalize page d.L = pg at *
  generalize d.n = n at *
  clear h hpg hb hsl
  cases hbb : beginB (pg at_) with
  | false =>
    rw [if_neg (by simp)]
    have hbg := fun (W : World) (v : Value) (h : Byt W W.heap.size v (pg at_)) => begin_any h
    unfold BeginPost beginV headV at hbg
    rw [hbb] at hbg
    simp only [Bool.false_eq_true, if_false] at hbg
    have HBG := Lib.hid hbg
    clear hbb hbg
    go_enter Try.func108, Try.ntmps108
    go_wp2_with fail
    refine hp1.mono ?_
    rintro e w1 ⟨r, rfl, hr1, hb1⟩
    clear hp1
    go_wp2_with fail
    refine (HBG.out w1 r hr1.1).mono ?_
    rintro e w2 ⟨rfl, hb2⟩
    go_wp2_with (first
      | (go_at_call 53; (with_reducible refine (need_any _ _).mono ?_); rintro e w4 ⟨rfl, rfl⟩))
    go_ret2
    exact BatchPost.no (hb1.trans ((hb2.mono hb1.size).alloc (Nat.le_trans hb1.size hb2.size) _))
  | true =>
    obtain ⟨hn3, hn4, hn5⟩ := begin_need hbb
    have hsm := hdC_lt (pg at_)
    have hbg := fun (W : World) (v : Value) (h : Byt W W.heap.size v (pg at_)) => begin_any h
    unfold BeginPost beginV headV at hbg
    rw [hbb] at hbg
    simp only [if_true] at hbg
    generalize hdS (pg at_) = sq at *
    generalize hdL (pg at_) = ln at *
    generalize hdC (pg at_) = sm at *
    generalize needN ln = nd at *
    have HBG := Lib.hid hbg
    have HN5 := Lib.hid hn5
    have i0 : IntKind.i64.wrap ((n : Int) - (at_ : Int)) = (n : Int) - (at_ : Int) := by rw [IntKind.wrap_i64]; omega
    clear hbb hbg hn5
    by_cases hsq : sq = seq
    · subst hsq
      by_cases hnd : nd ≤ n - at_
      · rw [if_pos ⟨rfl, rfl, hnd⟩]
        have e2 : decide ((n : Int) - (at_ : Int) < (nd : Int)) = false := decide_eq_false (by omega)
        have i5 : IntKind.i64.wrap ((at_ : Int) + (nd : Int)) = (at_ : Int) + (nd : Int) := by rw [IntKind.wrap_i64]; omega
        have i6 : IntKind.i64.wrap ((at_ : Int) + (nd : Int) - 1) = (at_ : Int) + (nd : Int) - 1 := by rw [IntKind.wrap_i64]; omega
        have i7 : IntKind.i64.wrap ((at_ : Int) + 1) = (at_ : Int) + 1 := by rw [IntKind.wrap_i64]; omega
        have hjo := fun (W : World) (v : Value) (h : Byts W W.heap.size v (midsR pg at_ nd)) => join_any h sq ln sm hsm
        have hen := fun (W : World) (v : Value) (h : Byt W W.heap.size v (pg (at_ + nd - 1))) => end_any h sq ln sm hsm
        unfold JoinPost at hjo
        unfold headV at hjo hen
        have hmt := midsR_take pg at_ nd
        have hml := midsR_len pg at_ nd
        generalize joinB (midsR pg at_ nd) sq ln sm = jb at *
        generalize joinL (midsR pg at_ nd) sq ln sm = J at *
        generalize endB (pg (at_ + nd - 1)) sq sm = eb at *
        generalize midsR pg at_ nd = M at *
        generalize hR : (if jb = true ∧ eb = true then (J, nd) else ([], 0)) = R
        have HR := Lib.hid hR
        clear hR
        have HJO := Lib.hid hjo
        have HEN := Lib.hid hen
        have HMT := Lib.hid hmt
        have HML := Lib.hid hml
        clear hjo hen hmt hml
        go_enter Try.func108, Try.ntmps108
        go_wp2_with fail
        refine hp1.mono ?_
        rintro e w1 ⟨r, rfl, hr1, hb1⟩
        clear hp1
        go_wp2_with fail
        refine (HBG.out w1 r hr1.1).mono ?_
        rintro e w2 ⟨rfl, hb2⟩
        have hb02 := (hb1.trans (hb2.mono hb1.size)).alloc (Nat.le_trans hb1.size hb2.size) (.cells #[.int .i64 (sq : Int), .int .i64 (ln : Int), .int .u32 (sm : Int)] 77)
        have hbx := (hb02.block b hlt).trans HBX.out
        have x0 := cells_of hbx 0 _ rfl
        have hs1 := HSL.out _ hb02
        have hhd := heap_alloc_new w2 (.cells #[.int .i64 (sq : Int), .int .i64 (ln : Int), .int .u32 (sm : Int)] 77 (0, 0))
        have HB02 := Lib.hid hb02
        have HHD := Lib.hid hhd
        have hwb := Nat.le_trans hb1.size hb2.size
        clear hbx hhd HBG hb1 hb2 hr1
        go_wp2_with (first
          | (go_at_call 53; (with_reducible refine (need_any _ _).mono ?_); rintro e w4 ⟨rfl, rfl⟩; rw [← HN5.out])
          | (go_at_call 94; refine hs1.mono ?_; rintro e w5 ⟨rfl, rfl⟩))
        clear hs1 x0 hb02
        generalize w2.heap.size = b2 at *
        go_loopg [8, 9, 13, 14] (nd - 2) (fun gk x8 x9 x13 x14 wr => ∃ k : Nat, gk = nd - 2 - k ∧ k ≤ nd - 2 ∧ x14 = .int .i64 ((at_ : Int) + 1 + (k : Int)) ∧ OwB (fun _ => True) wr w.heap.size x13 (M.take k) ∧ wr.heap[b2]? = some (.cells #[.int .i64 (sq : Int), .int .i64 (ln : Int), .int .u32 (sm : Int)] 77 (0, 0)) ∧ Below w.heap.size w wr)
        case atStart => exact ⟨0, rfl, Nat.zero_le _, by simp, OwB.nil_ _ _ _, HHD.out, HB02.out⟩
        case round =>
          obtain ⟨k, hgk, hk, rfl, ho, hx, hbel⟩ := hrel
          have HG := Lib.hid hgk
          have HO := Lib.hid ho
          have HX := Lib.hid hx
          have HBE := Lib.hid hbel
          have hwr := hbel.size
          clear hgk ho hx HB02 HHD
          by_cases h : k < nd - 2
          · have hpk := HPG.out wr hbel (at_ + 1 + k) (by omega)
            rw [show ((at_ + 1 + k : Nat) : Int) = (at_ : Int) + 1 + (k : Int) by omega] at hpk
            have i8 : (at_ : Int) + 1 + (k : Int) < (at_ : Int) + (nd : Int) - 1 := by omega
            have i9 : IntKind.i64.wrap ((at_ : Int) + 1 + (k : Int) + 1) = (at_ : Int) + 1 + (k : Int) + 1 := by rw [IntKind.wrap_i64]; omega
            have HTK := Lib.hid (HMT.out k h)
            clear hbel
            go_wp2_with fail
            refine hpk.mono ?_
            rintro e w5 ⟨r5, rfl, hr5, hb5⟩
            generalize pg (at_ + 1 + k) = pk at *
            obtain ⟨A5, c5, rfl, hc5, hm5, _⟩ := id hr5.1
            unfold maxLen at hm5
            have HO5 := Lib.hid (HO.out.below hb5)
            have HN5' := Lib.hid hr5
            have HB5 := Lib.hid (HBE.out.trans (hb5.mono hwr))
            have HX5 := Lib.hid ((hb5.block b2 (lt_of_block HX.out)).trans HX.out)
            have hw5 := HB5.out.size
            have HLN := Lib.hid (show (M.take k).length + 1 ≤ 1000000 by rw [List.length_take, HML.out]; omega)
            clear hr5 hpk hb5
            go_wp2_with ((with_reducible show wpList _ _ _ (⟨some 74, _, _, _, _, _⟩ :: _) _ _); go_must (refine wpList_append_one rfl (.tmp 71) (.tmp 73) rfl rfl HO5.out A5 _ c5 HN5'.out rfl HLN.out hw5 (fun _ _ => trivial) ?_); intro v' w' ho' hg' _; have HO' := Lib.hid ho'; clear ho')
            go_roundg (nd - 2 - (k + 1))
            case measure => have := HG.out; omega
            case rel =>
              refine ⟨k + 1, rfl, by omega, by simp; omega, by rw [HTK.out]; exact HO'.out, keepK (by decide) HX5.out HO5.out hg', ?_⟩
              obtain ⟨ts, o1, _, _⟩ := HO5.out
              exact HB5.out.grown hg' hw5 (fun k hk => (o1.lt k hk).1)
          · obtain rfl : k = nd - 2 := by omega
            rw [List.take_of_length_le (by rw [HML.out]; exact Nat.le_refl _)] at HO
            have i8 : ¬ ((at_ : Int) + 1 + ((nd - 2 : Nat) : Int) < (at_ : Int) + (nd : Int) - 1) := by omega
            have hj := HJO.out wr _ HO.out.byts
            have hpk := HPG.out
            have z0 := cells_of HX.out 0 _ rfl
            have z1 := cells_of HX.out 1 _ rfl
            have z2 := cells_of HX.out 2 _ rfl
            have HPK := Lib.hid hpk
            clear hbel HG h hk hpk HMT
            go_wp2_with fail
            refine hj.mono ?_
            rintro e w6 ⟨v6, rfl, hv6, hb6⟩
            have hb06 := HBE.out.trans (hb6.mono hwr)
            have hx6 := (hb6.block b2 (lt_of_block HX.out)).trans HX.out
            have hp2 := HPK.out w6 hb06 (at_ + nd - 1) (by omega)
            rw [show ((at_ + nd - 1 : Nat) : Int) = (at_ : Int) + (nd : Int) - 1 by omega] at hp2
            have HX6 := Lib.hid hx6
            have HB06 := Lib.hid hb06
            have HV6 := Lib.hid hv6
            clear z0 z1 z2 hj hx6 hb06 hv6 hb6
            go_wp2_with fail
            refine hp2.mono ?_
            rintro e w7 ⟨r7, rfl, hr7, hb7⟩
            have hx7 := (hb7.block b2 (lt_of_block HX6.out)).trans HX6.out
            have y0 := cells_of hx7 0 _ rfl
            have y1 := cells_of hx7 1 _ rfl
            have y2 := cells_of hx7 2 _ rfl
            have hB7 := HB06.out.trans (hb7.mono HB06.out.size)
            have HV7 := Lib.hid (HV6.out.below hb7)
            have he := HEN.out w7 r7 hr7.1
            clear hp2 hx7 hb7
            cases jb with
            | false =>
              have hR := HR.out
              rw [if_neg (by simp)] at hR
              subst hR
              go_wp2
              go_ret2
              exact BatchPost.no hB7
            | true =>
              cases eb with
              | false =>
                have hR := HR.out
                rw [if_neg (by simp)] at hR
                subst hR
                have HB7 := Lib.hid hB7
                clear hB7
                go_wp2_with (first
                  | (go_at_call 56; refine he.mono ?_; rintro e w8 ⟨rfl, hb8⟩))
                go_ret2
                exact BatchPost.no (HB7.out.trans (hb8.mono HB7.out.size))
              | true =>
                have hR := HR.out
                rw [if_pos ⟨rfl, rfl⟩] at hR
                subst hR
                have HB7 := Lib.hid hB7
                clear hB7
                go_wp2_with (first
                  | (go_at_call 56; refine he.mono ?_; rintro e w8 ⟨rfl, hb8⟩))
                go_ret2
                exact ⟨_, rfl, (HV7.out.below hb8).mono (fun b h => Nat.le_trans hwr h), HB7.out.trans (hb8.mono HB7.out.size)⟩
      · rw [if_neg (by simp; omega)]
        have e2 : decide ((n : Int) - (at_ : Int) < (nd : Int)) = true := decide_eq_true (by omega)
        clear hnd
        go_enter Try.func108, Try.ntmps108
        go_wp2_with fail
        refine hp1.mono ?_
        rintro e w1 ⟨r, rfl, hr1, hb1⟩
        clear hp1
        go_wp2_with fail
        refine (HBG.out w1 r hr1.1).mono ?_
        rintro e w2 ⟨rfl, hb2⟩
        have hb02 := (hb1.trans (hb2.mono hb1.size)).alloc (Nat.le_trans hb1.size hb2.size) (.cells #[.int .i64 (sq : Int), .int .i64 (ln : Int), .int .u32 (sm : Int)] 77)
        have hbx := (hb02.block b hlt).trans HBX.out
        have x0 := cells_of hbx 0 _ rfl
        have hs1 := HSL.out _ hb02
        clear hbx
        go_wp2_with (first
          | (go_at_call 53; (with_reducible refine (need_any _ _).mono ?_); rintro e w4 ⟨rfl, rfl⟩; rw [← HN5.out])
          | (go_at_call 94; refine hs1.mono ?_; rintro e w5 ⟨rfl, rfl⟩))
        go_ret2
        exact BatchPost.no hb02
    · rw [if_neg (by simp [hsq])]
      have e1 : ((sq : Int) == (seq : Int)) = false := by rw [beq_eq_false_iff_ne]; omega
      have e2 : ((sq : Int) != (seq : Int)) = true := by simp [e1, bne]
      clear hsq
      go_enter Try.func108, Try.ntmps108
      go_wp2_with fail
      refine hp1.mono ?_
      rintro e w1 ⟨r, rfl, hr1, hb1⟩
      clear hp1
      go_wp2_with fail
      refine (HBG.out w1 r hr1.1).mono ?_
      rintro e w2 ⟨rfl, hb2⟩
      go_wp2_with (first
        | (go_at_call 53; (with_reducible refine (need_any _ _).mono ?_); rintro e w4 ⟨rfl, rfl⟩; rw [← HN5.out]))
      go_ret2
      exact BatchPost.no (hb1.trans ((hb2.mono hb1.size).alloc (Nat.le_trans hb1.size hb2.size) _))
end Go.Proofs.Ytmcjefdnkcpghaa
/- THE DOCUMENT'S BATCH AT A SECTOR. -/
namespace Go.Proofs.Ytmcjefdnkcpghaa
open Go.RowKit
theorem batchR_out (pg : Nat → List UInt8) (n at_ seq : Nat) (h : n ≤ at_) : batchR pg n at_ seq = ([], 0) := by
  unfold batchR
  rw [if_neg]
  rintro ⟨h1, _, h3⟩
  have := (begin_need h1).1
  omega
/-- a text made bytes, in new memory -/
theorem conv_bytn (l : List UInt8) (hl : l.length ≤ 1000000) : ∃ (C : World → Nat) (CW : World → World), (∀ W, (convert 9 23 (.string (bsA l))).run Try.prog W = .ok (.slice (some ⟨W.heap.size, 0, none⟩) l.length (C W)) (CW W)) ∧
    ∀ W, BytN (fun _ => True) (CW W) (.slice (some ⟨W.heap.size, 0, none⟩) l.length (C W)) l ∧ Below W.heap.size W (CW W) := by
  have hsz : (bsA l).size = l.length := by simp [bsA, ByteArray.size]
  have hdl : (bsA l).data.toList = l := bsA_list l
  refine ⟨fun W => grownCap W l.length 0 5, fun W => Lib.bytesWorld W 5 (bsA l), fun W => ?_, fun W => ⟨⟨⟨_, _, rfl, grownCap_ge W _ _ _, grownCap_le_maxLen W _ _ _ (by simp only [maxLen]; omega), fun _ => ⟨_, rfl, ?_, fun j x hj => ?_⟩⟩, fun ad n c e _ => ?_⟩, ?_⟩⟩
  · have := Lib.run_convert_string_bytes (P := Try.prog) W 9 23 5 (bsA l) Try.underlying9 Try.underlying23 Try.underlying5
    rw [hsz] at this
    exact this
  · show W.heap.size < _
    rw [Lib.bytesWorld_size]; exact Nat.lt_succ_self _
  · have hjl := (List.getElem?_eq_some_iff.1 hj).1
    rw [addr_mk_add, Nat.zero_add, Lib.bytesWorld_cell W 5 (bsA l) j (by rw [hsz]; exact hjl), hdl]
    simp [List.getD, hj, bV]
  · cases e
    exact ⟨trivial, _, _, _, Lib.bytesWorld_at_new W 5 (bsA l), by decide⟩
  · exact ⟨rfl, rfl, rfl, by rw [Lib.bytesWorld_size]; exact Nat.le_succ _, fun j hj => Lib.bytesWorld_at_old W _ _ j hj⟩
theorem exec_convg {P : Program} {o : Oper} {ρ : Operand → Value} {w w' : World} {t t' : TypeId} {x : Operand} {u : Value} (ho : o.op = .convert t t' x) (h : (convert t t' (ρ x)).run P w = .ok u w') : (execOp ρ o).run P w = .ok (.value u) w' := by
  unfold execOp; simp only [ho]; simp [h]
set_option maxRecDepth 100000 in
set_option maxHeartbeats 8000000 in
theorem rbatch_any {w : World} {B : Nat} {v : Value} {L : List UInt8} {n : Nat} (hs : Sl strK w B v (pagesS L n)) (hn2 : n ≤ 4096) (at_ : Nat) (hat2 : at_ ≤ 5000) (seq : Nat) :
    Calls Try.prog 112 #[v, .int .i64 (at_ : Int), .int .i64 (seq : Int)] w (BatchPost w (batchR (page L) n at_ seq)) := by
  by_cases hat : at_ < n
  · have hst : ∃ (ad : Addr) (c : Nat), v = .slice (some ad) n c ∧ n ≤ c ∧ c ≤ maxLen ∧ ad.block < w.heap.size ∧ ∀ k, k < n → w.cell? (ad.add k) = some (.string (bsA (page L k))) := by
      obtain ⟨ad, c, hv, hc1, hc2, hb, _⟩ := hs.heap.at_ at_ (by rw [pagesS_len]; exact hat)
      rw [pagesS_len] at hv hc1
      refine ⟨ad, c, hv, hc1, hc2, hb, fun k hk => ?_⟩
      obtain ⟨ad', c', hv', _, _, _, hcell⟩ := hs.heap.at_ k (by rw [pagesS_len]; exact hk)
      rw [hv, pagesS_len] at hv'
      cases hv'
      have hg : (pagesS L n)[k]'(by rw [pagesS_len]; exact hk) = bsA (page L k) := by simp [pagesS]
      rw [hg] at hcell
      exact hcell
    obtain ⟨ad, c, rfl, hc1, hc2, hadb, hcell⟩ := hst
    unfold maxLen at hc2
    have hcw := fun (W : World) (hW : Below w.heap.size w W) (k : Nat) (hk : k < n) => (hW.cell (p := ad.add k) (by rw [addr_add_block]; exact hadb)).trans (hcell k hk)
    have hcv := fun (k : Nat) => conv_bytn (page L k) (Nat.le_trans (List.length_take_le _ _) (by decide))
    have HCW := Lib.hid hcw
    have HCV := Lib.hid hcv
    have hc0 := hcell at_ hat
    clear hcell hcw hcv hs
    unfold batchR
    generalize page L = pg at *
    obtain ⟨C0, CW0, hr0, hq0⟩ := HCV.out at_
    have HQ0 := Lib.hid hq0
    have e0 : ¬ ((n : Int) ≤ (at_ : Int)) := by omega
    have e00 : decide ((n : Int) ≤ (at_ : Int)) = false := decide_eq_false e0
    cases hbb : beginB (pg at_) with
    | false =>
      rw [if_neg (by simp)]
      have hbg := fun (W : World) (v : Value) (h : Byt W W.heap.size v (pg at_)) => rbegin_any h
      unfold BeginPost beginV headV at hbg
      rw [hbb] at hbg
      simp only [Bool.false_eq_true, if_false] at hbg
      have hbg0 := hbg _ _ (HQ0.out w).1.1
      generalize pg at_ = p0 at *
      clear hbb hbg hq0
      go_enter Try.func112, Try.ntmps112
      go_wp2_with fail
      refine hbg0.mono ?_
      rintro e w2 ⟨rfl, hb2⟩
      go_wp2_with (first
        | (go_at_call 54; (with_reducible refine (rneed_any _ _).mono ?_); rintro e w4 ⟨rfl, rfl⟩))
      go_ret2
      have hb1 := (HQ0.out w).2
      exact BatchPost.no (hb1.trans ((hb2.mono hb1.size).alloc (Nat.le_trans hb1.size hb2.size) _))
    | true =>
      obtain ⟨hn3, hn4, hn5⟩ := begin_need hbb
      have hsm := hdC_lt (pg at_)
      have hbg := fun (W : World) (v : Value) (h : Byt W W.heap.size v (pg at_)) => rbegin_any h
      unfold BeginPost beginV headV at hbg
      rw [hbb] at hbg
      simp only [if_true] at hbg
      have hbg0 := hbg _ _ (HQ0.out w).1.1
      generalize hdS (pg at_) = sq at *
      generalize hdL (pg at_) = ln at *
      generalize hdC (pg at_) = sm at *
      generalize needN ln = nd at *
      have HN5 := Lib.hid hn5
      have i0 : IntKind.i64.wrap ((n : Int) - (at_ : Int)) = (n : Int) - (at_ : Int) := by rw [IntKind.wrap_i64]; omega
      have hlp : (pg at_).length = (pg at_).length := rfl
      clear hbb hbg hn5 hlp hq0
      by_cases hsq : sq = seq
      · subst hsq
        by_cases hnd : nd ≤ n - at_
        · rw [if_pos ⟨rfl, rfl, hnd⟩]
          have e2 : decide ((n : Int) - (at_ : Int) < (nd : Int)) = false := decide_eq_false (by omega)
          have i5 : IntKind.i64.wrap ((at_ : Int) + (nd : Int)) = (at_ : Int) + (nd : Int) := by rw [IntKind.wrap_i64]; omega
          have i6 : IntKind.i64.wrap ((at_ : Int) + (nd : Int) - 1) = (at_ : Int) + (nd : Int) - 1 := by rw [IntKind.wrap_i64]; omega
          have i7 : IntKind.i64.wrap ((at_ : Int) + 1) = (at_ : Int) + 1 := by rw [IntKind.wrap_i64]; omega
          have hjo := fun (W : World) (v : Value) (h : Byts W W.heap.size v (midsR pg at_ nd)) => rjoin_any h sq ln sm hsm
          have hen := fun (W : World) (v : Value) (h : Byt W W.heap.size v (pg (at_ + nd - 1))) => rend_any h sq ln sm hsm
          unfold JoinPost at hjo
          unfold headV at hjo hen
          have hmt := midsR_take pg at_ nd
          have hml := midsR_len pg at_ nd
          generalize joinB (midsR pg at_ nd) sq ln sm = jb at *
          generalize joinL (midsR pg at_ nd) sq ln sm = J at *
          generalize endB (pg (at_ + nd - 1)) sq sm = eb at *
          generalize midsR pg at_ nd = M at *
          generalize hR : (if jb = true ∧ eb = true then (J, nd) else ([], 0)) = R
          have HR := Lib.hid hR
          have HJO := Lib.hid hjo
          have HEN := Lib.hid hen
          have HMT := Lib.hid hmt
          have HML := Lib.hid hml
          generalize pg at_ = p0 at *
          clear hR hjo hen hmt hml
          go_enter Try.func112, Try.ntmps112
          go_wp2_with fail
          refine hbg0.mono ?_
          rintro e w2 ⟨rfl, hb2⟩
          have hb1 := (HQ0.out w).2
          have hb02 := (hb1.trans (hb2.mono hb1.size)).alloc (Nat.le_trans hb1.size hb2.size) (.cells #[.int .i64 (sq : Int), .int .i64 (ln : Int), .int .u32 (sm : Int)] 81)
          have hhd := heap_alloc_new w2 (.cells #[.int .i64 (sq : Int), .int .i64 (ln : Int), .int .u32 (sm : Int)] 81 (0, 0))
          have HB02 := Lib.hid hb02
          have HHD := Lib.hid hhd
          have hwb := Nat.le_trans hb1.size hb2.size
          clear hhd hb1 hb2 hb02 hbg0 hc0
          go_wp2_with (first
            | (go_at_call 54; (with_reducible refine (rneed_any _ _).mono ?_); rintro e w4 ⟨rfl, rfl⟩; rw [← HN5.out]))
          generalize w2.heap.size = b2 at *
          go_loopg [11, 12] (nd - 2) (fun gk x11 x12 wr => ∃ k j : Nat, gk = nd - 2 - k ∧ k ≤ nd - 2 ∧ j = at_ + 1 + k ∧ x12 = .int .i64 (j : Int) ∧ OwB (fun _ => True) wr w.heap.size x11 (M.take k) ∧ wr.heap[b2]? = some (.cells #[.int .i64 (sq : Int), .int .i64 (ln : Int), .int .u32 (sm : Int)] 81 (0, 0)) ∧ Below w.heap.size w wr)
          case atStart => exact ⟨0, at_ + 1, rfl, Nat.zero_le _, rfl, by simp, OwB.nil_ _ _ _, HHD.out, HB02.out⟩
          case round =>
            obtain ⟨k, j, hgk, hk, hjk, rfl, ho, hx, hbel⟩ := hrel
            have HG := Lib.hid hgk
            have HO := Lib.hid ho
            have HX := Lib.hid hx
            have HBE := Lib.hid hbel
            have HJK := Lib.hid hjk
            have hwr := hbel.size
            clear hgk ho hx HB02 HHD
            by_cases h : k < nd - 2
            · have hcj := HCW.out wr hbel j (by omega)
              obtain ⟨C5, CW5, hr5, hq5⟩ := HCV.out j
              have i8 : (j : Int) < (at_ : Int) + (nd : Int) - 1 := by omega
              have i9 : IntKind.i64.wrap ((j : Int) + 1) = (j : Int) + 1 := by rw [IntKind.wrap_i64]; omega
              have i10 : (0 : Int) ≤ (j : Int) := by omega
              have i11 : (j : Int) < (n : Int) := by omega
              have htk := HMT.out k h
              rw [← hjk] at htk
              have HTK := Lib.hid htk
              generalize pg j = pj at *
              have hn5' := (hq5 wr).1
              have hb5 := (hq5 wr).2
              have HO5 := Lib.hid (HO.out.below hb5)
              have HN5' := Lib.hid hn5'
              have HB5 := Lib.hid (HBE.out.trans (hb5.mono hwr))
              have HX5 := Lib.hid ((hb5.block b2 (lt_of_block HX.out)).trans HX.out)
              have hw5 := HB5.out.size
              have HLN := Lib.hid (show (M.take k).length + 1 ≤ 1000000 by rw [List.length_take, HML.out]; omega)
              clear hq5 hn5' hb5 htk hjk hbel
              go_wp2_with ((with_reducible show wpList _ _ _ (⟨some 64, _, _, _, _, _⟩ :: _) _ _); go_must (refine wpList_append_one rfl (.tmp 57) (.tmp 63) rfl rfl HO5.out _ _ _ HN5'.out rfl HLN.out hw5 (fun _ _ => trivial) ?_); intro v' w' ho' hg' _; have HO' := Lib.hid ho'; clear ho')
              go_roundg (nd - 2 - (k + 1))
              case measure => have := HG.out; omega
              case rel =>
                refine ⟨k + 1, j + 1, rfl, by omega, by have := HJK.out; omega, by simp, by rw [HTK.out]; exact HO'.out, keepK (by decide) HX5.out HO5.out hg', ?_⟩
                obtain ⟨ts, o1, _, _⟩ := HO5.out
                exact HB5.out.grown hg' hw5 (fun k hk => (o1.lt k hk).1)
            · obtain rfl : k = nd - 2 := by omega
              rw [List.take_of_length_le (by rw [HML.out]; exact Nat.le_refl _)] at HO
              have i8 : ¬ ((j : Int) < (at_ : Int) + (nd : Int) - 1) := by omega
              have hj := HJO.out wr _ HO.out.byts
              have z0 := cells_of HX.out 0 _ rfl
              have z1 := cells_of HX.out 1 _ rfl
              have z2 := cells_of HX.out 2 _ rfl
              obtain ⟨je, hje⟩ : ∃ je : Nat, je = at_ + nd - 1 := ⟨_, rfl⟩
              clear hbel HG h hk HMT hjk HJK
              go_wp2_with fail
              refine hj.mono ?_
              rintro e w6 ⟨v6, rfl, hv6, hb6⟩
              have hx6 := fun (W : World) (hW : Below w6.drew.heap.size w6.drew W) => (show (W.cell? ⟨b2, 0, none⟩ = some (.int .i64 (sq : Int)) ∧ W.cell? ⟨b2, 1, none⟩ = some (.int .i64 (ln : Int)) ∧ W.cell? ⟨b2, 2, none⟩ = some (.int .u32 (sm : Int))) ∧ W.cell? (ad.add je) = some (.string (bsA (pg je))) ∧ BytN (fun b => w.heap.size ≤ b) W v6 J ∧ Below w.heap.size w W from by
                have hW6 : Below w6.heap.size w6 W := (Below.refl _ _).drew.trans hW
                have h6 := (hW6.block b2 (Nat.lt_of_lt_of_le (lt_of_block HX.out) hb6.size)).trans ((hb6.block b2 (lt_of_block HX.out)).trans HX.out)
                have hB := HBE.out.trans ((hb6.trans (hW6.mono hb6.size)).mono hwr)
                exact ⟨⟨cells_of h6 0 _ rfl, cells_of h6 1 _ rfl, cells_of h6 2 _ rfl⟩, HCW.out W hB je (by omega), (hv6.below hW6).mono (fun b h => Nat.le_trans hwr h), hB⟩)
              have HX6 := Lib.hid hx6
              obtain ⟨C7, CW7, hr7, hq7⟩ := HCV.out je
              have HQ7 := Lib.hid hq7
              have HE7 := Lib.hid (show ∀ (W : World) (v : Value), Byt W W.heap.size v (pg je) → _ from by rw [hje]; exact HEN.out)
              have i9 : (at_ : Int) + (nd : Int) - 1 = (je : Int) := by omega
              have HI9 := Lib.hid i9
              have i10 : (0 : Int) ≤ (je : Int) := by omega
              have i11 : (je : Int) < (n : Int) := by omega
              generalize pg je = pe at *
              clear z0 z1 z2 hj hx6 hb6 hv6 hq7 hje i9
              cases jb with
              | false =>
                have hR := HR.out
                rw [if_neg (by simp)] at hR
                subst hR
                go_wp2_with fail
                -- region no
                refine Q.wp_region_sp (by kernel_rfl) [isS (.bool false), isS (.bool true), isS (.bool true), anyS, anyS, anyS, anyS, anyS, anyS, anyS, anyS, anyS, anyS, anyS, isS (.bool true)] (by kernel_rfl) (by kernel_rfl) (fun i hi => ?_) (fun a w7 hc hs => ?_)
                · match i, hi with
                  | 0, _ =>
                    intro a W hc hd
                    have z14 := hc.same 14 (by kernel_rfl)
                    simp only [List.getElem?_toArray, List.getElem?_cons_succ, List.getElem?_cons_zero, Option.getD_some] at z14
                    refine obl_val rfl (wanted_none rfl) ?_ rfl
                    go_simp
                  | 1, _ =>
                    intro a W hc hd
                    have s0 : a.tmps[71]?.getD undef = (.bool false) := hd 0 (by kernel_rfl)
                    refine obl_val rfl (wanted_none rfl) ?_ rfl
                    go_simp
                  | 2, _ =>
                    intro a W hc hd
                    have s1 : a.tmps[72]?.getD undef = (.bool true) := hd 1 (by kernel_rfl)
                    refine obl_val rfl (wanted_none rfl) ?_ rfl
                    go_simp
                  | 3, _ =>
                    intro a W hc hd
                    have z0 := hc.same 0 (by kernel_rfl)
                    have s2 : a.tmps[73]?.getD undef = (.bool true) := hd 2 (by kernel_rfl)
                    simp only [List.getElem?_toArray, List.getElem?_cons_zero, Option.getD_some] at z0
                    exact obl_skip rfl (wanted_not rfl rfl s2) trivial
                  | 4, _ =>
                    intro a W hc hd
                    have z1 := hc.same 1 (by kernel_rfl)
                    have s2 : a.tmps[73]?.getD undef = (.bool true) := hd 2 (by kernel_rfl)
                    simp only [List.getElem?_toArray, List.getElem?_cons_succ, List.getElem?_cons_zero, Option.getD_some] at z1
                    exact obl_skip rfl (wanted_not rfl rfl s2) trivial
                  | 5, _ =>
                    intro a W hc hd
                    have z10 := hc.same 10 (by kernel_rfl)
                    have s2 : a.tmps[73]?.getD undef = (.bool true) := hd 2 (by kernel_rfl)
                    simp only [List.getElem?_toArray, List.getElem?_cons_succ, List.getElem?_cons_zero, Option.getD_some] at z10
                    exact obl_skip rfl (wanted_not rfl rfl s2) trivial
                  | 6, _ =>
                    intro a W hc hd
                    have s4 : (anyS).f (a.tmps[75]?.getD undef) W := hd 4 (by kernel_rfl)
                    have s5 : (anyS).f (a.tmps[76]?.getD undef) W := hd 5 (by kernel_rfl)
                    have s2 : a.tmps[73]?.getD undef = (.bool true) := hd 2 (by kernel_rfl)
                    exact obl_skip rfl (wanted_not rfl rfl s2) trivial
                  | 7, _ =>
                    intro a W hc hd
                    have s6 : (anyS).f (a.tmps[77]?.getD undef) W := hd 6 (by kernel_rfl)
                    have s2 : a.tmps[73]?.getD undef = (.bool true) := hd 2 (by kernel_rfl)
                    exact obl_skip rfl (wanted_not rfl rfl s2) trivial
                  | 8, _ =>
                    intro a W hc hd
                    have s3 : (anyS).f (a.tmps[74]?.getD undef) W := hd 3 (by kernel_rfl)
                    have s7 : (anyS).f (a.tmps[78]?.getD undef) W := hd 7 (by kernel_rfl)
                    have s2 : a.tmps[73]?.getD undef = (.bool true) := hd 2 (by kernel_rfl)
                    exact obl_skip rfl (wanted_not rfl rfl s2) trivial
                  | 9, _ =>
                    intro a W hc hd
                    have s8 : (anyS).f (a.tmps[79]?.getD undef) W := hd 8 (by kernel_rfl)
                    have s2 : a.tmps[73]?.getD undef = (.bool true) := hd 2 (by kernel_rfl)
                    exact obl_skip rfl (wanted_not rfl rfl s2) trivial
                  | 10, _ =>
                    intro a W hc hd
                    have s9 : (anyS).f (a.tmps[80]?.getD undef) W := hd 9 (by kernel_rfl)
                    have s2 : a.tmps[73]?.getD undef = (.bool true) := hd 2 (by kernel_rfl)
                    exact obl_skip rfl (wanted_not rfl rfl s2) trivial
                  | 11, _ =>
                    intro a W hc hd
                    have z8 := hc.same 8 (by kernel_rfl)
                    have s2 : a.tmps[73]?.getD undef = (.bool true) := hd 2 (by kernel_rfl)
                    simp only [List.getElem?_toArray, List.getElem?_cons_succ, List.getElem?_cons_zero, Option.getD_some] at z8
                    exact obl_skip rfl (wanted_not rfl rfl s2) trivial
                  | 12, _ =>
                    intro a W hc hd
                    have s10 : (anyS).f (a.tmps[81]?.getD undef) W := hd 10 (by kernel_rfl)
                    have s11 : (anyS).f (a.tmps[82]?.getD undef) W := hd 11 (by kernel_rfl)
                    have s2 : a.tmps[73]?.getD undef = (.bool true) := hd 2 (by kernel_rfl)
                    exact obl_skip rfl (wanted_not rfl rfl s2) trivial
                  | 13, _ =>
                    intro a W hc hd
                    have s12 : (anyS).f (a.tmps[83]?.getD undef) W := hd 12 (by kernel_rfl)
                    have s2 : a.tmps[73]?.getD undef = (.bool true) := hd 2 (by kernel_rfl)
                    exact obl_skip rfl (wanted_not rfl rfl s2) trivial
                  | 14, _ =>
                    intro a W hc hd
                    have s2 : a.tmps[73]?.getD undef = (.bool true) := hd 2 (by kernel_rfl)
                    have s13 : (anyS).f (a.tmps[84]?.getD undef) W := hd 13 (by kernel_rfl)
                    refine obl_val rfl (wanted_none rfl) ?_ rfl
                    go_simp
                  | n + 15, h => exact absurd h (by simp)
                · skip
                  have hfr := grow_frame hc [(71, (.bool false)), (72, (.bool true)), (73, (.bool true)), (74, a.tmps[74]?.getD undef), (75, a.tmps[75]?.getD undef), (76, a.tmps[76]?.getD undef), (77, a.tmps[77]?.getD undef), (78, a.tmps[78]?.getD undef), (79, a.tmps[79]?.getD undef), (80, a.tmps[80]?.getD undef), (81, a.tmps[81]?.getD undef), (82, a.tmps[82]?.getD undef), (83, a.tmps[83]?.getD undef), (84, a.tmps[84]?.getD undef), (85, (.bool true))] (by kernel_rfl) (fun p hp => by
                      simp only [List.mem_cons, List.not_mem_nil, or_false] at hp
                      rcases hp with rfl | rfl | rfl | rfl | rfl | rfl | rfl | rfl | rfl | rfl | rfl | rfl | rfl | rfl | rfl
                      · exact hs 0 71 (by decide) (by kernel_rfl)
                      · exact hs 1 72 (by decide) (by kernel_rfl)
                      · exact hs 2 73 (by decide) (by kernel_rfl)
                      · rfl
                      · rfl
                      · rfl
                      · rfl
                      · rfl
                      · rfl
                      · rfl
                      · rfl
                      · rfl
                      · rfl
                      · rfl
                      · exact hs 14 85 (by decide) (by kernel_rfl)
                      )
                  generalize a.tmps[74]?.getD undef = z74 at hfr
                  generalize a.tmps[75]?.getD undef = z75 at hfr
                  generalize a.tmps[76]?.getD undef = z76 at hfr
                  generalize a.tmps[77]?.getD undef = z77 at hfr
                  generalize a.tmps[78]?.getD undef = z78 at hfr
                  generalize a.tmps[79]?.getD undef = z79 at hfr
                  generalize a.tmps[80]?.getD undef = z80 at hfr
                  generalize a.tmps[81]?.getD undef = z81 at hfr
                  generalize a.tmps[82]?.getD undef = z82 at hfr
                  generalize a.tmps[83]?.getD undef = z83 at hfr
                  generalize a.tmps[84]?.getD undef = z84 at hfr
                  simp only [List.range, List.range.loop, List.size_toArray, List.length_cons, List.length_nil, List.map_cons, List.map_nil, List.lookup_cons, List.lookup_nil, Nat.reduceAdd, Nat.reduceBEq, Option.getD_some, Option.getD_none, List.getElem?_toArray, List.getElem?_cons_succ, List.getElem?_cons_zero] at hfr
                  subst hfr
                -- end no
                  go_wp2
                  go_ret2
                  exact BatchPost.no ((HX6.out w7 hc.below).2.2.2)
              | true =>
                go_wp2_with fail
                -- region yes
                refine Q.wp_region_sp (by kernel_rfl) [isS (.bool true), isS (.bool false), isS (.bool false), isS (.slice (some ad) n c), isS (.int .i64 (at_ : Int)), isS (.int .i64 (nd : Int)), isS (.int .i64 ((at_ : Int) + (nd : Int))), isS (.int .i64 (je : Int)), isS (.pointer (some (ad.add je))), isS (.string (bsA pe)), bytS pe, isS (.agg #[.int .i64 (sq : Int), .int .i64 (ln : Int), .int .u32 (sm : Int)]), isS (.bool eb), isS (.bool (!eb)), isS (.bool (!eb))] (by kernel_rfl) (by kernel_rfl) (fun i hi => ?_) (fun a w7 hc hs => ?_)
                · match i, hi with
                  | 0, _ =>
                    intro a W hc hd
                    have z14 := hc.same 14 (by kernel_rfl)
                    simp only [List.getElem?_toArray, List.getElem?_cons_succ, List.getElem?_cons_zero, Option.getD_some] at z14
                    refine obl_val rfl (wanted_none rfl) ?_ rfl
                    go_simp
                  | 1, _ =>
                    intro a W hc hd
                    have s0 : a.tmps[71]?.getD undef = (.bool true) := hd 0 (by kernel_rfl)
                    refine obl_val rfl (wanted_none rfl) ?_ rfl
                    go_simp
                  | 2, _ =>
                    intro a W hc hd
                    have s1 : a.tmps[72]?.getD undef = (.bool false) := hd 1 (by kernel_rfl)
                    refine obl_val rfl (wanted_none rfl) ?_ rfl
                    go_simp
                  | 3, _ =>
                    intro a W hc hd
                    have z0 := hc.same 0 (by kernel_rfl)
                    have s2 : a.tmps[73]?.getD undef = (.bool false) := hd 2 (by kernel_rfl)
                    simp only [List.getElem?_toArray, List.getElem?_cons_zero, Option.getD_some] at z0
                    refine obl_val rfl (wanted_some rfl rfl s2) ?_ rfl
                    go_simp
                  | 4, _ =>
                    intro a W hc hd
                    have z1 := hc.same 1 (by kernel_rfl)
                    have s2 : a.tmps[73]?.getD undef = (.bool false) := hd 2 (by kernel_rfl)
                    simp only [List.getElem?_toArray, List.getElem?_cons_succ, List.getElem?_cons_zero, Option.getD_some] at z1
                    refine obl_val rfl (wanted_some rfl rfl s2) ?_ rfl
                    go_simp
                  | 5, _ =>
                    intro a W hc hd
                    have z10 := hc.same 10 (by kernel_rfl)
                    have s2 : a.tmps[73]?.getD undef = (.bool false) := hd 2 (by kernel_rfl)
                    simp only [List.getElem?_toArray, List.getElem?_cons_succ, List.getElem?_cons_zero, Option.getD_some] at z10
                    refine obl_val rfl (wanted_some rfl rfl s2) ?_ rfl
                    go_simp
                  | 6, _ =>
                    intro a W hc hd
                    have s4 : a.tmps[75]?.getD undef = (.int .i64 (at_ : Int)) := hd 4 (by kernel_rfl)
                    have s5 : a.tmps[76]?.getD undef = (.int .i64 (nd : Int)) := hd 5 (by kernel_rfl)
                    have s2 : a.tmps[73]?.getD undef = (.bool false) := hd 2 (by kernel_rfl)
                    refine obl_val rfl (wanted_some rfl rfl s2) ?_ rfl
                    go_simp
                  | 7, _ =>
                    intro a W hc hd
                    have s6 : a.tmps[77]?.getD undef = (.int .i64 ((at_ : Int) + (nd : Int))) := hd 6 (by kernel_rfl)
                    have s2 : a.tmps[73]?.getD undef = (.bool false) := hd 2 (by kernel_rfl)
                    refine obl_val rfl (wanted_some rfl rfl s2) (v := .int .i64 ((at_ : Int) + (nd : Int) - 1)) ?_ (by rw [HI9.out]; rfl)
                    go_simp
                  | 8, _ =>
                    intro a W hc hd
                    have s3 : a.tmps[74]?.getD undef = (.slice (some ad) n c) := hd 3 (by kernel_rfl)
                    have s7 : a.tmps[78]?.getD undef = (.int .i64 (je : Int)) := hd 7 (by kernel_rfl)
                    have s2 : a.tmps[73]?.getD undef = (.bool false) := hd 2 (by kernel_rfl)
                    refine obl_val rfl (wanted_some rfl rfl s2) ?_ rfl
                    go_simp
                  | 9, _ =>
                    intro a W hc hd
                    have s8 : a.tmps[79]?.getD undef = (.pointer (some (ad.add je))) := hd 8 (by kernel_rfl)
                    have s2 : a.tmps[73]?.getD undef = (.bool false) := hd 2 (by kernel_rfl)
                    obtain ⟨⟨y0, y1, y2⟩, qc, qv, qb⟩ := HX6.out W hc.below
                    refine obl_val rfl (wanted_some rfl rfl s2) ?_ rfl
                    go_simp
                  | 10, _ =>
                    intro a W hc hd
                    have s9 : a.tmps[80]?.getD undef = (.string (bsA pe)) := hd 9 (by kernel_rfl)
                    have s2 : a.tmps[73]?.getD undef = (.bool false) := hd 2 (by kernel_rfl)
                    exact obl_grow rfl (wanted_some rfl rfl s2) (v := .slice (some ⟨W.heap.size, 0, none⟩) pe.length (C7 W)) (w' := CW7 W) (exec_convg rfl (by rw [eval_tmp s9]; exact hr7 W)) (HQ7.out W).1.1 (HQ7.out W).2
                  | 11, _ =>
                    intro a W hc hd
                    have z8 := hc.same 8 (by kernel_rfl)
                    have s2 : a.tmps[73]?.getD undef = (.bool false) := hd 2 (by kernel_rfl)
                    simp only [List.getElem?_toArray, List.getElem?_cons_succ, List.getElem?_cons_zero, Option.getD_some] at z8
                    obtain ⟨⟨y0, y1, y2⟩, qc, qv, qb⟩ := HX6.out W hc.below
                    refine obl_val rfl (wanted_some rfl rfl s2) ?_ rfl
                    go_simp
                  | 12, _ =>
                    intro a W hc hd
                    have s10 : (bytS pe).f (a.tmps[81]?.getD undef) W := hd 10 (by kernel_rfl)
                    have s11 : a.tmps[82]?.getD undef = (.agg #[.int .i64 (sq : Int), .int .i64 (ln : Int), .int .u32 (sm : Int)]) := hd 11 (by kernel_rfl)
                    have s2 : a.tmps[73]?.getD undef = (.bool false) := hd 2 (by kernel_rfl)
                    refine obl_call rfl (wanted_some rfl rfl s2) (by go_simp) (HE7.out W _ s10) ?_
                    rintro e w8 ⟨rfl, hb8⟩
                    exact ⟨_, rfl, rfl, hb8⟩
                  | 13, _ =>
                    intro a W hc hd
                    have s12 : a.tmps[83]?.getD undef = (.bool eb) := hd 12 (by kernel_rfl)
                    have s2 : a.tmps[73]?.getD undef = (.bool false) := hd 2 (by kernel_rfl)
                    refine obl_val rfl (wanted_some rfl rfl s2) ?_ rfl
                    go_simp
                  | 14, _ =>
                    intro a W hc hd
                    have s2 : a.tmps[73]?.getD undef = (.bool false) := hd 2 (by kernel_rfl)
                    have s13 : a.tmps[84]?.getD undef = (.bool (!eb)) := hd 13 (by kernel_rfl)
                    refine obl_val rfl (wanted_none rfl) ?_ rfl
                    go_simp
                  | n + 15, h => exact absurd h (by simp)
                · skip
                  have hfr := grow_frame hc [(71, (.bool true)), (72, (.bool false)), (73, (.bool false)), (74, (.slice (some ad) n c)), (75, (.int .i64 (at_ : Int))), (76, (.int .i64 (nd : Int))), (77, (.int .i64 ((at_ : Int) + (nd : Int)))), (78, (.int .i64 (je : Int))), (79, (.pointer (some (ad.add je)))), (80, (.string (bsA pe))), (81, a.tmps[81]?.getD undef), (82, (.agg #[.int .i64 (sq : Int), .int .i64 (ln : Int), .int .u32 (sm : Int)])), (83, (.bool eb)), (84, (.bool (!eb))), (85, (.bool (!eb)))] (by kernel_rfl) (fun p hp => by
                      simp only [List.mem_cons, List.not_mem_nil, or_false] at hp
                      rcases hp with rfl | rfl | rfl | rfl | rfl | rfl | rfl | rfl | rfl | rfl | rfl | rfl | rfl | rfl | rfl
                      · exact hs 0 71 (by decide) (by kernel_rfl)
                      · exact hs 1 72 (by decide) (by kernel_rfl)
                      · exact hs 2 73 (by decide) (by kernel_rfl)
                      · exact hs 3 74 (by decide) (by kernel_rfl)
                      · exact hs 4 75 (by decide) (by kernel_rfl)
                      · exact hs 5 76 (by decide) (by kernel_rfl)
                      · exact hs 6 77 (by decide) (by kernel_rfl)
                      · exact hs 7 78 (by decide) (by kernel_rfl)
                      · exact hs 8 79 (by decide) (by kernel_rfl)
                      · exact hs 9 80 (by decide) (by kernel_rfl)
                      · rfl
                      · exact hs 11 82 (by decide) (by kernel_rfl)
                      · exact hs 12 83 (by decide) (by kernel_rfl)
                      · exact hs 13 84 (by decide) (by kernel_rfl)
                      · exact hs 14 85 (by decide) (by kernel_rfl)
                      )
                  generalize a.tmps[81]?.getD undef = z81 at hfr
                  simp only [List.range, List.range.loop, List.size_toArray, List.length_cons, List.length_nil, List.map_cons, List.map_nil, List.lookup_cons, List.lookup_nil, Nat.reduceAdd, Nat.reduceBEq, Option.getD_some, Option.getD_none, List.getElem?_toArray, List.getElem?_cons_succ, List.getElem?_cons_zero] at hfr
                  subst hfr
                -- end yes
                  cases eb with
                  | false =>
                    have hR := HR.out
                    rw [if_neg (by simp)] at hR
                    subst hR
                    go_wp2
                    go_ret2
                    exact BatchPost.no ((HX6.out w7 hc.below).2.2.2)
                  | true =>
                    have hR := HR.out
                    rw [if_pos (by simp)] at hR
                    subst hR
                    go_wp2
                    go_ret2
                    exact ⟨v6, rfl, (HX6.out w7 hc.below).2.2.1, (HX6.out w7 hc.below).2.2.2⟩
        · rw [if_neg (by simp; omega)]
          have e2 : decide ((n : Int) - (at_ : Int) < (nd : Int)) = true := decide_eq_true (by omega)
          generalize pg at_ = p0 at *
          clear hnd
          go_enter Try.func112, Try.ntmps112
          go_wp2_with fail
          refine hbg0.mono ?_
          rintro e w2 ⟨rfl, hb2⟩
          go_wp2_with (first
            | (go_at_call 54; (with_reducible refine (rneed_any _ _).mono ?_); rintro e w4 ⟨rfl, rfl⟩; rw [← HN5.out]))
          go_ret2
          have hb1 := (HQ0.out w).2
          exact BatchPost.no (hb1.trans ((hb2.mono hb1.size).alloc (Nat.le_trans hb1.size hb2.size) _))
      · rw [if_neg (by simp [hsq])]
        have e1 : ((sq : Int) == (seq : Int)) = false := by rw [beq_eq_false_iff_ne]; omega
        have e2 : ((sq : Int) != (seq : Int)) = true := by simp [e1, bne]
        generalize pg at_ = p0 at *
        clear hsq
        go_enter Try.func112, Try.ntmps112
        go_wp2_with fail
        refine hbg0.mono ?_
        rintro e w2 ⟨rfl, hb2⟩
        go_wp2_with (first
          | (go_at_call 54; (with_reducible refine (rneed_any _ _).mono ?_); rintro e w4 ⟨rfl, rfl⟩; rw [← HN5.out]))
        go_ret2
        have hb1 := (HQ0.out w).2
        exact BatchPost.no (hb1.trans ((hb2.mono hb1.size).alloc (Nat.le_trans hb1.size hb2.size) _))
  · rw [batchR_out _ _ _ _ (by omega)]
    obtain ⟨A, c, rfl, hc, hm, _⟩ := hs
    rw [pagesS_len]
    have e0 : decide ((n : Int) ≤ (at_ : Int)) = true := decide_eq_true (by omega)
    go_enter Try.func112, Try.ntmps112
    go_wp2
    go_ret2
    exact BatchPost.no (Below.refl _ _)
end Go.Proofs.Ytmcjefdnkcpghaa
/- WHAT STANDS ON A DISK: plainly, and the document's walk. -/
namespace Go.Proofs.Ytmcjefdnkcpghaa
open Go.RowKit
theorem batchR_pos {pg : Nat → List UInt8} {n at_ seq : Nat} (h : 0 < (batchR pg n at_ seq).2) : 3 ≤ (batchR pg n at_ seq).2 ∧ at_ + (batchR pg n at_ seq).2 ≤ n := by
  unfold batchR at h ⊢
  split at h
  · next h1 =>
    rw [if_pos h1]
    split at h
    · next h2 =>
      rw [if_pos h2]
      have := (begin_need h1.1).1
      have h3 := h1.2.2
      simp only
      omega
    · simp at h
  · simp at h
def findW (pg : Nat → List UInt8) (n at_ : Nat) (l : List (List UInt8)) : List (List UInt8) × Nat :=
  if 0 < (batchR pg n at_ (l.length + 1)).2 ∧ at_ < n then findW pg n (at_ + (batchR pg n at_ (l.length + 1)).2) (l ++ [(batchR pg n at_ (l.length + 1)).1]) else (l, at_)
termination_by n - at_
decreasing_by omega
theorem findW_more {pg : Nat → List UInt8} {n at_ : Nat} {l : List (List UInt8)} (h : 0 < (batchR pg n at_ (l.length + 1)).2) : findW pg n at_ l = findW pg n (at_ + (batchR pg n at_ (l.length + 1)).2) (l ++ [(batchR pg n at_ (l.length + 1)).1]) := by
  have := batchR_pos h
  rw [findW, if_pos ⟨h, by omega⟩]
theorem findW_stop {pg : Nat → List UInt8} {n at_ : Nat} {l : List (List UInt8)} (h : ¬ 0 < (batchR pg n at_ (l.length + 1)).2) : findW pg n at_ l = (l, at_) := by
  rw [findW, if_neg (fun e => h e.1)]
def FindPost (w : World) (F : List (List UInt8) × Nat) (e : Ending) (w' : World) : Prop := ∃ v, e = .returned (.tuple #[v, .int .i64 (F.2 : Int)]) ∧ OwB (fun b => w.heap.size ≤ b) w' w.heap.size v F.1 ∧ Below w.heap.size w w'
set_option maxRecDepth 100000 in
set_option maxHeartbeats 4000000 in
theorem rfind_any {w : World} {B : Nat} {v : Value} {L : List UInt8} {n : Nat} (hs : Sl strK w B v (pagesS L n)) (hn2 : n ≤ 4096) :
    Calls Try.prog 71 #[v] w (FindPost w (findW (page L) n 0 [])) := by
  have hba := fun (W : World) (hW : Below w.heap.size w W) (at_ : Nat) (hat : at_ ≤ 5000) (seq : Nat) => rbatch_any (hs.heap.below hW) hn2 at_ hat seq
  have hp := fun at_ seq => @batchR_pos (page L) n at_ seq
  have hfm := fun at_ l => @findW_more (page L) n at_ l
  have hfs := fun at_ l => @findW_stop (page L) n at_ l
  have hba0 := hba w (Below.refl _ _) 0 (by omega) 1
  generalize hF : findW (page L) n 0 [] = F
  have hFF : findW (page L) n 0 [] = F := hF
  generalize page L = pg at *
  have HBA := Lib.hid hba
  have HP := Lib.hid hp
  have HFM := Lib.hid hfm
  have HFS := Lib.hid hfs
  have HF := Lib.hid hF
  unfold BatchPost at hba0
  clear hba hp hfm hfs hF hFF
  go_enter Try.func71, Try.ntmps71
  go_wp2_with fail
  refine hba0.mono ?_
  rintro e w1 ⟨v1, rfl, hv1, hb1⟩
  have HV1 := Lib.hid hv1
  clear hba0 hv1
  generalize hB1 : batchR pg n 0 1 = b1 at *
  have HB1 := Lib.hid hB1
  clear hB1
  go_wp2
  go_loopg [4, 5, 6, 7] n (fun gk x4 x5 x6 x7 wr => ∃ (l : List (List UInt8)) (at_ : Nat) (bt : List UInt8 × Nat), gk = n - at_ ∧ at_ ≤ n ∧ 3 * l.length ≤ at_ ∧ x5 = .int .i64 (at_ : Int) ∧ OwB (fun b => w.heap.size ≤ b) wr w.heap.size x4 l ∧ findW pg n at_ l = F ∧ batchR pg n at_ (l.length + 1) = bt ∧ x7 = .int .i64 (bt.2 : Int) ∧ BytN (fun b => w.heap.size ≤ b) wr x6 bt.1 ∧ Below w.heap.size w wr)
  case atStart => exact ⟨[], 0, b1, rfl, Nat.zero_le _, Nat.le_refl _, rfl, OwB.nil_ _ _ _, HF.out, HB1.out, rfl, HV1.out, hb1⟩
  case round =>
    obtain ⟨l, at_, bt, hgk, hat, h3, rfl, ho, hf, hbt, rfl, hbn, hbel⟩ := hrel
    have HG := Lib.hid hgk
    have HO := Lib.hid ho
    have HFI := Lib.hid hf
    have HBT := Lib.hid hbt
    have HBE := Lib.hid hbel
    have hwr := hbel.size
    clear hgk ho hf hbt HV1 HB1 HF
    by_cases h : 0 < bt.2
    · obtain ⟨hq1, hq2⟩ := HP.out at_ (l.length + 1) (by rw [HBT.out]; exact h)
      rw [HBT.out] at hq1 hq2
      have hfm := HFM.out at_ l (by rw [HBT.out]; exact h)
      rw [HFI.out, HBT.out] at hfm
      have HFN := Lib.hid hfm
      obtain ⟨A6, c6, rfl, hc6, hm6, _⟩ := id hbn.1
      have HBN := Lib.hid hbn
      unfold maxLen at hm6
      obtain ⟨bb, bn⟩ := bt
      simp only at *
      have HLN := Lib.hid (show l.length + 1 ≤ 1000000 by omega)
      have i9 : IntKind.i64.wrap ((at_ : Int) + (bn : Int)) = (at_ : Int) + (bn : Int) := by rw [IntKind.wrap_i64]; omega
      have i10 : IntKind.i64.wrap ((l.length : Int) + 1 + 1) = (l.length : Int) + 1 + 1 := by rw [IntKind.wrap_i64]; omega
      have i11 : (0 : Int) < (bn : Int) := by omega
      clear hfm hbn hbel
      go_wp2_with ((with_reducible show wpList _ _ _ (⟨some 18, _, _, _, _, _⟩ :: _) _ _); go_must (refine wpList_append_one rfl (.tmp 15) (.tmp 17) rfl rfl HO.out A6 _ c6 HBN.out rfl HLN.out hwr (fun b hb => Nat.le_trans hwr hb) ?_); intro v' w' ho' hg' _; obtain ⟨A', n', c', rfl, hn'⟩ := ho'.form; rw [List.length_append, List.length_singleton] at hn'; subst hn'; have HO' := Lib.hid ho'; clear ho')
      have hB' : Below w.heap.size w w' := by
        obtain ⟨ts, o1, _, _⟩ := HO.out
        exact HBE.out.grown hg' hwr (fun k hk => (o1.lt k hk).1)
      have hbn := HBA.out w' hB' (at_ + bn) (by omega) (l.length + 1 + 1)
      rw [show ((at_ + bn : Nat) : Int) = (at_ : Int) + (bn : Int) by omega, show ((l.length + 1 + 1 : Nat) : Int) = (l.length : Int) + 1 + 1 by omega] at hbn
      have HB' := Lib.hid hB'
      generalize hb2 : batchR pg n (at_ + bn) (l.length + 1 + 1) = b2 at *
      have HB2 := Lib.hid hb2
      unfold BatchPost at hbn
      clear hB' hb2 hg'
      refine hbn.mono ?_
      rintro e w3 ⟨v3, rfl, hv3, hb3⟩
      have HV3 := Lib.hid hv3
      clear hbn hv3
      have hs' := HB'.out.size
      go_wp2
      go_roundg (n - (at_ + bn))
      case measure => have := HG.out; omega
      case rel =>
        exact ⟨l ++ [bb], at_ + bn, b2, rfl, hq2, by rw [List.length_append, List.length_singleton]; omega, by simp, HO'.out.below hb3, HFN.out.symm, by rw [List.length_append, List.length_singleton]; exact HB2.out, rfl, HV3.out.mono (fun b hb => Nat.le_trans hs' hb), HB'.out.trans (hb3.mono hs')⟩
    · have hfs := HFS.out at_ l (by rw [HBT.out]; exact h)
      rw [HFI.out] at hfs
      subst hfs
      have i11 : ¬ ((0 : Int) < (bt.2 : Int)) := by omega
      clear hbn hbel
      go_wp2
      go_ret2
      exact ⟨_, rfl, HO.out, HBE.out⟩
end Go.Proofs.Ytmcjefdnkcpghaa
/- WHAT STANDS ON A DISK: the scanner's walk. -/
namespace Go.Proofs.Ytmcjefdnkcpghaa
open Go.RowKit
def SFindPost (w : World) (F : List (List UInt8) × Nat) (e : Ending) (w' : World) : Prop := ∃ v, e = .returned (.tuple #[v, .int .i64 (F.2 : Int), .int .i64 0]) ∧ OwB (fun b => w.heap.size ≤ b) w' w.heap.size v F.1 ∧ Below w.heap.size w w'
theorem wp_skip_seq2 {P : Program} {a : Act} {w : World} {Q : Exit → Act → World → Prop} {c : Code} (h : c.wp P Q a w) : (Code.skip.seq c).wp P Q a w := wp_seq (wp_skip h)
theorem wp_scope_label2 {P : Program} {a : Act} {w : World} {Q : Exit → Act → World → Prop} {c rest X : Code} (l : Nat) (J : Act → World → Prop) (μ : Act → World → Nat) (hf : findLabel c l = some rest)
    (hX : ∀ Q' a w, X.wp P Q' a w → rest.wp P Q' a w)
    (first : Hid (∀ a w, J a w → X.wp P (Exit.jump l J Q) a w) → c.wp P (Exit.jump l J Q) a w) (pass : ∀ a w, J a w → X.wp P (Exit.jump l (fun a' w' => J a' w' ∧ μ a' w' < μ a w) Q) a w) : (Code.scope c).wp P Q a w := by
  refine wp_scope_jumps l J μ hf (first (Lib.hid fun a w h0 => Code.wp_mono (fun e a' w' h => ?_) (pass a w h0))) fun a w h => hX _ _ _ (pass a w h)
  cases e <;> first | exact h | exact ⟨h.1, h.2.1⟩
def intV : Value → Int
  | .int _ n => n
  | _ => 0
-- J
def FindJ (g b n : Nat) (pg : Nat → List UInt8) (F : List (List UInt8) × Nat) (w : World) (a' : Act) (w' : World) : Prop :=
  ∃ (l : List (List UInt8)) (at_ : Nat) (x2 : Value) (u6 u7 u8 u9 u10 u11 u12 u13 u14 u15 u16 u17 u18 u19 u20 u21 u22 u23 u24 u25 u26 u27 u28 u29 u30 u31 u32 u33 u34 u35 u36 u37 u38 u39 u40 u41 u42 u43 u44 u45 u46 u47 u48 u49 u50 u51 u52 u53 u54 u55 u56 : Value), at_ ≤ n ∧ 3 * l.length ≤ at_ ∧ OwB (fun b => w.heap.size ≤ b) w' w.heap.size x2 l ∧ findW pg n at_ l = F ∧ w'.heap[b]? = some (.cells #[.pointer (some ⟨g, 0, none⟩), .int .i64 0] 157 (0, 0)) ∧ Below w.heap.size w w' ∧
    a' = { tmps := #[.pointer (some ⟨g, 0, none⟩), undef, x2, .int .i64 (at_ : Int), .int .i64 0, .pointer (some ⟨b, 0, none⟩), u6, u7, u8, u9, u10, u11, u12, u13, u14, u15, u16, u17, u18, u19, u20, u21, u22, u23, u24, u25, u26, u27, u28, u29, u30, u31, u32, u33, u34, u35, u36, u37, u38, u39, u40, u41, u42, u43, u44, u45, u46, u47, u48, u49, u50, u51, u52, u53, u54, u55, u56], defers := [] }
-- end J
set_option maxRecDepth 100000 in
set_option maxHeartbeats 4000000 in
theorem sfind_any {w : World} {Z : Nat → Prop} {g : Nat} {d : Dv} (h : Dk w Z g d) (hd : d.dead = false) :
    Calls Try.prog 67 #[.pointer (some ⟨g, 0, none⟩)] w (SFindPost w (findW (page d.L) d.n 0 [])) := by
  have hbel0 : ∀ o, Below w.heap.size w (w.alloc o) := fun o => (Below.refl _ _).alloc (Nat.le_refl _) o
  have hp0 := page_ok (h.below (hbel0 (.cells #[.pointer (some ⟨g, 0, none⟩), .int .i64 0] 157))) (heap_alloc_new w _) hd 0 (by have := h.ok.n1; omega)
  have hba := fun (W : World) (hW : Below w.heap.size w W) (hbx : W.heap[w.heap.size]? = some (.cells #[.pointer (some ⟨g, 0, none⟩), .int .i64 0] 157 (0, 0))) (at_ : Nat) (hat : at_ < d.n) (seq : Nat) => batch_any (h.below hW) hbx hd at_ hat seq
  have hsl := fun (W : World) (hW : Below w.heap.size w W) => slen_any (h.below hW)
  have hp := fun at_ seq => @batchR_pos (page d.L) d.n at_ seq
  have hfm := fun at_ l => @findW_more (page d.L) d.n at_ l
  have hfs := fun at_ l => @findW_stop (page d.L) d.n at_ l
  have hbo := fun at_ seq => batchR_out (page d.L) d.n at_ seq
  have hn2 := h.ok.n2
  generalize hF : findW (page d.L) d.n 0 [] = F
  have HF := Lib.hid hF
  generalize page d.L = pg at *
  generalize d.n = n at *
  have HBA := Lib.hid hba
  have HSL := Lib.hid hsl
  have HP := Lib.hid hp
  have HFM := Lib.hid hfm
  have HFS := Lib.hid hfs
  have HBO := Lib.hid hbo
  have HB0 := Lib.hid hbel0
  clear hba hsl hp hfm hfs hbo hF h hbel0
  have hbd : ∀ W, (Instr.build 157 #[(0, .pointer (some ⟨g, 0, none⟩))]).run Try.prog W = .ok (.agg #[.pointer (some ⟨g, 0, none⟩), .int .i64 0]) W := fun W => run_build W 157 _ _ (by rfl)
  go_enter Try.func67, Try.ntmps67
  go_wp2_with fail
  refine wp_scope_label2 0 (FindJ g w.heap.size n pg F w) (fun a' _ => n - (intV (a'.tmps.getD 3 undef)).toNat) rfl (fun _ _ _ h => wp_skip_seq2 h) (fun hp => ?_) ?_
  · go_wp2_with fail
    refine hp0.mono ?_
    rintro e w1 ⟨r, rfl, hr1, hb1⟩
    have hs1 := hb1.size
    simp only [World.size_alloc] at hs1
    have hbx := (hb1.block w.heap.size (by simp)).trans (heap_alloc_new w _)
    have HBX := Lib.hid hbx
    have HB1 := Lib.hid ((HB0.out _).trans (hb1.mono (by simp)))
    clear hp0 hr1 hb1 hbx
    go_wp2_with fail
    go_step3
    rename_i K' hK'
    exact hK' _ _ (hp.out _ _ ⟨[], 0, _, _, _, _, _, _, _, _, _, _, _, _, _, _, _, _, _, _, _, _, _, _, _, _, _, _, _, _, _, _, _, _, _, _, _, _, _, _, _, _, _, _, _, _, _, _, _, _, _, _, _, _, Nat.zero_le _, Nat.le_refl _, OwB.nil_ _ _ _, HF.out, HBX.out, HB1.out, rfl⟩)
  rintro a' wr ⟨l, at_, x2, u6, u7, u8, u9, u10, u11, u12, u13, u14, u15, u16, u17, u18, u19, u20, u21, u22, u23, u24, u25, u26, u27, u28, u29, u30, u31, u32, u33, u34, u35, u36, u37, u38, u39, u40, u41, u42, u43, u44, u45, u46, u47, u48, u49, u50, u51, u52, u53, u54, u55, u56, hat, h3, ho, hf, hbx, hbel, rfl⟩
  have HO := Lib.hid ho
  have HFI := Lib.hid hf
  have HBX := Lib.hid hbx
  have HBE := Lib.hid hbel
  have hwr := hbel.size
  obtain ⟨A2, n2, c2, rfl, hn2'⟩ := ho.form
  subst hn2'
  have hsl := HSL.out wr hbel
  have x1 := cells_of hbx 1 _ rfl
  clear ho hf hbx hp0 HF
  by_cases h : at_ < n
  · have hb := HBA.out wr hbel HBX.out at_ h (l.length + 1)
    have hq := HP.out at_ (l.length + 1)
    have hfm := HFM.out at_ l
    have hfs := HFS.out at_ l
    rw [HFI.out] at hfm hfs
    have HQ := Lib.hid hq
    have HM := Lib.hid hfm
    have HS := Lib.hid hfs
    rw [show ((l.length + 1 : Nat) : Int) = (l.length : Int) + 1 by omega] at hb
    have i1 : (at_ : Int) < (n : Int) := by omega
    have i2 : IntKind.i64.wrap ((l.length : Int) + 1) = (l.length : Int) + 1 := by rw [IntKind.wrap_i64]; omega
    unfold BatchPost at hb
    generalize batchR pg n at_ (l.length + 1) = bt at *
    obtain ⟨bb, bn⟩ := bt
    simp only at *
    clear hq hfm hfs hbel
    go_wp2_with ((go_at_call 94); refine hsl.mono ?_; rintro e w3 ⟨rfl, rfl⟩)
    refine hb.mono ?_
    rintro e w4 ⟨v4, rfl, hv4, hb4⟩
    have HB4 := Lib.hid (HBE.out.trans (hb4.mono hwr))
    have hw4 := HB4.out.size
    have HBX4 := Lib.hid ((hb4.block w.heap.size (lt_of_block HBX.out)).trans HBX.out)
    have HO4 := Lib.hid (HO.out.below hb4)
    clear hb hsl x1
    by_cases hbn : 0 < bn
    · obtain ⟨hq1, hq2⟩ := HQ.out hbn
      have HM' := Lib.hid (HM.out hbn)
      obtain ⟨A4, c4, rfl, hc4, hm4, _⟩ := id hv4.1
      unfold maxLen at hm4
      have HN4 := Lib.hid (hv4.mono (D' := fun b => w.heap.size ≤ b) (fun b h => Nat.le_trans hwr h))
      have HLN := Lib.hid (show l.length + 1 ≤ 1000000 by omega)
      have i4 : (0 : Int) < (bn : Int) := by omega
      have i5 : IntKind.i64.wrap ((at_ : Int) + (bn : Int)) = (at_ : Int) + (bn : Int) := by rw [IntKind.wrap_i64]; omega
      clear hv4 hb4
      go_wp2_with ((with_reducible show wpList _ _ _ (⟨some 42, _, _, _, _, _⟩ :: _) _ _); go_must (refine wpList_append_one rfl (.tmp 39) (.tmp 41) rfl rfl HO4.out A4 _ c4 HN4.out rfl HLN.out hw4 (fun _ hb => Nat.le_trans hw4 hb) ?_); intro v' w' ho' hg' _; have HO' := Lib.hid ho'; clear ho')
      go_step3
      have hB' : Below w.heap.size w w' := by
        obtain ⟨ts, o1, _, _⟩ := HO4.out
        exact HB4.out.grown hg' hw4 (fun k hk => (o1.lt k hk).1)
      refine ⟨rfl, ⟨l ++ [bb], at_ + bn, v', _, _, _, _, _, _, _, _, _, _, _, _, _, _, _, _, _, _, _, _, _, _, _, _, _, _, _, _, _, _, _, _, _, _, _, _, _, _, _, _, _, _, _, _, _, _, _, _, _, _, _, hq2, by rw [List.length_append, List.length_singleton]; omega, HO'.out, HM'.out.symm, keepK (by decide) HBX4.out HO4.out hg', hB', by rw [Int.natCast_add]⟩, ?_⟩
      show n - (intV (.int .i64 ((at_ : Int) + (bn : Int)))).toNat < n - (intV (.int .i64 (at_ : Int))).toNat
      simp only [intV]
      omega
    · have HS' := HS.out hbn
      subst HS'
      have i4 : ¬ ((0 : Int) < (bn : Int)) := by omega
      have y1 := cells_of HBX4.out 1 _ rfl
      clear hv4 hb4
      go_wp2
      simp only [Exit.jump]
      exact bodyPost_ret (v := .tuple #[.slice A2 l.length c2, .int .i64 (at_ : Int), .int .i64 0]) (by simp [results, Try.results67, go_sem]) rfl ⟨_, rfl, HO4.out, HB4.out⟩
  · obtain rfl : at_ = n := by omega
    have hfs := HFS.out at_ l
    rw [HFI.out, HBO.out at_ _ (Nat.le_refl _)] at hfs
    have hfs' := hfs (by simp)
    subst hfs'
    have HSL' := Lib.hid hsl
    clear hfs hbel hsl
    go_wp2_with ((go_at_call 94); refine HSL'.out.mono ?_; rintro e w3 ⟨rfl, rfl⟩)
    simp only [Exit.jump]
    exact bodyPost_ret (v := .tuple #[.slice A2 l.length c2, .int .i64 (at_ : Int), .int .i64 0]) (by simp [results, Try.results67, go_sem]) rfl ⟨_, rfl, HO.out, HBE.out⟩
end Go.Proofs.Ytmcjefdnkcpghaa
/- WHETHER A TAIL MAY BE; HOW MANY SECTORS ARE DIRTY, of the document. -/
namespace Go.Proofs.Ytmcjefdnkcpghaa
open Go.RowKit
def rightE (d : Dv) (tail : Int) : Int := if tail < 0 ∨ (d.n : Int) < tail then 2 else if d.dead then 32 else 0
def dirtyL (L : List UInt8) (n tail : Nat) : List Nat := (List.range n).filter fun i => decide (tail ≤ i) && !blankB (page L i)
set_option maxRecDepth 100000 in
theorem sright_any {w : World} {Z : Nat → Prop} {g : Nat} {d : Dv} (h : Dk w Z g d) (tail : Int) : Calls Try.prog 109 #[.pointer (some ⟨g, 0, none⟩), .int .i64 tail] w fun e w' => e = .returned (.int .i64 (rightE d tail)) ∧ w = w' := by
  have hsl := slen_any h
  have hde := sdead_any h
  have hn1 := h.ok.n1
  unfold rightE
  generalize d.n = n at *
  generalize d.dead = dd at *
  have e0 : ((n : Int) == 0) = false := by rw [beq_eq_false_iff_ne]; omega
  clear h
  by_cases h1 : tail < 0
  · rw [if_pos (.inl h1)]
    have e1 : decide (tail < 0) = true := decide_eq_true h1
    go_enter Try.func109, Try.ntmps109
    go_wp2_with (first
      | (go_at_call 94; refine hsl.mono ?_; rintro e w3 ⟨rfl, rfl⟩))
    go_ret
    exact ⟨rfl, rfl⟩
  by_cases h2 : (n : Int) < tail
  · rw [if_pos (.inr h2)]
    have e1 : decide (tail < 0) = false := decide_eq_false h1
    have e2 : decide ((n : Int) < tail) = true := decide_eq_true h2
    go_enter Try.func109, Try.ntmps109
    go_wp2_with (first
      | (go_at_call 94; refine hsl.mono ?_; rintro e w3 ⟨rfl, rfl⟩))
    go_ret
    exact ⟨rfl, rfl⟩
  rw [if_neg (by omega)]
  have e1 : decide (tail < 0) = false := decide_eq_false h1
  have e2 : decide ((n : Int) < tail) = false := decide_eq_false h2
  cases dd
  all_goals
    go_enter Try.func109, Try.ntmps109
    go_wp2_with (first
      | (go_at_call 94; refine hsl.mono ?_; rintro e w3 ⟨rfl, rfl⟩)
      | (go_at_call 88; refine hde.mono ?_; rintro e w3 ⟨rfl, rfl⟩))
    go_ret
    exact ⟨rfl, rfl⟩
theorem dirtyL_take (L : List UInt8) (tail k : Nat) : dirtyL L (k + 1) tail = dirtyL L k tail ++ (if decide (tail ≤ k) && !blankB (page L k) then [k] else []) := by
  unfold dirtyL
  rw [List.range_succ, List.filter_append]
  congr 1
  by_cases hk : (decide (tail ≤ k) && !blankB (page L k)) = true
  · rw [if_pos hk]; simp [hk]
  · rw [if_neg hk]; simp only [Bool.not_eq_true] at hk; simp [hk]
theorem dirtyL_low (L : List UInt8) (tail k : Nat) (h : k ≤ tail) : dirtyL L k tail = [] := by
  unfold dirtyL
  rw [List.filter_eq_nil_iff]
  intro i hi
  have := List.mem_range.1 hi
  simp
  omega
theorem dirtyL_len (L : List UInt8) (tail k : Nat) : (dirtyL L k tail).length ≤ k := by
  unfold dirtyL
  exact Nat.le_trans (List.length_filter_le _ _) (by simp)
set_option maxRecDepth 100000 in
set_option maxHeartbeats 4000000 in
theorem rdirty_any {w : World} {B : Nat} {v : Value} {d : Dv} (h : Rv w B v d) (hok : d.ok) (tail : Int) (_ht : -9223372036854775808 ≤ tail ∧ tail ≤ 9223372036854775807) : Calls Try.prog 72 #[v, .int .i64 tail] w fun e w' => e = .returned (.tuple #[.int .i64 (if rightE d tail = 0 then ((dirtyL d.L d.n tail.toNat).length : Int) else 0), .int .i64 (rightE d tail)]) ∧ Below w.heap.size w w' := by
  obtain ⟨A, c, After, Torn, rfl, hs, hf, ht⟩ := h.heap
  have hn2 := hok.n2
  have hn1 := hok.n1
  have hb0 : ∀ o, Below w.heap.size w (w.alloc o) := fun o => (Below.refl _ _).alloc (Nat.le_refl _) o
  have HB0 := Lib.hid hb0
  clear hb0
  by_cases h1 : tail < 0
  · rw [show rightE d tail = 2 from by unfold rightE; rw [if_pos (.inl h1)], if_neg (by decide)]
    have e1 : decide (tail < 0) = true := decide_eq_true h1
    clear hs hf h hok
    go_enter Try.func72, Try.ntmps72
    go_wp2
    go_ret2
    exact ⟨rfl, HB0.out _⟩
  by_cases h2 : (d.n : Int) < tail
  · rw [show rightE d tail = 2 from by unfold rightE; rw [if_pos (.inr h2)], if_neg (by decide)]
    have e1 : decide (tail < 0) = false := decide_eq_false h1
    have e2 : decide ((d.n : Int) < tail) = true := decide_eq_true h2
    clear hs hf h hok
    go_enter Try.func72, Try.ntmps72
    go_wp2
    go_ret2
    exact ⟨rfl, HB0.out _⟩
  have hor : ¬ (tail < 0 ∨ (d.n : Int) < tail) := by omega
  have e1 : decide (tail < 0) = false := decide_eq_false h1
  have e2 : decide ((d.n : Int) < tail) = false := decide_eq_false h2
  cases hdd : d.dead with
  | true =>
    rw [show rightE d tail = 32 from by unfold rightE; rw [if_neg hor, hdd]; rfl, if_neg (by decide)]
    clear hor hs hf h hok
    go_enter Try.func72, Try.ntmps72
    go_wp2
    go_ret2
    exact ⟨rfl, HB0.out _⟩
  | false =>
    rw [show rightE d tail = 0 from by unfold rightE; rw [if_neg hor, hdd]; rfl, if_pos rfl]
    obtain ⟨tl, rfl⟩ : ∃ tl : Nat, tail = (tl : Int) := ⟨tail.toNat, by omega⟩
    rw [Int.toNat_natCast]
    have htn : tl ≤ d.n := by omega
    have e3 : decide (d.n < tl) = false := decide_eq_false (by omega)
    obtain ⟨ad, c', hv, hc1, hc2, hadb, h00⟩ := hs.1.at_ 0 (by rw [pagesS_len]; omega)
    rw [pagesS_len] at hv hc1
    simp only [Value.slice.injEq, true_and] at hv
    obtain ⟨rfl, rfl⟩ := hv
    have hcell : ∀ k, k < d.n → w.cell? (ad.add k) = some (.string (bsA (page d.L k))) := by
      intro k hk
      obtain ⟨ad', c', hv', _, _, _, hcell⟩ := hs.1.at_ k (by rw [pagesS_len]; exact hk)
      rw [pagesS_len] at hv'
      cases hv'
      have hg : (pagesS d.L d.n)[k]'(by rw [pagesS_len]; exact hk) = bsA (page d.L k) := by simp [pagesS]
      rw [hg] at hcell
      exact hcell
    unfold maxLen at hc2
    have hcw := fun (W : World) (hW : Below w.heap.size w W) (k : Nat) (hk : k < d.n) => (hW.cell (p := ad.add k) (by rw [addr_add_block]; exact hadb)).trans (hcell k hk)
    have hcv := fun (k : Nat) => conv_bytn (page d.L k) (Nat.le_trans (List.length_take_le _ _) (by decide))
    have hdt := dirtyL_take d.L tl
    have hdl := dirtyL_len d.L tl
    have hdw := dirtyL_low d.L tl
    clear hcell h00 hs hf h hok hor h1 h2
    generalize dirtyL d.L = DL at *
    generalize page d.L = pg at *
    generalize d.n = n at *
    generalize d.writes = wr0 at *
    have HCW := Lib.hid hcw
    have HCV := Lib.hid hcv
    have HDT := Lib.hid hdt
    have HDL := Lib.hid hdl
    have HDW := Lib.hid hdw
    have hbx := heap_alloc_new w (.cells #[.slice (some ad) n c, .int .i64 After, .int .i64 Torn, .bool false, .int .i64 (wr0 : Int)] 55 (0, 0))
    have HBX := Lib.hid hbx
    clear hcw hcv hdt hdl hdw hbx
    go_enter Try.func72, Try.ntmps72
    go_wp2
    go_loopg [6, 7] (n - tl) (fun gk x6 x7 wr => ∃ i : Nat, gk = n - i ∧ tl ≤ i ∧ i ≤ n ∧ x7 = .int .i64 (i : Int) ∧ x6 = .int .i64 ((DL i tl).length : Int) ∧ wr.heap[w.heap.size]? = some (.cells #[.slice (some ad) n c, .int .i64 After, .int .i64 Torn, .bool false, .int .i64 (wr0 : Int)] 55 (0, 0)) ∧ Below w.heap.size w wr)
    case atStart => exact ⟨tl, rfl, Nat.le_refl _, htn, rfl, by rw [HDW.out tl (Nat.le_refl _)]; rfl, HBX.out, HB0.out _⟩
    case round =>
      obtain ⟨i, hgk, hti, hi, rfl, rfl, hbx, hbel⟩ := hrel
      have HG := Lib.hid hgk
      have HBX2 := Lib.hid hbx
      have HBE := Lib.hid hbel
      have x0 := cells_of hbx 0 _ rfl
      have hwr := hbel.size
      clear hgk hbx HBX
      by_cases h : i < n
      · have hcj := HCW.out wr hbel i h
        obtain ⟨C5, CW5, hr5, hq5⟩ := HCV.out i
        have hbl := rblank_any (hq5 wr).1.1
        have hb5 := (hq5 wr).2
        have hdt := HDT.out i
        have hln := HDL.out i
        rw [decide_eq_true hti, Bool.true_and] at hdt
        have i1 : (0 : Int) ≤ (i : Int) := by omega
        have i2 : (i : Int) < (n : Int) := by omega
        have i3 : IntKind.i64.wrap ((i : Int) + 1) = (i : Int) + 1 := by rw [IntKind.wrap_i64]; omega
        have i4 : IntKind.i64.wrap (((DL i tl).length : Int) + 1) = ((DL i tl).length : Int) + 1 := by rw [IntKind.wrap_i64]; omega
        have HDT' := Lib.hid hdt
        have HB5 := Lib.hid (hbel.trans (hb5.mono hwr))
        have HX5 := Lib.hid ((hb5.block w.heap.size (lt_of_block HBX2.out)).trans HBX2.out)
        generalize pg i = pi at *
        generalize blankB pi = bl at *
        generalize hm0 : (DL i tl).length = m at *
        have HM := Lib.hid hm0
        clear hm0
        clear hdt hln hq5 hbel
        go_wp2_with fail
        refine hbl.mono ?_
        rintro e w8 ⟨rfl, hb8⟩
        have hx8 := (hb8.block w.heap.size (lt_of_block HX5.out)).trans HX5.out
        have HX8 := Lib.hid hx8
        have HB8 := Lib.hid (HB5.out.trans (hb8.mono HB5.out.size))
        clear hx8 hbl hb8 x0 hcj hb5
        cases bl
        all_goals
          go_wp2
          go_roundg (n - (i + 1))
          case measure => have := HG.out; omega
          case rel => exact ⟨i + 1, rfl, by omega, by omega, by simp, by rw [HDT'.out, List.length_append, HM.out]; simp, HX8.out, HB8.out⟩
      · obtain rfl : i = n := by omega
        clear hbel
        go_wp2
        go_ret2
        exact ⟨rfl, HBE.out⟩
end Go.Proofs.Ytmcjefdnkcpghaa
