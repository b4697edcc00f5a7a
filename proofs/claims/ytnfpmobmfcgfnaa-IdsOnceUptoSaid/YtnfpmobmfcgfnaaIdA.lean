/- A SET OF DOCUMENTS (ids.Set) AS DATA; THE WALKS OF New, none, Len, Get, Credits. -/
import Derived.Test.YtnfpmobmfcgfnaaGsA
import Derived.Test.YtnfpmobmfcgfnaaLnC
import Derived.Test.YtnfpmobmfcgfnaaMp
import Derived.WalkSpells
import Derived.Carry
namespace Go.Proofs.Ytnfpmobmfcgfnaa
open Go.RowKit
def findD (l : List Dm) (s : List UInt8) : Option Dm := l.find? fun o => o.id.data.toList == s
def credL (l : List Dm) (s : List UInt8) : List ByteArray := (l.filter fun o => o.cred && (o.ref.data.toList == s)).map (·.id)
def KindS (w : World) (b : Nat) : Prop := (∃ es cl, w.heap[b]? = some (.map es cl)) ∨ ∃ cs, w.heap[b]? = some (.cells cs 9 (0, 0))
theorem KindS.lt {w : World} {b : Nat} (h : KindS w b) : b < w.heap.size := by
  rcases h with ⟨_, _, h⟩ | ⟨_, h⟩ <;> exact (Array.getElem?_eq_some_iff.1 h).1
theorem KindS.below {w w' : World} {b : Nat} (h : KindS w b) (k : Below w.heap.size w w') : KindS w' b := by
  have hl := h.lt
  rcases h with ⟨es, cl, h⟩ | ⟨cs, h⟩
  · exact .inl ⟨es, cl, (k.block b hl).trans h⟩
  · exact .inr ⟨cs, (k.block b hl).trans h⟩
theorem KindS.ne {w : World} {b x : Nat} {cs : Array Value} {t : TypeId} {fr : Nat × Nat} (h : KindS w b) (hx : w.heap[x]? = some (.cells cs t fr)) (ht : t ≠ 9) : b ≠ x := by
  rintro rfl
  rcases h with ⟨_, _, h⟩ | ⟨_, h⟩
  · rw [hx] at h; injection h with h; cases h
  · rw [hx] at h; injection h with h; injection h with _ h _; exact ht h
/-- the maps of the set g: of the documents dD, and of the credits' names of dC -/
structure Raw (w : World) (base g : Nat) (Z : Nat → Prop) (dD dC : List Dm) (bd bc nc m : Nat) (fd fc : List UInt8 → Option Value) : Prop where
  hd : w.heap[g]? = some (.cells #[.map (some bd), .map (some bc)] 48 (0, 0))
  ne : bd ≠ bc
  zd : Z bd
  zc : Z bc
  md : MapV w bd dD.length dD.length fd
  mc : MapV w bc nc m fc
  nl : nc ≤ dC.length
  dk : ∀ s, (findD dD s = none → fd s = none) ∧ ∀ o, findD dD s = some o → ∃ t, fd s = some (.agg (o.vs (triV t))) ∧ OwN lnK w base (triV t) o.ls
  ck : ∀ s, (credL dC s = [] → fc s = none) ∧ (credL dC s ≠ [] → ∃ v, fc s = some v ∧ Ow strK w base v (credL dC s) ∧ ∀ k, v.ownBlock = some k → Z k)
  dis : ∀ s s' v v' k, s ≠ s' → fc s = some v → fc s' = some v' → v.ownBlock = some k → v'.ownBlock ≠ some k
theorem Raw.below {w w' : World} {base g : Nat} {Z : Nat → Prop} {dD dC : List Dm} {bd bc nc m : Nat} {fd fc : List UInt8 → Option Value} (h : Raw w base g Z dD dC bd bc nc m fd fc) (k : Below w.heap.size w w') : Raw w' base g Z dD dC bd bc nc m fd fc := by
  refine ⟨(k.block g (Array.getElem?_eq_some_iff.1 h.hd).1).trans h.hd, h.ne, h.zd, h.zc, h.md.below k, h.mc.below k, h.nl, fun s => ⟨(h.dk s).1, fun o ho => ?_⟩, fun s => ⟨(h.ck s).1, fun hs => ?_⟩, h.dis⟩
  · obtain ⟨t, q1, q2⟩ := (h.dk s).2 o ho
    exact ⟨t, q1, q2.below k⟩
  · obtain ⟨v, q1, q2, q3⟩ := (h.ck s).2 hs
    exact ⟨v, q1, q2.below k, q3⟩
/-- the set g -/
structure St (w : World) (base g : Nat) (Z : Nat → Prop) (docs : List Dm) : Prop where
  ex : ∃ (bd bc nc m : Nat) (fd fc : List UInt8 → Option Value), Raw w base g Z docs docs bd bc nc m fd fc
  kd : ∀ b, Z b → KindS w b
  lo : ∀ b, Z b → base ≤ b
  g0 : base ≤ g
  ok : ∀ o ∈ docs, o.ok
theorem St.below {w w' : World} {base g : Nat} {Z : Nat → Prop} {docs : List Dm} (h : St w base g Z docs) (k : Below w.heap.size w w') : St w' base g Z docs := by
  obtain ⟨bd, bc, nc, m, fd, fc, hr⟩ := h.ex
  exact ⟨⟨bd, bc, nc, m, fd, fc, hr.below k⟩, fun b hz => (h.kd b hz).below k, h.lo, h.g0, h.ok⟩
theorem findD_mem {l : List Dm} {s : List UInt8} {o : Dm} (h : findD l s = some o) : o ∈ l ∧ o.id.data.toList = s := by
  unfold findD at h
  exact ⟨List.mem_of_find?_eq_some h, by have := List.find?_some h; simpa using this⟩
theorem Try.zdoc (w : World) : (zeroValue 25).run Try.prog w = .ok (.agg (Dm.zero.vs (.slice none 0 0))) w := by kernel_rfl
theorem Try.zstrs (w : World) : (zeroValue 39).run Try.prog w = .ok (.slice none 0 0) w := by kernel_rfl
set_option maxRecDepth 100000 in
theorem idsnew_any (w : World) : Calls Try.prog 12 #[] w fun e w' => ∃ g Z, e = .returned (.pointer (some ⟨g, 0, none⟩)) ∧ St w' w.heap.size g Z [] ∧ Below w.heap.size w w' := by
  have h1 := MapV.made w
  have hb1 := (Below.refl w.heap.size w).alloc (Nat.le_refl _) (.map #[] 0)
  have h2 := MapV.made (w.alloc (.map #[] 0))
  have hb2 := (Below.refl (w.alloc (.map #[] 0)).heap.size (w.alloc (.map #[] 0))).alloc (Nat.le_refl _) (.map #[] 0)
  have hk1 : KindS (w.alloc (.map #[] 0)) w.heap.size := .inl ⟨_, _, heap_alloc_new w _⟩
  have hk2 : KindS ((w.alloc (.map #[] 0)).alloc (.map #[] 0)) (w.alloc (.map #[] 0)).heap.size := .inl ⟨_, _, heap_alloc_new (w.alloc (.map #[] 0)) _⟩
  have hO : St (((w.alloc (.map #[] 0)).alloc (.map #[] 0)).alloc (.cells #[.map (some w.heap.size), .map (some (w.heap.size + 1))] 48)) w.heap.size (w.heap.size + 2) (fun b => b = w.heap.size ∨ b = w.heap.size + 1) [] ∧ Below w.heap.size w (((w.alloc (.map #[] 0)).alloc (.map #[] 0)).alloc (.cells #[.map (some w.heap.size), .map (some (w.heap.size + 1))] 48)) := by
    have hb3 := (Below.refl ((w.alloc (.map #[] 0)).alloc (.map #[] 0)).heap.size ((w.alloc (.map #[] 0)).alloc (.map #[] 0))).alloc (Nat.le_refl _) (.cells #[.map (some w.heap.size), .map (some (w.heap.size + 1))] 48)
    have hn := heap_alloc_new ((w.alloc (.map #[] 0)).alloc (.map #[] 0)) (.cells #[.map (some w.heap.size), .map (some (w.heap.size + 1))] 48 (0, 0))
    rw [World.size_alloc] at h2 hk2
    rw [World.size_alloc, World.size_alloc] at hn
    refine ⟨⟨⟨w.heap.size, w.heap.size + 1, 0, 0, _, _, hn, by omega, .inl rfl, .inr rfl, (h1.below hb2).below hb3, h2.below hb3, Nat.le_refl _, fun s => ⟨fun _ => rfl, fun o ho => by cases ho⟩, fun s => ⟨fun _ => rfl, fun hs => absurd rfl hs⟩, fun s s' v v' k _ h => by cases h⟩, fun b hz => ?_, fun b hz => ?_, by omega, fun o ho => by cases ho⟩, hb1.trans ((hb2.trans (hb3.mono hb2.size)).mono hb1.size)⟩
    · rcases hz with rfl | rfl
      · exact (hk1.below hb2).below hb3
      · exact hk2.below hb3
    · rcases hz with rfl | rfl <;> omega
  have hmm := @run_makeMap Try.prog
  have HO := Lib.hid hO
  clear h1 hb1 h2 hb2 hk1 hk2 hO
  go_enter Try.func12, Try.ntmps12
  go_wp2
  go_ret
  exact ⟨_, _, rfl, HO.out.1, HO.out.2⟩
section
variable {w : World} {base g : Nat} {Z : Nat → Prop} {docs : List Dm}
set_option maxRecDepth 100000 in
theorem idsnone_any (h : St w base g Z docs) : Calls Try.prog 44 #[.pointer (some ⟨g, 0, none⟩)] w fun e w' => e = .returned (.bool false) ∧ w = w' := by
  obtain ⟨bd, bc, nc, m, fd, fc, h1, _⟩ := h.ex
  have c0 := cells_of h1 0 (.map (some bd)) rfl
  have hq := run_eql_map_nil (P := Try.prog) w 45 9 25 (some bd) Try.underlying45
  clear h1 h
  go_enter Try.func44, Try.ntmps44
  go_wp2
  go_ret
  exact ⟨rfl, rfl⟩
set_option maxRecDepth 100000 in
theorem idslen_any (h : St w base g Z docs) : Calls Try.prog 15 #[.pointer (some ⟨g, 0, none⟩)] w fun e w' => e = .returned (.int .i64 (docs.length : Int)) ∧ w = w' := by
  have hn := idsnone_any h
  obtain ⟨bd, bc, nc, m, fd, fc, h1, _, _, _, h5, _⟩ := h.ex
  have c0 := cells_of h1 0 (.map (some bd)) rfl
  have hl := h5.len (t := 45) (e := 25) Try.underlying45 3
  clear h1 h h5
  go_enter Try.func15, Try.ntmps15
  go_wp2_with (go_at_call 44; (with_reducible refine hn.mono ?_); rintro e w' ⟨rfl, rfl⟩)
  go_ret
  exact ⟨rfl, rfl⟩
/-- what Get tells -/
def GetPost (docs : List Dm) (s : List UInt8) (w : World) (e : Ending) (w' : World) : Prop :=
  (findD docs s = none ∧ e = .returned (.tuple #[.agg (Dm.zero.vs (.slice none 0 0)), .bool false]) ∨ ∃ o t, findD docs s = some o ∧ e = .returned (.tuple #[.agg (o.vs (triV t)), .bool true]) ∧ DocOk w' w'.heap.size (o, t)) ∧ Below w.heap.size w w'
set_option maxRecDepth 100000 in
set_option maxHeartbeats 1000000 in
theorem idsget_any (h : St w base g Z docs) (s : ByteArray) (hs : s.size ≤ maxLen) : Calls Try.prog 16 #[.pointer (some ⟨g, 0, none⟩), .string s] w (GetPost docs s.data.toList w) := by
  have hal := (Below.refl w.heap.size w).alloc (Nat.le_refl _) (.cells (Dm.zero.vs (.slice none 0 0)) 25)
  have h2 := h.below hal
  have hn := idsnone_any h2
  have hok := h.ok
  obtain ⟨bd, bc, nc, m, fd, fc, h1, _, _, _, h5, _, _, h8, _⟩ := h.ex
  have c0 := cells_of ((hal.block g (Array.getElem?_eq_some_iff.1 h1).1).trans h1) 0 (.map (some bd)) rfl
  have hlk := (h5.below hal).look (t := 45) (e := 25) Try.underlying45 (Try.zdoc _) true s hs
  obtain ⟨q1, q2⟩ := h8 s.data.toList
  have hbel : ∀ o o', Below w.heap.size w ((w.alloc o).alloc o') := fun o o' => ((Below.refl _ _).alloc (Nat.le_refl _) o).alloc (by simp) o'
  unfold MapV.val at hlk
  cases hf : findD docs s.data.toList with
  | none =>
    rw [q1 hf] at hlk
    simp only [if_true] at hlk
    have HF := Lib.hid hf
    have HB := Lib.hid hbel
    clear h1 h2 h h5 h8 q1 q2 hf hal hok hbel
    unfold Dm.zero Dm.vs at *
    simp only at *
    go_enter Try.func16, Try.ntmps16
    go_wp2_with (go_at_call 44; (with_reducible refine hn.mono ?_); rintro e w' ⟨rfl, rfl⟩)
    exact bodyPost_ret (v := .tuple #[.agg #[.string ⟨#[]⟩, .bool false, .bool false, .string ⟨#[]⟩, .int .i64 0, .string ⟨#[]⟩, .string ⟨#[]⟩, .string ⟨#[]⟩, .slice none 0 0], .bool false]) (by simp [results, Try.results16, go_sem]) rfl ⟨.inl ⟨HF.out, rfl⟩, HB.out _ _⟩
  | some o =>
    obtain ⟨t, e, hown⟩ := q2 o hf
    rw [e] at hlk
    simp only [if_true] at hlk
    have hlns := hown.sl.lns (hok o (findD_mem hf).1).ls
    have hdk := hok o (findD_mem hf).1
    have HF := Lib.hid hf
    have HB := Lib.hid hbel
    have HL := Lib.hid (fun o o' => (hlns.below (hbel o o')).more (hbel o o').size)
    have HD := Lib.hid hdk
    have HSZ := Lib.hid hal.size
    clear h1 h2 h h5 h8 q1 q2 hf hal hok hbel hlns hdk e hown
    obtain ⟨id, sale, cred, ref, day, cty, num, cur, ls⟩ := o
    obtain ⟨tA, tn, tc⟩ := t
    unfold Dm.zero Dm.vs triV at *
    simp only at *
    go_enter Try.func16, Try.ntmps16
    go_wp2_with (go_at_call 44; (with_reducible refine hn.mono ?_); rintro e w' ⟨rfl, rfl⟩)
    refine bodyPost_ret (v := .tuple #[.agg #[.string id, .bool sale, .bool cred, .string ref, .int .i64 day, .string cty, .string num, .string cur, .slice tA tn tc], .bool true]) (by simp [results, Try.results16, go_sem]) rfl ⟨.inr ⟨_, (tA, tn, tc), HF.out, rfl, ?_, HD.out⟩, HB.out _ _⟩
    exact HL.out _ _
theorem St.credv (h : St w base g Z docs) (s : ByteArray) (hs : s.size ≤ maxLen) : ∃ bc v, w.cell? ⟨g, 1, none⟩ = some (.map (some bc)) ∧ (Instr.lookup 46 (.map (some bc)) (.string s) false).run Try.prog w = .ok v w ∧ Sl strK w w.heap.size v (credL docs s.data.toList) := by
  obtain ⟨bd, bc, nc, m, fd, fc, h1, _, _, _, _, h6, _, _, h9, _⟩ := h.ex
  have hlk := h6.look (t := 46) (e := 39) Try.underlying46 (Try.zstrs _) false s hs
  obtain ⟨q1, q2⟩ := h9 s.data.toList
  unfold MapV.val at hlk
  by_cases hc : credL docs s.data.toList = []
  · rw [q1 hc] at hlk
    exact ⟨bc, _, cells_of h1 1 _ rfl, hlk, by rw [hc]; exact Sl.nil_ _ _ _⟩
  · obtain ⟨v, e, ho, _⟩ := q2 hc
    rw [e] at hlk
    exact ⟨bc, _, cells_of h1 1 _ rfl, hlk, ho.sl⟩
set_option maxRecDepth 100000 in
theorem idscred_any (h : St w base g Z docs) (s : ByteArray) (hs : s.size ≤ maxLen) (hl : docs.length ≤ 1000000) : Calls Try.prog 22 #[.pointer (some ⟨g, 0, none⟩), .string s] w fun e w' => ∃ v, e = .returned v ∧ Sl strK w' w'.heap.size v (credL docs s.data.toList) ∧ Below w.heap.size w w' := by
  have hn := idsnone_any h
  obtain ⟨bc, v, c1, hlk, hsl⟩ := h.credv s hs
  have hcl := cloneS_any hsl (Nat.le_refl _) (by unfold credL; rw [List.length_map]; exact Nat.le_trans (List.length_filter_le _ _) hl)
  clear h hsl
  go_enter Try.func22, Try.ntmps22
  go_wp2_with (first
    | (go_at_call 44; (with_reducible refine hn.mono ?_); rintro e w' ⟨rfl, rfl⟩)
    | (go_at_call 47; (with_reducible refine hcl.mono ?_); rintro e w1 ⟨v1, rfl, ho1, hb1⟩))
  go_ret
  exact ⟨_, rfl, ho1.sl, hb1⟩
end
end Go.Proofs.Ytnfpmobmfcgfnaa
