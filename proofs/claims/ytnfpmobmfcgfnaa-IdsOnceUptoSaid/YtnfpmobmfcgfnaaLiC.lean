/- THE WALK OF octroilaw08.Simple. -/
import Derived.Test.YtnfpmobmfcgfnaaLiB
import Derived.Test.YtnfpmobmfcgfnaaIdE
import Derived.Deep.DeepCutAuto
namespace Go.Proofs.Ytnfpmobmfcgfnaa
open Go.RowKit
theorem below_row {B g : Nat} {w0 w : World} (hb : Below B w0 w) (hBg : B ≤ g) (cs : Array Value) : Below B w0 (w.setRow g cs) :=
  hb.trans ⟨rfl, rfl, rfl, by simp [World.setRow], fun k hk => setRow_other w g k cs (by omega)⟩
def simL : Ln := ⟨2, 1, ⟨#[]⟩, ⟨#[]⟩, ⟨#[]⟩, 1000, false, 0, false⟩
def simD : Dm := ⟨⟨#[97]⟩, true, false, ⟨#[]⟩, 19000, ⟨#[68, 69]⟩, ⟨#[]⟩, ⟨#[]⟩, [simL]⟩
def simC : Cm := ⟨8, ⟨#[]⟩, ⟨#[]⟩, 0, 0, 0, 0, 0, 0, 0, 0, 0, 0, simD⟩
theorem i64_of {n : Int} (h1 : -9223372036854775808 ≤ n) (h2 : n ≤ 9223372036854775807) : I64 n := ⟨h1, h2⟩
theorem simL_ok : simL.ok := ⟨⟨by decide, by decide⟩, ⟨by decide, by decide⟩, len_zero, len_zero, len_zero, ⟨by decide, by decide⟩, i64_zero⟩
theorem simD_ok : simD.ok := ⟨by show 1 ≤ maxLen; simp [maxLen], len_zero, ⟨by decide, by decide⟩, by show 2 ≤ maxLen; simp [maxLen], len_zero, len_zero, fun l hl => by
  have : l = simL := by simpa [simD] using hl
  subst this
  exact simL_ok⟩
theorem simC_ok : simC.ok := ⟨⟨by decide, by decide⟩, len_zero, len_zero, i64_zero, i64_zero, i64_zero, i64_zero, i64_zero, i64_zero, i64_zero, i64_zero, i64_zero, i64_zero, simD_ok⟩
theorem simD_lns {w : World} {b : Nat} (h : w.heap[b]? = some (.cells simL.vs 55 (0, 0))) : Lns w w.heap.size (.slice (some ⟨b, 0, none⟩) 1 1) [simL] :=
  ⟨_, 1, rfl, Nat.le_refl _, by simp [maxLen], fun _ => ⟨_, rfl, lt_of_blk h, fun j x hj => by
    match j, hj with
    | 0, hj =>
      cases hj
      exact ⟨simL_ok, cells_of h 0 _ rfl, cells_of h 1 _ rfl, cells_of h 2 _ rfl, cells_of h 3 _ rfl, cells_of h 4 _ rfl, cells_of h 5 _ rfl, cells_of h 6 _ rfl, cells_of h 7 _ rfl, cells_of h 8 _ rfl⟩
    | n + 1, hj => simp at hj⟩⟩
set_option maxRecDepth 100000 in
theorem sim_b1 (W : World) : (Instr.build 55 #[(0, .int .i64 2), (1, .int .i64 1), (5, .int .i64 1000)]).run Try.prog W = .ok (.agg simL.vs) W := run_build W 55 _ _ (by kernel_rfl)
set_option maxRecDepth 100000 in
theorem sim_b2 (W : World) (A : Addr) : (Instr.build 25 #[(0, .string ⟨#[97]⟩), (1, .bool true), (4, .int .i64 19000), (5, .string ⟨#[68, 69]⟩), (8, .slice (some A) 1 1)]).run Try.prog W = .ok (.agg (simD.vs (.slice (some A) 1 1))) W := run_build W 25 _ _ (by kernel_rfl)
set_option maxRecDepth 100000 in
theorem sim_b3 (W : World) (A : Addr) : (Instr.build 53 #[(0, .int .i64 8), (11, .agg (simD.vs (.slice (some A) 1 1)))]).run Try.prog W = .ok (.agg (simC.vs (.slice (some A) 1 1))) W := run_build W 53 _ _ (by kernel_rfl)
def SimplePost (w : World) (e : Ending) (w' : World) : Prop := ∃ b, e = .returned (.agg (simC.vs (.slice (some ⟨b, 0, none⟩) 1 1))) ∧ w'.heap[b]? = some (.cells simL.vs 55 (0, 0)) ∧ Below w.heap.size w w'
set_option maxRecDepth 100000 in
set_option maxHeartbeats 4000000 in
theorem simple_any (w : World) : Calls Try.prog 38 #[] w (SimplePost w) := by
  have b1 := fun W => sim_b1 W
  have b2 := fun W A => sim_b2 W A
  have b3 := fun W A => sim_b3 W A
  simp only [simL, simD, simC, Ln.vs, Dm.vs, Cm.vs] at b1 b2 b3
  unfold SimplePost
  simp only [simC, simD, Cm.vs]
  go_enter Try.func38, Try.ntmps38
  go_upto_region 1 with fail
  have hi : (Try.prog.info? 53).map (·.size) = some 22 := by kernel_rfl
  have HI := Lib.hid hi
  clear hi
  have hzs : (#[.int .i64 0, .string ⟨#[]⟩, .string ⟨#[]⟩, .int .i64 0, .int .i64 0, .int .i64 0, .int .i64 0, .int .i64 0, .int .i64 0, .int .i64 0, .int .i64 0, .int .i64 0, .int .i64 0, .string ⟨#[]⟩, .bool false, .bool false, .string ⟨#[]⟩, .int .i64 0, .string ⟨#[]⟩, .string ⟨#[]⟩, .string ⟨#[]⟩, .slice none 0 0] : Array Value).size = 22 := rfl
  generalize (#[.int .i64 0, .string ⟨#[]⟩, .string ⟨#[]⟩, .int .i64 0, .int .i64 0, .int .i64 0, .int .i64 0, .int .i64 0, .int .i64 0, .int .i64 0, .int .i64 0, .int .i64 0, .int .i64 0, .string ⟨#[]⟩, .bool false, .bool false, .string ⟨#[]⟩, .int .i64 0, .string ⟨#[]⟩, .string ⟨#[]⟩, .string ⟨#[]⟩, .slice none 0 0] : Array Value) = ZC at *
  have hcs : (#[.int .i64 8, .string ⟨#[]⟩, .string ⟨#[]⟩, .int .i64 0, .int .i64 0, .int .i64 0, .int .i64 0, .int .i64 0, .int .i64 0, .int .i64 0, .int .i64 0, .int .i64 0, .int .i64 0, .string ⟨#[97]⟩, .bool true, .bool false, .string ⟨#[]⟩, .int .i64 19000, .string ⟨#[68, 69]⟩, .string ⟨#[]⟩, .string ⟨#[]⟩, .slice (some ⟨w.heap.size + 1, 0, none⟩) 1 1] : Array Value).size = 22 := rfl
  have hone : (#[.int .i64 8, .string ⟨#[]⟩, .string ⟨#[]⟩, .int .i64 0, .int .i64 0, .int .i64 0, .int .i64 0, .int .i64 0, .int .i64 0, .int .i64 0, .int .i64 0, .int .i64 0, .int .i64 0, .string ⟨#[97]⟩, .bool true, .bool false, .string ⟨#[]⟩, .int .i64 19000, .string ⟨#[68, 69]⟩, .string ⟨#[]⟩, .string ⟨#[]⟩, .slice (some ⟨w.heap.size + 1, 0, none⟩) 1 1] : Array Value).all (·.oneCell') = true := by kernel_rfl
  have hzh : ((w.alloc (.cells ZC 53)).alloc (.cells simL.vs 55)).heap[w.heap.size]? = some (.cells ZC 53 (0, 0)) := by rw [heap_alloc_old _ _ (by simp), heap_alloc_new]
  have hlh : ∀ cs, (((w.alloc (.cells ZC 53)).alloc (.cells simL.vs 55)).setRow w.heap.size cs).heap[w.heap.size + 1]? = some (.cells simL.vs 55 (0, 0)) := fun cs => by
    rw [setRow_other _ _ _ _ (by omega)]
    have := heap_alloc_new (w.alloc (.cells ZC 53)) (.cells simL.vs 55 (0, 0))
    simpa using this
  have hb2 := ((Below.refl w.heap.size w).alloc (Nat.le_refl _) (.cells ZC 53)).alloc (by simp) (.cells simL.vs 55)
  simp only [simL, Ln.vs] at hzh hlh hb2
  have HZH := Lib.hid hzh
  have HLN := Lib.hid hlh
  have HB2 := Lib.hid hb2
  clear hzh hlh hb2
  have HZS := Lib.hid hzs
  have HCS := Lib.hid hcs
  have HON := Lib.hid hone
  clear hzs hcs hone
  go_wp2_with ((with_reducible refine wpList_store_row rfl 53 _ _ rfl w.heap.size _ rfl rfl 53 ZC HZH.out (by rw [HI.out, HCS.out]) (by rw [HZS.out, HCS.out]) HON.out ?_))
  exact bodyPost_ret (results_cell_row rfl _ _ w.heap.size 53 _ (0, 0) _ rfl (setRow_heap _ _ _ _ _ _ HZH.out) Try.underlying53 rfl (by rw [HI.out, HCS.out])) rfl ⟨w.heap.size + 1, rfl, HLN.out _, below_row HB2.out (Nat.le_refl _) _⟩
end Go.Proofs.Ytnfpmobmfcgfnaa
