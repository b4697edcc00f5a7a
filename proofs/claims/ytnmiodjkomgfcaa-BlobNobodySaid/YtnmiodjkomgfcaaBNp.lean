/- HOW AN octroilaw05.Op THAT IS AN ARGUMENT IS OPENED; the walk of BlobNobody in that form. -/
import Derived.Test.YtnmiodjkomgfcaaRow5
import Derived.Test.YtnmiodjkomgfcaaBNo
namespace Go.Proofs.Ytnmiodjkomgfcaa
open Go.ChangeShapes Go.WideShapes Go.ChangeAt Go.RowKit Go.Deep
set_option maxRecDepth 100000 in
theorem open_op {H : Type} {enc : TypeId × Value → H} {W : World} {base' : Nat} {r : Reach} {v : Value} {d : DataW H} {p : List MemPlace}
    (hv : Value.okWide Try.prog W r base' 29 v) (h : DataW.Trod enc Try.prog W 0 (fun _ => true) true 29 v d p) : ∃ o : Opv, o.ok ∧ v = o.val := by
  unfold Value.okWide at hv
  rw [Try.underlying29] at hv
  obtain ⟨cs, rfl, _, _⟩ := hv
  obtain ⟨n, hn⟩ := h
  obtain ⟨o, hok, e⟩ := open_op_cells hn
  refine ⟨o, hok, ?_⟩
  have e2 : cs.toList = [.int .i64 o.kind, .int .i64 o.n, .string o.s, .bool o.b] := e
  unfold Opv.val
  congr 1
  apply Array.ext'
  exact e2
theorem blobNobody_walk2 (v : Value) (o : Opv) {w : World} (h : o.ok ∧ v = o.val) : Calls Try.prog 6 #[v] w (LawPostN w) := by
  obtain ⟨hok, rfl⟩ := h
  exact blobNobody_walk o hok
end Go.Proofs.Ytnmiodjkomgfcaa
