/- A corner that came in by value, opened; for the rows of this seat. -/
import Derived.Test.YtcjimfcjfaagoaaPx0
import Derived.Deep.Slices
import Derived.Deep.Strs
import Derived.Lib.SmallJoins
import Derived.ChangeArms
namespace Go.Proofs.Ytcjimfcjfaagoaa.P
open Go.RowKit Go.Proofs.YtcjimfcjfaagoaaW.PrintWords Go.Proofs.YtcjimfcjfaagoaaW.PrintLast Go.Proofs.YtcjimfcjfaagoaaW.PrintMore
open Go.Deep Go.ChangeShapes Go.WideShapes
theorem cellsC : Try.prog.cellsOf 23 = 2 := by kernel_rfl
set_option maxRecDepth 100000 in
theorem open_corner {H : Type} {enc : TypeId × Value → H} {W : World} {r : Reach} {b0 : Nat} {v : Value} {d : DataW H} {p : List MemPlace}
    (hv : Value.okWide Try.prog W r b0 23 v) (h : DataW.Trod enc Try.prog W 0 (fun _ => true) true 23 v d p) :
    ∃ (x y : Int), v = .agg #[.int .i64 x, .int .i64 y] ∧ (Lit.int .i64 x).wf = true ∧ (Lit.int .i64 y).wf = true := by
  obtain ⟨c0, c1, y0, y1, m, rfl, _, _, hy0, hy1⟩ := Joins.open_agg2 Try.underlying23 (by kernel_rfl) cellsC hv h
  obtain ⟨n, e0, _, w0⟩ := DataW.trod_int Try.underlying3 hy0
  obtain ⟨n2, e1, _, w1⟩ := DataW.trod_int Try.underlying3 hy1
  simp at e0 e1
  subst e0 e1
  exact ⟨n, n2, rfl, w0, w1⟩
end Go.Proofs.Ytcjimfcjfaagoaa.P
