/- A policy that came in: its three numbers. -/
import Derived.Test.YtfnenbkmbfbeaaaQCx0
import Derived.Deep.Slices
import Derived.Deep.Fields
import Derived.Deep.Strs
import Derived.ChangeSame
import Derived.KernelRfl
namespace Go.Proofs.Ytfnenbkmbfbeaaa.Polc
open Go.ChangeShapes Go.WideShapes Go.Deep Go.RowKit Go.Proofs.YtfnenbkmbfbeaaaW.PrintWords
set_option linter.unusedVariables false
section
variable {H : Type} {enc : TypeId × Value → H} {P : Program} {w : World} {base : Nat} {spare : Nat → Bool} {held : Bool}
theorem policy {t : TypeId} {f0 f1 f2 : Field} {v : Value} {r : Reach} {b0 : Nat} {d : DataW H} {ps : List MemPlace} (ht : P.underlying t = some (.struct #[f0, f1, f2])) (h0 : P.underlying f0.type = some (.int .i64)) (h1 : P.underlying f1.type = some (.int .i64)) (h2 : P.underlying f2.type = some (.int .i64))
    (o0 : f0.offset = 0 ∧ f1.offset = 1 ∧ f2.offset = 2) (c0 : P.cellsOf f0.type = 1 ∧ P.cellsOf f1.type = 1 ∧ P.cellsOf f2.type = 1) (hC : P.cellsOf t = 3) (hv : Value.okWide P w r b0 t v) (h : DataW.Trod enc P w base spare held t v d ps) :
    ∃ x y z : Int, v = .agg #[.int .i64 x, .int .i64 y, .int .i64 z] := by
  obtain ⟨cs, rfl, hs⟩ := okWide_struct ht hv
  obtain ⟨fuel, hf⟩ := h
  obtain ⟨y0, y1, y2, n, _, hl, t0, t1, t2⟩ := trod_struct3 ht hf
  rw [hC] at hs
  obtain ⟨L⟩ := cs
  match L, hs with
  | [u0, u1, u2], _ =>
    rw [o0.1, c0.1] at t0
    rw [o0.2.1, c0.2.1] at t1
    rw [o0.2.2, c0.2.2] at t2
    obtain ⟨k, e0, _⟩ := DataW.trod_int h0 t0
    obtain ⟨q, e1, _⟩ := DataW.trod_int h1 t1
    obtain ⟨b, e2, _⟩ := DataW.trod_int h2 t2
    simp [Value.cells] at e0 e1 e2
    subst e0 e1 e2
    exact ⟨k, q, b, rfl⟩
end
end Go.Proofs.Ytfnenbkmbfbeaaa.Polc
