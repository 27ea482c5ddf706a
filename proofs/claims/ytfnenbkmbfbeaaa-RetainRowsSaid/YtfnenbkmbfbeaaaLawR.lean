/- RetainRows over plain lists. -/
import Derived.Test.YtfnenbkmbfbeaaaPlain2
namespace Go.Proofs.Ytfnenbkmbfbeaaa.Pure
open Go.RowKit Go.Proofs.Ytfnenbkmbfbeaaa.QC Go.Proofs.YtfnenbkmbfbeaaaW.PrintWords Go.Proofs.YtfnenbkmbfbeaaaW.PrintLast Go.Proofs.YtfnenbkmbfbeaaaW.PrintMore
theorem RetainRows (l : List Int) (a0 a1 a2 : Int) : ambrylaw28_RetainRows.f 2000 l a0 a1 a2 = some true := by
  unfold ambrylaw28_RetainRows.f
  by_cases hb : (l.length : Int) > 300
  · rw [if_pos hb, lives _ (by omega)]; rfl
  rw [if_neg hb]
  have hl : l.length ≤ 4000 := by omega
  by_cases h : Pol a0 a1 a2 ∧ Up l 0
  · rw [Keep_t hl (by omega) h.1 h.2, Option.bind_some, if_pos rfl]
    have ho := old_len l a0 a1 a2
    have hc : cutn l a0 ≤ l.length := by unfold cutn; omega
    exact rows_loop hl h.1 h.2 (oldKept l a0 a1 a2).length 1 2000 (by omega) (by omega) (by omega)
  · obtain ⟨c, hc, e⟩ := Keep_f (k := 2000) hl (by omega) h
    rw [e, Option.bind_some, if_neg (by rcases hc with rfl | rfl <;> decide), lives _ (by omega)]
    rfl
end Go.Proofs.Ytfnenbkmbfbeaaa.Pure
