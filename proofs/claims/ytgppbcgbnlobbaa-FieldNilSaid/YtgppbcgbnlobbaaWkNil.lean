/- FieldNil's walk: of no reader, and of one that nothing made, there is nothing. -/
import Derived.Test.YtgppbcgbnlobbaaQFx2
namespace Go.Proofs.Ytgppbcgbnlobbaa.Wk
open Go.RowKit Go.Proofs.YtgppbcgbnlobbaaW.PrintWords Go.Proofs.YtgppbcgbnlobbaaW.PrintLast Go.Proofs.YtgppbcgbnlobbaaW.PrintMore
theorem lives (w : World) : Calls Try.prog 13 #[] w fun e w' => e = .returned (.bool true) ∧ Below w.heap.size w w' := QF.ambrylaw01_lives.calls true w rfl
set_option maxHeartbeats 4000000 in
theorem nil_false (a0 : Int) (w : World) : Calls Try.prog 6 #[.int .i64 a0, .bool false] w fun e w' => e = .returned (.bool true) ∧ Below w.heap.size w w' := by
  go_enter Try.func6, Try.ntmps6
  go_wp2_with (first | (go_at_call 13; refine (lives _).mono ?_; rintro e w1 ⟨rfl, hB1⟩) | go_in)
  go_ret
  exact ⟨rfl, hB1⟩
set_option maxHeartbeats 4000000 in
theorem nil_true (a0 : Int) (w : World) : Calls Try.prog 6 #[.int .i64 a0, .bool true] w fun e w' => e = .returned (.bool true) ∧ Below w.heap.size w w' := by
  go_enter Try.func6, Try.ntmps6
  go_wp2_with (first | (go_at_call 13; refine (lives _).mono ?_; rintro e w1 ⟨rfl, hB1⟩) | go_in)
  go_ret
  exact ⟨rfl, below_then (below_alloc (Below.refl _ _) _) (by simp) hB1⟩
theorem nil_any (a0 : Int) (a1 : Bool) (w : World) (_ : (Lit.int .i64 a0).wf = true) : Calls Try.prog 6 #[.int .i64 a0, .bool a1] w fun e w' => e = .returned (.bool true) ∧ Below w.heap.size w w' := by
  cases a1 with
  | false => exact nil_false a0 w
  | true => exact nil_true a0 w
end Go.Proofs.Ytgppbcgbnlobbaa.Wk
