/- ChainTurns over plain lists. -/
import Derived.Test.YtimkcfjncobgjaaLaws
import Derived.Test.YtimkcfjncobgjaaTurns
namespace Go.Proofs.Ytimkcfjncobgjaa.Pure
open Go.RowKit Go.Proofs.Ytimkcfjncobgjaa.QC Go.Proofs.YtimkcfjncobgjaaW.PrintWords Go.Proofs.YtimkcfjncobgjaaW.PrintLast Go.Proofs.YtimkcfjncobgjaaW.PrintMore
set_option linter.unusedVariables false
theorem turns_j0 (l : List S34) (hl : l.length ≤ 1000) : Turns.j0 2000 l l false = some true := by
  simp only [Turns.j0]
  rw [if_neg (by decide), wsucc l.length (by omega)]
  have e1 : (l ++ [z99]).length = l.length + 1 := by simp
  have e2 : (l ++ [z99]).take (((l.length + 1 : Nat) : Int)).toNat = l ++ [z99] := by rw [Int.toNat_natCast]; exact List.take_of_length_le (by omega)
  rw [if_pos (by omega), if_pos (by omega), e2, Option.bind_some, Same_refl (by omega) (by omega), Option.bind_some, if_pos rfl]
  have e3 : wrap64 (((l ++ [z99]).length : Int) - 1) = (l.length : Int) := by rw [w64 _ (by omega) (by omega)]; omega
  have e4 : rd_T34 (l ++ [z99]) (l.length : Int) = z99 := by rw [rd_get _ _ (by omega)]; simp
  rw [e3, if_pos (by omega), if_pos (by omega), e4, if_pos (by decide +kernel), lives _ (by omega)]
  rfl
theorem ChainTurns (l : List S34) (v : S34) (t : Int) : Turns.f 2000 l v.f0 v.f1 v.f2 t = some true := by
  unfold Turns.f
  by_cases hb : (l.length : Int) > 1000
  · rw [if_pos hb, lives _ (by omega)]; rfl
  rw [if_neg hb]
  have hl : l.length ≤ 4000 := by omega
  have J := turns_j0 l (by omega)
  rw [own_is l hl, Option.bind_some]
  obtain ⟨hA, hB⟩ := Add_is 2000 l v hl (by omega)
  rw [← hA]
  obtain ⟨r, hr, hrl⟩ : ∃ r : List S34 × Int, chain_Add.f 2000 l v.f0 v.f1 v.f2 = some r ∧ r.1.length ≤ l.length + 1 := by
    rcases hB with ⟨_, _, _, e⟩ | ⟨c, _, e⟩
    · exact ⟨_, e, by simp⟩
    · exact ⟨_, e, by simp⟩
  rw [hr, Option.bind_some, Option.bind_some]
  by_cases h : Rt l
  · obtain ⟨p, hp⟩ := pl_ex h t
    rw [Vacuum_t hl (by omega) h hp, Option.bind_some, Rewind_t hl (by omega) h hp, Option.bind_some, Same_refl (by omega) (by omega), Option.bind_some, if_pos rfl, if_pos rfl]
    rw [RVacuum_t hl (by omega) h hp, Option.bind_some, Same_refl (by rw [List.length_take]; omega) (by rw [List.length_take]; omega), Option.bind_some, if_pos rfl]
    rw [RRewind_t hl (by omega) h hp, Option.bind_some, Same_refl (by rw [List.length_drop]; omega) (by rw [List.length_drop]; omega), Option.bind_some]
    exact J
  · rw [Vacuum_f hl (by omega) h, Option.bind_some, Rewind_f hl (by omega) h, Option.bind_some, Same_refl (by omega) (by omega), Option.bind_some, if_pos rfl, if_pos rfl]
    rw [RVacuum_f hl (by omega) h, Option.bind_some, Same_refl (by simp) (by simp), Option.bind_some, if_pos rfl]
    rw [RRewind_f hl (by omega) h, Option.bind_some, Same_refl (by simp) (by simp), Option.bind_some]
    exact J
end Go.Proofs.Ytimkcfjncobgjaa.Pure
