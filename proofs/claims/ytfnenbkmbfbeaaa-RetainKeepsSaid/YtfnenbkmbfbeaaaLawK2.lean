/- RetainKeeps over plain lists, joined. -/
import Derived.Test.YtfnenbkmbfbeaaaLawK
import Derived.Test.YtfnenbkmbfbeaaaKeeps
namespace Go.Proofs.Ytfnenbkmbfbeaaa.Pure
open Go.RowKit Go.Proofs.Ytfnenbkmbfbeaaa.QC Go.Proofs.YtfnenbkmbfbeaaaW.PrintWords Go.Proofs.YtfnenbkmbfbeaaaW.PrintLast Go.Proofs.YtfnenbkmbfbeaaaW.PrintMore
set_option linter.unusedVariables false
theorem RetainKeeps (l : List Int) (a0 a1 a2 : Int) : ambrylaw28_RetainKeeps.f 3000 l a0 a1 a2 = some true := by
  unfold ambrylaw28_RetainKeeps.f
  by_cases hb : (l.length : Int) > 300
  · rw [if_pos hb, lives _ (by omega)]; rfl
  rw [if_neg hb]
  have hl : l.length ≤ 4000 := by omega
  have hll : (l ++ [(-7 : Int)]).length = l.length + 1 := by simp
  have htk : (l ++ [(-7 : Int)]).take ((l.length : Int) : Int).toNat = l := by rw [Int.toNat_natCast, List.take_left]
  have hrd : rd (l ++ [(-7 : Int)]) (l.length : Int) = -7 := by rw [rd_get _ _ (by omega)]; simp
  rw [Option.bind_some, if_pos (by simp; omega), Option.bind_some, List.nil_append, if_pos (by omega), Option.bind_some, if_pos (by omega), if_pos (by omega), Option.bind_some, htk]
  have hsame : ∀ m : List Int, m.length ≤ l.length → ambryref09_Same.f 3000 m m = some true := fun m hm => Same_refl (by omega) (by omega)
  obtain ⟨kk, g, c, hK, hR, hN, hC, hC2, hkl, hgl, m, d, hM, hM2⟩ : ∃ (kk g : List Int) (c : Int), retain_Keep.f 3000 l a0 a1 a2 = some (kk, c) ∧ ambryref28_Keep.f 3000 l a0 a1 a2 = some (kk, g, c) ∧ retain_Next.f 3000 l a0 a1 a2 = some (g, c) ∧ (∃ q, retain_Check.f a0 a1 a2 = some q ∧ ambryref28_Check.f a0 a1 a2 = some q) ∧ True ∧ kk.length ≤ l.length ∧ g.length ≤ l.length ∧ ∃ m d : Int, retain_Mark.f 3000 l a0 a1 a2 = some (m, d) ∧ ambryref28_Mark.f 3000 l a0 a1 a2 = some (m, d) := by
    have hchk : ∃ q, retain_Check.f a0 a1 a2 = some q ∧ ambryref28_Check.f a0 a1 a2 = some q := by
      by_cases hp : Pol a0 a1 a2
      · exact ⟨0, Check_t hp, by unfold ambryref28_Check.f; rw [Right_t hp, Option.bind_some, if_pos rfl]⟩
      · exact ⟨2, Check_f hp, by unfold ambryref28_Check.f; rw [Right_f hp, Option.bind_some, if_neg (by decide)]⟩
    by_cases h : Pol a0 a1 a2 ∧ Up l 0
    · have h1 := Keep_t (k := 3000) hl (by omega) h.1 h.2
      have h2 := ref_Keep (k := 3000) hl (by omega) h.1 h.2
      refine ⟨_, _, _, h1, h2, Next_t hl (by omega) h.1 h.2, hchk, trivial, (kept_sub l a0 a1 a2).length_le, List.length_filter_le _ _, ?_⟩
      unfold retain_Mark.f ambryref28_Mark.f
      rw [h1, h2, Option.bind_some, Option.bind_some, if_pos rfl]
      by_cases h0 : ((kept l a0 a1 a2).length : Int) = 0
      · exact ⟨0, 0, by rw [if_pos h0], by rw [if_pos h0]⟩
      · exact ⟨rd (kept l a0 a1 a2) 0, 0, by rw [if_neg h0, if_pos (by show (0 : Int) < ((kept l a0 a1 a2).length : Int); omega)], by rw [if_neg h0, if_pos (by show (0 : Int) < ((kept l a0 a1 a2).length : Int); omega)]⟩
    · obtain ⟨c, hc, h1, h2⟩ := Keep_bad (k := 3000) hl (by omega) h
      have hc0 : ¬ c = 0 := by rcases hc with rfl | rfl <;> decide
      refine ⟨[], [], c, h1, h2, ?_, hchk, trivial, by simp, by simp, 0, c, ?_, ?_⟩
      · unfold retain_Next.f
        rw [h1, Option.bind_some, if_neg hc0]
      · unfold retain_Mark.f
        rw [h1, Option.bind_some, if_neg hc0]
      · unfold ambryref28_Mark.f
        rw [h2, Option.bind_some, if_neg hc0]
  obtain ⟨q, hq, hq2⟩ := hC
  rw [hK, Option.bind_some, hN, Option.bind_some, hM, Option.bind_some, hR, Option.bind_some, hM2, Option.bind_some, hsame kk hkl, Option.bind_some, if_pos rfl, if_pos rfl, hsame g hgl, Option.bind_some, if_pos rfl, if_pos rfl, if_pos rfl, if_pos rfl, hq, Option.bind_some, hq2, Option.bind_some, if_pos rfl, hsame l (Nat.le_refl _), Option.bind_some, if_pos rfl, if_pos (by omega), if_pos hrd, lives _ (by omega)]
  rfl
end Go.Proofs.Ytfnenbkmbfbeaaa.Pure
