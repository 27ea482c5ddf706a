/- How often a number stands in a list. -/
import Derived.Test.YtfnenbkmbfbeaaaPlain
import Derived.Test.YtfnenbkmbfbeaaaQCx3
namespace Go.Proofs.Ytfnenbkmbfbeaaa.Pure
open Go.RowKit Go.Proofs.Ytfnenbkmbfbeaaa.QC Go.Proofs.YtfnenbkmbfbeaaaW.PrintWords Go.Proofs.YtfnenbkmbfbeaaaW.PrintLast Go.Proofs.YtfnenbkmbfbeaaaW.PrintMore
set_option linter.unusedVariables false
theorem among_loop (l : List Int) (x : Int) (hl : l.length ≤ 4000) : ∀ (d i k c : Nat), d + i = l.length → d < k → c ≤ i → ambrylaw28_among.l0 k l x (c : Int) (i : Int) = some (((c + (l.drop i).count x : Nat) : Int)) := by
  intro d
  induction d with
  | zero =>
    intro i k c hd hk hc
    obtain ⟨k, rfl⟩ : ∃ k', k = k' + 1 := ⟨k - 1, by omega⟩
    simp only [ambrylaw28_among.l0]
    rw [if_neg (by omega), List.drop_eq_nil_of_le (by omega)]
    simp
  | succ d ih =>
    intro i k c hd hk hc
    obtain ⟨k, rfl⟩ : ∃ k', k = k' + 1 := ⟨k - 1, by omega⟩
    simp only [ambrylaw28_among.l0]
    have hi : i < l.length := by omega
    rw [if_pos (by omega), if_pos (by omega), wsucc i (by omega), wsucc c (by omega), List.drop_eq_getElem_cons hi, List.count_cons, rd_get _ _ hi]
    by_cases e : l[i] = x
    · rw [if_pos e, ih (i + 1) k (c + 1) (by omega) (by omega) (by omega)]
      simp [e]; omega
    · rw [if_neg e, ih (i + 1) k c (by omega) (by omega) (by omega)]
      simp [e]
theorem among_is (l : List Int) (x : Int) (k : Nat) (hl : l.length ≤ 4000) (hk : l.length < k) : ambrylaw28_among.f k l x = some ((l.count x : Nat) : Int) := by
  unfold ambrylaw28_among.f
  have h := among_loop l x hl l.length 0 k 0 rfl hk (Nat.le_refl _)
  rw [List.drop_zero, Nat.zero_add] at h
  exact h
theorem count_one : ∀ {l : List Int}, l.Pairwise (fun a b => a < b) → ∀ {x : Int}, x ∈ l → l.count x = 1
  | [], _, x, hx => by simp at hx
  | y :: l, h, x, hx => by
    rw [List.pairwise_cons] at h
    rw [List.count_cons]
    by_cases e : y = x
    · subst e
      rw [List.count_eq_zero_of_not_mem (fun hm => by have := h.1 y hm; omega)]
      simp
    · have hm : x ∈ l := by
        rw [List.mem_cons] at hx
        rcases hx with rfl | hx
        · exact absurd rfl e
        · exact hx
      rw [count_one h.2 hm]
      simp [e]
end Go.Proofs.Ytfnenbkmbfbeaaa.Pure
