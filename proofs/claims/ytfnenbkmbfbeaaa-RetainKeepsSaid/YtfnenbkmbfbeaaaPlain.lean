/- Times over plain lists: what the printed functions of chapter 28 answer. -/
import Derived.Test.YtfnenbkmbfbeaaaQCx2
namespace Go.Proofs.Ytfnenbkmbfbeaaa.Pure
open Go.RowKit Go.Proofs.Ytfnenbkmbfbeaaa.QC Go.Proofs.YtfnenbkmbfbeaaaW.PrintWords Go.Proofs.YtfnenbkmbfbeaaaW.PrintLast Go.Proofs.YtfnenbkmbfbeaaaW.PrintMore
set_option linter.unusedVariables false
theorem w64 (x : Int) (h0 : -9223372036854775808 ≤ x) (h1 : x ≤ 9223372036854775807) : wrap64 x = x := by unfold wrap64; omega
theorem wsucc (i : Nat) (h : i ≤ 100000) : wrap64 ((i : Int) + 1) = ((i + 1 : Nat) : Int) := by rw [w64 _ (by omega) (by omega)]; omega
theorem wpred (i : Nat) (h : i ≤ 100000) (h0 : 0 < i) : wrap64 ((i : Int) - 1) = ((i - 1 : Nat) : Int) := by rw [w64 _ (by omega) (by omega)]; omega
theorem rd_get (l : List Int) (j : Nat) (h : j < l.length) : rd l (j : Int) = l[j] := by unfold rd; rw [Int.toNat_natCast, List.getD_eq_getElem?_getD, List.getElem?_eq_getElem h]; rfl
/-- Times that are right from the i-th on: from 1 to 2^60, rising. -/
def Up (l : List Int) (i : Nat) : Prop := ∀ j, i ≤ j → j < l.length → 1 ≤ rd l (j : Int) ∧ rd l (j : Int) ≤ 1152921504606846976 ∧ (0 < j → rd l ((j - 1 : Nat) : Int) < rd l (j : Int))
theorem Up_step (l : List Int) (i : Nat) (h : i < l.length) : Up l i ↔ (1 ≤ rd l (i : Int) ∧ rd l (i : Int) ≤ 1152921504606846976 ∧ (0 < i → rd l ((i - 1 : Nat) : Int) < rd l (i : Int))) ∧ Up l (i + 1) := by
  constructor
  · intro H
    exact ⟨H i (Nat.le_refl _) h, fun j hj hl => H j (by omega) hl⟩
  · rintro ⟨H1, H2⟩ j hj hl
    by_cases e : j = i
    · subst e; exact H1
    · exact H2 j (by omega) hl
theorem rise_loop (l : List Int) (hl : l.length ≤ 4000) : ∀ (d i k : Nat), d + i = l.length → d < k → (Up l i → retain_rise.l0 k l l (l.length : Int) (i : Int) = some true) ∧ (¬ Up l i → retain_rise.l0 k l l (l.length : Int) (i : Int) = some false) := by
  intro d
  induction d with
  | zero =>
    intro i k hd hk
    obtain ⟨k, rfl⟩ : ∃ k', k = k' + 1 := ⟨k - 1, by omega⟩
    simp only [retain_rise.l0]
    rw [if_neg (by omega)]
    exact ⟨fun _ => rfl, fun h => absurd (fun j hj hl => absurd hl (by omega)) h⟩
  | succ d ih =>
    intro i k hd hk
    obtain ⟨k, rfl⟩ : ∃ k', k = k' + 1 := ⟨k - 1, by omega⟩
    have IH := ih (i + 1) k (by omega) (by omega)
    have hi : i < l.length := by omega
    rw [Up_step l i hi]
    simp only [retain_rise.l0]
    rw [if_pos (by omega), if_pos (by omega), if_pos (by omega), wsucc i (by omega)]
    by_cases h1 : rd l (i : Int) < 1
    · rw [if_pos h1]
      exact ⟨fun h => by have := h.1.1; omega, fun _ => rfl⟩
    rw [if_neg h1]
    by_cases h2 : rd l (i : Int) > 1152921504606846976
    · rw [if_pos h2]
      exact ⟨fun h => by have := h.1.2.1; omega, fun _ => rfl⟩
    rw [if_neg h2]
    by_cases h0 : 0 < i
    · rw [if_pos (show (i : Int) > 0 by omega), wpred i (by omega) h0, if_pos (by omega), if_pos (by omega)]
      by_cases ht : rd l (i : Int) ≤ rd l ((i - 1 : Nat) : Int)
      · rw [if_pos ht]
        exact ⟨fun h => by have := h.1.2.2 h0; omega, fun _ => rfl⟩
      · rw [if_neg ht]
        refine ⟨fun h => IH.1 h.2, fun h => IH.2 (fun h3 => h ⟨⟨by omega, by omega, fun _ => by omega⟩, h3⟩)⟩
    · rw [if_neg (show ¬ (i : Int) > 0 by omega)]
      refine ⟨fun h => IH.1 h.2, fun h => IH.2 (fun h3 => h ⟨⟨by omega, by omega, fun h4 => absurd h4 h0⟩, h3⟩)⟩
/-- What the loop of Reverse holds behind i rounds. -/
def mid (xs : List Int) (i : Nat) : List Int := (List.range xs.length).map fun j => if j < i ∨ xs.length - i ≤ j then xs.getD (xs.length - 1 - j) 0 else xs.getD j 0
theorem mid_len (xs : List Int) (i : Nat) : (mid xs i).length = xs.length := by simp [mid]
theorem mid_at (xs : List Int) (i j : Nat) (h : j < xs.length) : rd (mid xs i) (j : Int) = if j < i ∨ xs.length - i ≤ j then xs.getD (xs.length - 1 - j) 0 else xs.getD j 0 := by
  rw [rd_get _ _ (by rw [mid_len]; exact h)]
  simp [mid]
theorem mid_zero (xs : List Int) : mid xs 0 = xs := by
  apply List.ext_getElem (mid_len _ _)
  intro j h1 h2
  rw [← rd_get, mid_at _ _ _ h2, if_neg (by omega), List.getD_eq_getElem?_getD, List.getElem?_eq_getElem h2]; rfl
theorem mid_last (xs : List Int) (i : Nat) (h : xs.length ≤ 2 * i + 1) : mid xs i = xs.reverse := by
  apply List.ext_getElem (by rw [mid_len, List.length_reverse])
  intro j h1 h2
  rw [List.length_reverse] at h2
  rw [← rd_get, mid_at _ _ _ h2, List.getElem_reverse]
  have e : xs.getD (xs.length - 1 - j) 0 = xs[xs.length - 1 - j] := by rw [List.getD_eq_getElem?_getD, List.getElem?_eq_getElem (by omega)]; rfl
  by_cases hc : j < i ∨ xs.length - i ≤ j
  · rw [if_pos hc, e]
  · rw [if_neg hc, ← e]
    congr 1
    omega
theorem mid_step (xs : List Int) (i : Nat) (h : 2 * i + 1 < xs.length) : ((mid xs i).set i (rd (mid xs i) ((xs.length - 1 - i : Nat) : Int))).set (xs.length - 1 - i) (rd (mid xs i) (i : Int)) = mid xs (i + 1) := by
  rw [mid_at _ _ _ (by omega), mid_at _ _ _ (by omega), if_neg (by omega), if_neg (by omega)]
  apply List.ext_getElem (by simp [mid_len])
  intro j h1 h2
  rw [mid_len] at h2
  rw [← rd_get (mid xs (i + 1)), mid_at _ _ _ h2, List.getElem_set, List.getElem_set]
  by_cases e1 : xs.length - 1 - i = j
  · subst e1
    rw [if_pos rfl, if_pos (by omega)]
    congr 1; omega
  · rw [if_neg e1]
    by_cases e2 : i = j
    · subst e2
      rw [if_pos rfl, if_pos (by omega)]
    · rw [if_neg e2, ← rd_get (mid xs i), mid_at _ _ _ h2]
      by_cases hc : j < i ∨ xs.length - i ≤ j
      · rw [if_pos hc, if_pos (by omega)]
      · rw [if_neg hc, if_neg (by omega)]
theorem rev_loop (xs : List Int) (hl : xs.length ≤ 4000) : ∀ (d i k : Nat), xs.length ≤ 2 * i + d → 2 * i ≤ xs.length + 1 → d < k → slices_Reverse_int_int.l0 k (mid xs i) (i : Int) ((xs.length : Int) - 1 - i) = some xs.reverse := by
  intro d
  induction d with
  | zero =>
    intro i k h1 h3 hk
    obtain ⟨k, rfl⟩ : ∃ k', k = k' + 1 := ⟨k - 1, by omega⟩
    simp only [slices_Reverse_int_int.l0]
    rw [if_neg (by omega), mid_last xs i (by omega)]
  | succ d ih =>
    intro i k h1 h3 hk
    obtain ⟨k, rfl⟩ : ∃ k', k = k' + 1 := ⟨k - 1, by omega⟩
    simp only [slices_Reverse_int_int.l0]
    by_cases hlt : 2 * i + 1 < xs.length
    · have e : (xs.length : Int) - 1 - (i : Int) = ((xs.length - 1 - i : Nat) : Int) := by omega
      rw [mid_len, if_pos (by omega), if_pos (by omega), if_pos (by omega), if_pos (by omega), if_pos (by omega), e, Int.toNat_natCast, Int.toNat_natCast, mid_step xs i hlt, wsucc i (by omega)]
      have e2 : wrap64 (((xs.length - 1 - i : Nat) : Int) - 1) = (xs.length : Int) - 1 - ((i + 1 : Nat) : Int) := by rw [w64 _ (by omega) (by omega)]; omega
      rw [e2]
      exact ih (i + 1) k (by omega) (by omega) (by omega)
    · rw [if_neg (by omega), mid_last xs i (by omega)]
theorem Reverse_is (xs : List Int) (k : Nat) (hl : xs.length ≤ 4000) (hk : xs.length < k) : slices_Reverse_int_int.f k xs = some xs.reverse := by
  unfold slices_Reverse_int_int.f
  have h := rev_loop xs hl xs.length 0 k (by omega) (by omega) hk
  rw [mid_zero] at h
  rw [w64 _ (by omega) (by omega)]
  rw [show (xs.length : Int) - 1 = (xs.length : Int) - 1 - ((0 : Nat) : Int) by omega]
  exact h
end Go.Proofs.Ytfnenbkmbfbeaaa.Pure
