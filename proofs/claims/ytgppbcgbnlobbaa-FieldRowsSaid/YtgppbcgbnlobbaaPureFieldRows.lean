/- FieldRows over plain numbers and lists: two numbers that fit a width stand in the order of their fields' bytes. -/
import Derived.Test.YtgppbcgbnlobbaaQFx4
import Derived.Test.YtgppbcgbnlobbaaOrd
namespace Go.Proofs.Ytgppbcgbnlobbaa.Pure
open Go.RowKit Go.Proofs.Ytgppbcgbnlobbaa.QF Go.Proofs.YtgppbcgbnlobbaaW.PrintWords Go.Proofs.YtgppbcgbnlobbaaW.PrintLast Go.Proofs.YtgppbcgbnlobbaaW.PrintMore
open Go.Proofs.Ytgppbcgbnlobbaa.Be (be be_length be_range u8 num_be less_num toList_strOfNums wrap_u64_mod)

theorem wrap_small (n : Nat) (h : n < 9223372036854775808) : IntKind.i64.wrap (n : Int) = n := by
  rw [IntKind.wrap_i64]
  omega
theorem and_bd (x : Int) (m : Nat) (hm : m < 9223372036854775808) : ∃ r : Nat, Go.bits .and .i64 x (m : Int) = r ∧ r ≤ m := by
  refine ⟨(BitVec.ofInt 64 x).toNat &&& (m % 2 ^ 64), ?_, Nat.le_trans Nat.and_le_right (Nat.mod_le _ _)⟩
  unfold Go.bits
  simp only [BitVec.ofInt_natCast, BitVec.toNat_and, BitVec.toNat_ofNat]
  have h : (BitVec.ofInt 64 x).toNat &&& (m % 2 ^ 64) < 9223372036854775808 := Nat.lt_of_le_of_lt (Nat.le_trans Nat.and_le_right (Nat.mod_le _ _)) hm
  exact wrap_small _ h
theorem rows_core (n x y : Nat) (hx : x < 256 ^ n) (hy : y < 256 ^ n) :
    ((decide ((x : Int) < y)) == Op.bytesLess ((strOfNums (be n x)).toList) ((strOfNums (be n y)).toList)) = true ∧
    (((x : Int) == y) == ((strOfNums (be n x)).toList == (strOfNums (be n y)).toList)) = true ∧ ((strOfNums (be n x)).size : Int) = n := by
  obtain ⟨h1, h2⟩ := less_num (be n x) (be n y) (by rw [be_length, be_length]) (be_range n x) (be_range n y)
  rw [num_be, num_be, Nat.mod_eq_of_lt hx, Nat.mod_eq_of_lt hy] at h1 h2
  rw [toList_strOfNums, toList_strOfNums]
  refine ⟨?_, ?_, by rw [strOfNums_size, be_length]⟩
  · rw [beq_iff_eq]
    cases hb : Op.bytesLess (u8 (be n x)) (u8 (be n y)) with
    | true => exact Eq.trans (decide_eq_true (h1.1 hb)) hb.symm
    | false => exact Eq.trans (decide_eq_false fun h => by rw [h1.2 h] at hb; cases hb) hb.symm
  · rw [beq_iff_eq, Bool.eq_iff_iff, beq_iff_eq, beq_iff_eq]
    exact h2.symm
theorem shl_pow (m : Nat) (hm : m ≤ 3) : shl .i64 1 (m : Int) = ((2 ^ m : Nat) : Int) := (by decide : ∀ m : Fin 4, shl .i64 1 ((m.val : Nat) : Int) = ((2 ^ m.val : Nat) : Int)) ⟨m, by omega⟩
theorem FieldRows : ambrylaw01_FieldRows.Pure := by
  intro a b w _ _ hw
  refine ⟨10, ?_⟩
  unfold ambrylaw01_FieldRows.f
  by_cases h0 : w < 0
  · rw [if_pos h0]
    rfl
  · rw [if_neg h0]
    by_cases h3 : w > 3
    · rw [decide_eq_true h3]
      rfl
    · rw [decide_eq_false h3]
      obtain ⟨m, rfl⟩ : ∃ m : Nat, w = m := ⟨w.toNat, by omega⟩
      have hm : m ≤ 3 := by omega
      have key : ∀ mask : Nat, mask < 9223372036854775808 → mask < 256 ^ (2 ^ m) → rd [255, 65535, 4294967295, 9223372036854775807] (m : Int) = mask → ambrylaw01_FieldRows.j0 10 a b m false = some true := by
        intro mask h63 hmask hrd
        obtain ⟨x, ex, hx⟩ := and_bd a mask h63
        obtain ⟨y, ey, hy⟩ := and_bd b mask h63
        obtain ⟨r1, r2, r3⟩ := rows_core (2 ^ m) x y (by omega) (by omega)
        show ambrylaw01_FieldRows.j0 (9 + 1) a b m false = some true
        simp only [ambrylaw01_FieldRows.j0]
        rw [if_neg (by decide)]
        simp only [Option.bind_some]
        rw [if_pos (by omega), if_pos (by simp; omega), hrd, ex, ey, Be.put 9 m [] _ hm (by omega) (by simp), Be.put 9 m [] _ hm (by omega) (by simp)]
        simp only [Option.bind_some, List.nil_append]
        have e1 : IntKind.u64.wrap (m : Int) = m := by rw [wrap_u64_mod]; omega
        have e2 := shl_pow m hm
        rw [if_pos r1, if_pos r2, e1, if_pos (by omega), e2, if_pos r3]
        rfl
      rcases (by omega : m = 0 ∨ m = 1 ∨ m = 2 ∨ m = 3) with h | h | h | h
      · subst h; exact key 255 (by decide) (by decide +kernel) (by simp [rd])
      · subst h; exact key 65535 (by decide) (by decide +kernel) (by simp [rd])
      · subst h; exact key 4294967295 (by decide) (by decide +kernel) (by simp [rd])
      · subst h; exact key 9223372036854775807 (by decide) (by decide +kernel) (by simp [rd])
end Go.Proofs.Ytgppbcgbnlobbaa.Pure
