/- The order of fields' bytes is the numbers' order; what bytes tell is the number that they were made of. -/
import Derived.Test.YtgppbcgbnlobbaaBe
import Derived.Test.YtgppbcgbnlobbaaRd
namespace Go.Proofs.Ytgppbcgbnlobbaa.Be
open Go.RowKit Go.Proofs.YtgppbcgbnlobbaaW.PrintWords

theorem num_shift (l : List Int) : ∀ acc : Int, l.foldl (fun n c => n * 256 + c) acc = acc * 256 ^ l.length + Rd.num l := by
  induction l with
  | nil => intro acc; simp [Rd.num]
  | cons c l ih =>
    intro acc
    unfold Rd.num
    rw [List.foldl_cons, List.foldl_cons, ih, ih, List.length_cons, Int.pow_succ, Int.zero_mul, Int.zero_add, Int.add_mul, Int.mul_assoc, Int.mul_comm 256, Int.add_assoc]
theorem num_cons (c : Int) (l : List Int) : Rd.num (c :: l) = c * 256 ^ l.length + Rd.num l := by
  have := num_shift l c
  unfold Rd.num
  rw [List.foldl_cons, Int.zero_mul, Int.zero_add]
  exact this
theorem num_be (n m : Nat) : Rd.num (be n (m : Int)) = ((m % 256 ^ n : Nat) : Int) := by
  induction n with
  | zero => simp [be, Rd.num, Nat.mod_one]
  | succ n ih =>
    have h := Nat.mod_mul (a := 256 ^ n) (b := 256) (x := m)
    rw [be, num_cons, be_length, ih, Nat.pow_succ, h]
    simp only [Int.natCast_add, Int.natCast_mul, Int.natCast_emod, Int.natCast_ediv, Int.natCast_pow]
    rw [Int.mul_comm, Int.add_comm]
    rfl
def u8 (l : List Int) : List UInt8 := l.map fun n => UInt8.ofNat n.toNat
theorem pow_pos' (n : Nat) : (0 : Int) < 256 ^ n := Int.pow_pos (by omega)
theorem less_num (a : List Int) : ∀ b : List Int, a.length = b.length → (∀ x ∈ a, 0 ≤ x ∧ x ≤ 255) → (∀ x ∈ b, 0 ≤ x ∧ x ≤ 255) →
    (Op.bytesLess (u8 a) (u8 b) = true ↔ Rd.num a < Rd.num b) ∧ ((u8 a = u8 b) ↔ Rd.num a = Rd.num b) := by
  induction a with
  | nil =>
    intro b h _ _
    obtain rfl : b = [] := List.eq_nil_of_length_eq_zero h.symm
    simp [u8, Op.bytesLess, Rd.num]
  | cons c a ih =>
    intro b h ha hb
    match b, h with
    | d :: b, h =>
      have hl : a.length = b.length := by simpa using h
      obtain ⟨h1, h2⟩ := ih b hl (fun x hx => ha x (by simp [hx])) (fun x hx => hb x (by simp [hx]))
      have hc := ha c (by simp)
      have hd := hb d (by simp)
      obtain ⟨a0, a1⟩ := Rd.num_bd a (fun x hx => ha x (by simp [hx]))
      obtain ⟨b0, b1⟩ := Rd.num_bd b (fun x hx => hb x (by simp [hx]))
      rw [num_cons, num_cons, hl] at *
      have hp := pow_pos' b.length
      generalize (256 : Int) ^ b.length = P at *
      generalize Rd.num a = A at *
      generalize Rd.num b = B at *
      have e1 : (UInt8.ofNat c.toNat < UInt8.ofNat d.toNat) ↔ c < d := by
        rw [UInt8.lt_iff_toNat_lt, UInt8.toNat_ofNat', UInt8.toNat_ofNat']
        omega
      have e2 : (UInt8.ofNat c.toNat = UInt8.ofNat d.toNat) ↔ c = d := by
        rw [← UInt8.toNat_inj, UInt8.toNat_ofNat', UInt8.toNat_ofNat']
        omega
      have e3 : u8 (c :: a) = UInt8.ofNat c.toNat :: u8 a := rfl
      have e4 : u8 (d :: b) = UInt8.ofNat d.toNat :: u8 b := rfl
      rw [e3, e4]
      simp only [Op.bytesLess, Bool.or_eq_true, Bool.and_eq_true, decide_eq_true_eq, beq_iff_eq, List.cons.injEq, e1, e2, h1, h2]
      rcases Int.lt_trichotomy c d with hcd | hcd | hcd
      · have h3 : (c + 1) * P ≤ d * P := Int.mul_le_mul_of_nonneg_right (by omega) (by omega)
        rw [Int.add_mul] at h3
        constructor <;> constructor <;> intro h4 <;> omega
      · subst hcd
        constructor <;> constructor <;> intro h4 <;> omega
      · have h3 : (d + 1) * P ≤ c * P := Int.mul_le_mul_of_nonneg_right (by omega) (by omega)
        rw [Int.add_mul] at h3
        constructor <;> constructor <;> intro h4 <;> omega
end Go.Proofs.Ytgppbcgbnlobbaa.Be
