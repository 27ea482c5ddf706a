import Derived.Test.YtmdgdndidfcapaaKQBx10
import Derived.Lib.Bytes
namespace Go.Proofs.Ytmdgdndidfcapaa.Be
open Go.RowKit Go.Proofs.Ytmdgdndidfcapaa.QB Go.Proofs.YtmdgdndidfcapaaW.PrintWords Go.Proofs.YtmdgdndidfcapaaW.PrintLast Go.Proofs.YtmdgdndidfcapaaW.PrintMore
/-- The n lowest bytes of a number, the greatest first. -/
def be : Nat → Int → List Int
 | 0, _ => []
 | n + 1, x => (x / 256 ^ n) % 256 :: be n x
theorem be_length (n : Nat) (x : Int) : (be n x).length = n := by
 induction n with
 | zero => rfl
 | succ n ih => simp [be, ih]
theorem be_range (n : Nat) (x : Int) : ∀ y ∈ be n x, 0 ≤ y ∧ y ≤ 255 := by
 induction n with
 | zero => simp [be]
 | succ n ih =>
  intro y hy
  simp only [be, List.mem_cons] at hy
  rcases hy with rfl | hy
  ·omega
  ·exact ih y hy
theorem wrap_u64_mod (n : Int) : IntKind.u64.wrap n = n % 18446744073709551616 := by simp [IntKind.wrap, IntKind.bits, IntKind.signed]
theorem wrap_u16_mod (n : Int) : IntKind.u16.wrap n = n % 65536 := by simp [IntKind.wrap, IntKind.bits, IntKind.signed]
theorem shr_be (X : Int) (j : Nat) (hj : j ≤ 8) : shr .u64 X (8 * (j : Int)) = X / 256 ^ j := by
 unfold shr
 rw [Nat.min_eq_left (by simp [IntKind.bits]; omega), show (8 * (j : Int)).toNat = 8 * j from by omega, Int.pow_mul]
 rfl
theorem w64 (x : Int) (h0 : -9223372036854775808 ≤ x) (h1 : x ≤ 9223372036854775807) : wrap64 x = x := by unfold wrap64; omega
theorem be_1 (x y : Int) (h : x % 256 = y % 256) : be 1 x = be 1 y := by simp [be]; omega
theorem be_2 (x y : Int) (h : x % 65536 = y % 65536) : be 2 x = be 2 y := by simp [be]; omega
theorem be_4 (x y : Int) (h : x % 4294967296 = y % 4294967296) : be 4 x = be 4 y := by simp [be]; omega
theorem be_8 (x y : Int) (h : x % 18446744073709551616 = y % 18446744073709551616) : be 8 x = be 8 y := by simp [be]; omega
theorem put8_loop (x : Int) : ∀ (j K : Nat) (l : List Int), j ≤ 8 → j < K → l.length + j ≤ 140737488355328 → field_put_uint8.l0 K l x ((j : Int) - 1) = some (l ++ be j (IntKind.u64.wrap x)) := by
 intro j
 induction j with
 | zero =>
  intro K l _ hK _
  obtain ⟨K, rfl⟩ : ∃ m, K = m + 1 := ⟨K - 1, by omega⟩
  simp only [field_put_uint8.l0]
  rw [if_neg (by omega)]
  simp [be]
 | succ j ih =>
  intro K l hj hK hl
  obtain ⟨K, rfl⟩ : ∃ m, K = m + 1 := ⟨K - 1, by omega⟩
  simp only [field_put_uint8.l0]
  have e : ((j + 1 : Nat) : Int) - 1 = (j : Int) := by omega
  rw [e, w64 (8 * (j : Int)) (by omega) (by omega), w64 ((j : Int) - 1) (by omega) (by omega), if_pos (by omega), if_pos (by omega), if_pos (by omega), shr_be _ j (by omega), ih K _ (by omega) (by omega) (by simp; omega)]
  simp [be]
theorem put16_loop (x : Int) : ∀ (j K : Nat) (l : List Int), j ≤ 8 → j < K → l.length + j ≤ 140737488355328 → field_put_uint16.l0 K l x ((j : Int) - 1) = some (l ++ be j (IntKind.u64.wrap x)) := by
 intro j
 induction j with
 | zero =>
  intro K l _ hK _
  obtain ⟨K, rfl⟩ : ∃ m, K = m + 1 := ⟨K - 1, by omega⟩
  simp only [field_put_uint16.l0]
  rw [if_neg (by omega)]
  simp [be]
 | succ j ih =>
  intro K l hj hK hl
  obtain ⟨K, rfl⟩ : ∃ m, K = m + 1 := ⟨K - 1, by omega⟩
  simp only [field_put_uint16.l0]
  have e : ((j + 1 : Nat) : Int) - 1 = (j : Int) := by omega
  rw [e, w64 (8 * (j : Int)) (by omega) (by omega), w64 ((j : Int) - 1) (by omega) (by omega), if_pos (by omega), if_pos (by omega), if_pos (by omega), shr_be _ j (by omega), ih K _ (by omega) (by omega) (by simp; omega)]
  simp [be]
theorem put32_loop (x : Int) : ∀ (j K : Nat) (l : List Int), j ≤ 8 → j < K → l.length + j ≤ 140737488355328 → field_put_uint32.l0 K l x ((j : Int) - 1) = some (l ++ be j (IntKind.u64.wrap x)) := by
 intro j
 induction j with
 | zero =>
  intro K l _ hK _
  obtain ⟨K, rfl⟩ : ∃ m, K = m + 1 := ⟨K - 1, by omega⟩
  simp only [field_put_uint32.l0]
  rw [if_neg (by omega)]
  simp [be]
 | succ j ih =>
  intro K l hj hK hl
  obtain ⟨K, rfl⟩ : ∃ m, K = m + 1 := ⟨K - 1, by omega⟩
  simp only [field_put_uint32.l0]
  have e : ((j + 1 : Nat) : Int) - 1 = (j : Int) := by omega
  rw [e, w64 (8 * (j : Int)) (by omega) (by omega), w64 ((j : Int) - 1) (by omega) (by omega), if_pos (by omega), if_pos (by omega), if_pos (by omega), shr_be _ j (by omega), ih K _ (by omega) (by omega) (by simp; omega)]
  simp [be]
theorem put64_loop (x : Int) : ∀ (j K : Nat) (l : List Int), j ≤ 8 → j < K → l.length + j ≤ 140737488355328 → field_put_uint64.l0 K l x ((j : Int) - 1) = some (l ++ be j x) := by
 intro j
 induction j with
 | zero =>
  intro K l _ hK _
  obtain ⟨K, rfl⟩ : ∃ m, K = m + 1 := ⟨K - 1, by omega⟩
  simp only [field_put_uint64.l0]
  rw [if_neg (by omega)]
  simp [be]
 | succ j ih =>
  intro K l hj hK hl
  obtain ⟨K, rfl⟩ : ∃ m, K = m + 1 := ⟨K - 1, by omega⟩
  simp only [field_put_uint64.l0]
  have e : ((j + 1 : Nat) : Int) - 1 = (j : Int) := by omega
  rw [e, w64 (8 * (j : Int)) (by omega) (by omega), w64 ((j : Int) - 1) (by omega) (by omega), if_pos (by omega), if_pos (by omega), if_pos (by omega), shr_be _ j (by omega), ih K _ (by omega) (by omega) (by simp; omega)]
  simp [be]
theorem Put8 (K : Nat) (l : List Int) (x : Int) (hK : 1 < K) (hl : l.length + 1 ≤ 140737488355328) : field_Put8.f K l x = some (l ++ be 1 x) := by
 unfold field_Put8.f field_put_uint8.f
 have e : wrap64 (1 - 1) = ((1 : Nat) : Int) - 1 := by unfold wrap64; omega
 rw [e, put8_loop _ 1 K l (by omega) hK hl]
 simp only [Option.bind_some]
 rw [be_1 _ x (by rw [wrap_u64_mod]; omega)]
theorem Put16 (K : Nat) (l : List Int) (x : Int) (hK : 2 < K) (hl : l.length + 2 ≤ 140737488355328) : field_Put16.f K l x = some (l ++ be 2 x) := by
 unfold field_Put16.f field_put_uint16.f
 have e : wrap64 (2 - 1) = ((2 : Nat) : Int) - 1 := by unfold wrap64; omega
 rw [e, put16_loop _ 2 K l (by omega) hK hl]
 simp only [Option.bind_some]
 rw [be_2 _ x (by rw [wrap_u64_mod, wrap_u16_mod]; omega)]
theorem Put32 (K : Nat) (l : List Int) (x : Int) (hK : 4 < K) (hl : l.length + 4 ≤ 140737488355328) : field_Put32.f K l x = some (l ++ be 4 x) := by
 unfold field_Put32.f field_put_uint32.f
 have e : wrap64 (4 - 1) = ((4 : Nat) : Int) - 1 := by unfold wrap64; omega
 rw [e, put32_loop _ 4 K l (by omega) hK hl]
 simp only [Option.bind_some]
 rw [be_4 _ x (by rw [wrap_u64_mod]; omega)]
theorem Put64 (K : Nat) (l : List Int) (x : Int) (hK : 8 < K) (hl : l.length + 8 ≤ 140737488355328) : field_Put64.f K l x = some (l ++ be 8 x) := by
 unfold field_Put64.f field_put_uint64.f
 have e : wrap64 (8 - 1) = ((8 : Nat) : Int) - 1 := by unfold wrap64; omega
 rw [e, put64_loop _ 8 K l (by omega) hK hl]
 simp only [Option.bind_some]
 rw [be_8 _ x (by rw [wrap_u64_mod]; omega)]
theorem strOfNums_bytesOf (s : ByteArray) : strOfNums (bytesOf s) = s := by
 unfold strOfNums bytesOf
 apply ByteArray.ext
 apply Array.ext'
 simp only [List.map_map]
 have e : ((fun n : Int => UInt8.ofNat n.toNat) ∘ fun b : UInt8 => (b.toNat : Int)) = id := by
  funext b
  simp
 rw [e, List.map_id]
end Go.Proofs.Ytmdgdndidfcapaa.Be
