/- The bytes of numbers' fields, in plain lists: what the printed functions of layer 1 tell. No memory and no program in sight. -/
import Derived.Test.YtgppbcgbnlobbaaQFx1
import Derived.Lib.Bytes
namespace Go.Proofs.Ytgppbcgbnlobbaa.Be
open Go.RowKit Go.Proofs.Ytgppbcgbnlobbaa.QF Go.Proofs.YtgppbcgbnlobbaaW.PrintWords Go.Proofs.YtgppbcgbnlobbaaW.PrintLast Go.Proofs.YtgppbcgbnlobbaaW.PrintMore

/-- The n lowest bytes of a number, the greatest first. -/
def be : Nat → Int → List Int
  | 0, _ => []
  | n + 1, x => (x / 256 ^ n) % 256 :: be n x
theorem be_length (n : Nat) (x : Int) : (be n x).length = n := by
  induction n with
  | zero => rfl
  | succ n ih => simp [be, ih]
theorem be_range (n : Nat) (x : Int) : ∀ y ∈ be n x, 0 ≤ y ∧ y ≤ 255 := by
  induction n with
  | zero => simp [be]
  | succ n ih =>
    intro y hy
    simp only [be, List.mem_cons] at hy
    rcases hy with rfl | hy
    · omega
    · exact ih y hy
theorem wrap_u64_mod (n : Int) : IntKind.u64.wrap n = n % 18446744073709551616 := by simp [IntKind.wrap, IntKind.bits, IntKind.signed]
theorem wrap_u16_mod (n : Int) : IntKind.u16.wrap n = n % 65536 := by simp [IntKind.wrap, IntKind.bits, IntKind.signed]
theorem shr_be (X : Int) (j : Nat) (hj : j ≤ 8) : shr .u64 X (8 * (j : Int)) = X / 256 ^ j := by
  unfold shr
  rw [Nat.min_eq_left (by simp [IntKind.bits]; omega), show (8 * (j : Int)).toNat = 8 * j from by omega, Int.pow_mul]
  rfl
theorem w64 (x : Int) (h0 : -9223372036854775808 ≤ x) (h1 : x ≤ 9223372036854775807) : wrap64 x = x := by unfold wrap64; omega
theorem be_1 (x y : Int) (h : x % 256 = y % 256) : be 1 x = be 1 y := by simp [be]; omega
theorem be_2 (x y : Int) (h : x % 65536 = y % 65536) : be 2 x = be 2 y := by simp [be]; omega
theorem be_4 (x y : Int) (h : x % 4294967296 = y % 4294967296) : be 4 x = be 4 y := by simp [be]; omega
theorem be_8 (x y : Int) (h : x % 18446744073709551616 = y % 18446744073709551616) : be 8 x = be 8 y := by simp [be]; omega
theorem put8_loop (x : Int) : ∀ (j K : Nat) (l : List Int), j ≤ 8 → j < K → l.length + j ≤ 140737488355328 → field_put_uint8.l0 K l x ((j : Int) - 1) = some (l ++ be j (IntKind.u64.wrap x)) := by
  intro j
  induction j with
  | zero =>
    intro K l _ hK _
    obtain ⟨K, rfl⟩ : ∃ m, K = m + 1 := ⟨K - 1, by omega⟩
    simp only [field_put_uint8.l0]
    rw [if_neg (by omega)]
    simp [be]
  | succ j ih =>
    intro K l hj hK hl
    obtain ⟨K, rfl⟩ : ∃ m, K = m + 1 := ⟨K - 1, by omega⟩
    simp only [field_put_uint8.l0]
    have e : ((j + 1 : Nat) : Int) - 1 = (j : Int) := by omega
    rw [e, w64 (8 * (j : Int)) (by omega) (by omega), w64 ((j : Int) - 1) (by omega) (by omega), if_pos (by omega), if_pos (by omega), if_pos (by omega), shr_be _ j (by omega), ih K _ (by omega) (by omega) (by simp; omega)]
    simp [be]
theorem put16_loop (x : Int) : ∀ (j K : Nat) (l : List Int), j ≤ 8 → j < K → l.length + j ≤ 140737488355328 → field_put_uint16.l0 K l x ((j : Int) - 1) = some (l ++ be j (IntKind.u64.wrap x)) := by
  intro j
  induction j with
  | zero =>
    intro K l _ hK _
    obtain ⟨K, rfl⟩ : ∃ m, K = m + 1 := ⟨K - 1, by omega⟩
    simp only [field_put_uint16.l0]
    rw [if_neg (by omega)]
    simp [be]
  | succ j ih =>
    intro K l hj hK hl
    obtain ⟨K, rfl⟩ : ∃ m, K = m + 1 := ⟨K - 1, by omega⟩
    simp only [field_put_uint16.l0]
    have e : ((j + 1 : Nat) : Int) - 1 = (j : Int) := by omega
    rw [e, w64 (8 * (j : Int)) (by omega) (by omega), w64 ((j : Int) - 1) (by omega) (by omega), if_pos (by omega), if_pos (by omega), if_pos (by omega), shr_be _ j (by omega), ih K _ (by omega) (by omega) (by simp; omega)]
    simp [be]
theorem put32_loop (x : Int) : ∀ (j K : Nat) (l : List Int), j ≤ 8 → j < K → l.length + j ≤ 140737488355328 → field_put_uint32.l0 K l x ((j : Int) - 1) = some (l ++ be j (IntKind.u64.wrap x)) := by
  intro j
  induction j with
  | zero =>
    intro K l _ hK _
    obtain ⟨K, rfl⟩ : ∃ m, K = m + 1 := ⟨K - 1, by omega⟩
    simp only [field_put_uint32.l0]
    rw [if_neg (by omega)]
    simp [be]
  | succ j ih =>
    intro K l hj hK hl
    obtain ⟨K, rfl⟩ : ∃ m, K = m + 1 := ⟨K - 1, by omega⟩
    simp only [field_put_uint32.l0]
    have e : ((j + 1 : Nat) : Int) - 1 = (j : Int) := by omega
    rw [e, w64 (8 * (j : Int)) (by omega) (by omega), w64 ((j : Int) - 1) (by omega) (by omega), if_pos (by omega), if_pos (by omega), if_pos (by omega), shr_be _ j (by omega), ih K _ (by omega) (by omega) (by simp; omega)]
    simp [be]
theorem put64_loop (x : Int) : ∀ (j K : Nat) (l : List Int), j ≤ 8 → j < K → l.length + j ≤ 140737488355328 → field_put_uint64.l0 K l x ((j : Int) - 1) = some (l ++ be j x) := by
  intro j
  induction j with
  | zero =>
    intro K l _ hK _
    obtain ⟨K, rfl⟩ : ∃ m, K = m + 1 := ⟨K - 1, by omega⟩
    simp only [field_put_uint64.l0]
    rw [if_neg (by omega)]
    simp [be]
  | succ j ih =>
    intro K l hj hK hl
    obtain ⟨K, rfl⟩ : ∃ m, K = m + 1 := ⟨K - 1, by omega⟩
    simp only [field_put_uint64.l0]
    have e : ((j + 1 : Nat) : Int) - 1 = (j : Int) := by omega
    rw [e, w64 (8 * (j : Int)) (by omega) (by omega), w64 ((j : Int) - 1) (by omega) (by omega), if_pos (by omega), if_pos (by omega), if_pos (by omega), shr_be _ j (by omega), ih K _ (by omega) (by omega) (by simp; omega)]
    simp [be]
theorem Put8 (K : Nat) (l : List Int) (x : Int) (hK : 1 < K) (hl : l.length + 1 ≤ 140737488355328) : field_Put8.f K l x = some (l ++ be 1 x) := by
  unfold field_Put8.f field_put_uint8.f
  have e : wrap64 (1 - 1) = ((1 : Nat) : Int) - 1 := by unfold wrap64; omega
  rw [e, put8_loop _ 1 K l (by omega) hK hl]
  simp only [Option.bind_some]
  rw [be_1 _ x (by rw [wrap_u64_mod]; omega)]
theorem Put16 (K : Nat) (l : List Int) (x : Int) (hK : 2 < K) (hl : l.length + 2 ≤ 140737488355328) : field_Put16.f K l x = some (l ++ be 2 x) := by
  unfold field_Put16.f field_put_uint16.f
  have e : wrap64 (2 - 1) = ((2 : Nat) : Int) - 1 := by unfold wrap64; omega
  rw [e, put16_loop _ 2 K l (by omega) hK hl]
  simp only [Option.bind_some]
  rw [be_2 _ x (by rw [wrap_u64_mod, wrap_u16_mod]; omega)]
theorem Put32 (K : Nat) (l : List Int) (x : Int) (hK : 4 < K) (hl : l.length + 4 ≤ 140737488355328) : field_Put32.f K l x = some (l ++ be 4 x) := by
  unfold field_Put32.f field_put_uint32.f
  have e : wrap64 (4 - 1) = ((4 : Nat) : Int) - 1 := by unfold wrap64; omega
  rw [e, put32_loop _ 4 K l (by omega) hK hl]
  simp only [Option.bind_some]
  rw [be_4 _ x (by rw [wrap_u64_mod]; omega)]
theorem Put64 (K : Nat) (l : List Int) (x : Int) (hK : 8 < K) (hl : l.length + 8 ≤ 140737488355328) : field_Put64.f K l x = some (l ++ be 8 x) := by
  unfold field_Put64.f field_put_uint64.f
  have e : wrap64 (8 - 1) = ((8 : Nat) : Int) - 1 := by unfold wrap64; omega
  rw [e, put64_loop _ 8 K l (by omega) hK hl]
  simp only [Option.bind_some]
  rw [be_8 _ x (by rw [wrap_u64_mod]; omega)]
theorem Field_loop (x : Int) : ∀ (j K : Nat) (l : List Int), j ≤ 8 → j < K → l.length + j ≤ 140737488355328 → ambryref01_Field.l0 K x l ((j : Int) - 1) = some (strOfNums (l ++ be j x)) := by
  intro j
  induction j with
  | zero =>
    intro K l _ hK _
    obtain ⟨K, rfl⟩ : ∃ m, K = m + 1 := ⟨K - 1, by omega⟩
    simp only [ambryref01_Field.l0]
    rw [if_neg (by omega)]
    simp [be]
  | succ j ih =>
    intro K l hj hK hl
    obtain ⟨K, rfl⟩ : ∃ m, K = m + 1 := ⟨K - 1, by omega⟩
    simp only [ambryref01_Field.l0]
    have e : ((j + 1 : Nat) : Int) - 1 = (j : Int) := by omega
    have e1 : IntKind.u64.wrap (j : Int) = j := by rw [wrap_u64_mod]; omega
    have e2 : IntKind.u64.wrap (8 * (j : Int)) = 8 * j := by rw [wrap_u64_mod]; omega
    rw [e, e1, e2, w64 ((j : Int) - 1) (by omega) (by omega), if_pos (by omega), if_pos (by omega), if_pos (by omega), shr_be _ j (by omega), ih K _ (by omega) (by omega) (by simp; omega)]
    simp [be]
theorem Field (K n : Nat) (x : Int) (hn : n ≤ 8) (hK : n < K) : ambryref01_Field.f K x n = some (strOfNums (be n (IntKind.u64.wrap x))) := by
  unfold ambryref01_Field.f
  rw [w64 ((n : Int) - 1) (by omega) (by omega), Field_loop _ n K [] hn hK (by simp; omega)]
  simp
theorem PutText (K : Nat) (l : List Int) (s : ByteArray) (hK : 4 < K) (hl : l.length + 4 + s.size < 140737488355328) : field_PutText.f K l s = some (l ++ be 4 s.size ++ bytesOf s) := by
  unfold field_PutText.f
  rw [Put32 K l _ hK (by omega)]
  simp only [Option.bind_some]
  rw [if_pos (by simp [be_length]; omega)]
theorem put (K w : Nat) (l : List Int) (x : Int) (hw : w ≤ 3) (hK : 8 < K) (hl : l.length + 8 ≤ 140737488355328) : ambrylaw01_put.f K l w x = some (l ++ be (2 ^ w) x) := by
  unfold ambrylaw01_put.f
  match w, hw with
  | 0, _ => rw [if_pos (by decide), Put8 K l x (by omega) (by omega)]; rfl
  | 1, _ => rw [if_neg (by decide), if_pos (by decide), Put16 K l x (by omega) (by omega)]; rfl
  | 2, _ => rw [if_neg (by decide), if_neg (by decide), if_pos (by decide), Put32 K l x (by omega) (by omega)]; rfl
  | 3, _ => rw [if_neg (by decide), if_neg (by decide), if_neg (by decide), Put64 K l x (by omega) (by omega)]; rfl
theorem strOfNums_append (a b : List Int) : strOfNums (a ++ b) = strOfNums a ++ strOfNums b := by
  unfold strOfNums
  apply ByteArray.ext
  simp
theorem strOfNums_bytesOf (s : ByteArray) : strOfNums (bytesOf s) = s := by
  unfold strOfNums bytesOf
  apply ByteArray.ext
  apply Array.ext'
  simp only [List.map_map]
  have e : ((fun n : Int => UInt8.ofNat n.toNat) ∘ fun b : UInt8 => (b.toNat : Int)) = id := by
    funext b
    simp
  rw [e, List.map_id]
/-- The order of fields' bytes. -/
theorem toList_strOfNums (l : List Int) : (strOfNums l).toList = l.map fun n => UInt8.ofNat n.toNat := by
  rw [Lib.toList_data]
  simp [strOfNums]
end Go.Proofs.Ytgppbcgbnlobbaa.Be
