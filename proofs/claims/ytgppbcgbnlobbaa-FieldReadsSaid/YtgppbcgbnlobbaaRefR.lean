/- The document's reader, printed, tells what the program's reader tells: plain numbers and lists. -/
import Derived.Test.YtgppbcgbnlobbaaQRx1
import Derived.Test.YtgppbcgbnlobbaaRdText
namespace Go.Proofs.Ytgppbcgbnlobbaa.RefR
open Go.RowKit Go.Proofs.Ytgppbcgbnlobbaa.QR Go.Proofs.YtgppbcgbnlobbaaW.PrintWords Go.Proofs.YtgppbcgbnlobbaaW.PrintLast Go.Proofs.YtgppbcgbnlobbaaW.PrintMore

theorem w64 (x : Int) (h0 : -9223372036854775808 ≤ x) (h1 : x ≤ 9223372036854775807) : wrap64 x = x := by unfold wrap64; omega
theorem bt_str (xs : List Int) (hb : ∀ x ∈ xs, 0 ≤ x ∧ x ≤ 255) (i : Nat) (h : i < xs.length) : bt (strOfNums xs) (i : Int) = xs.getD i 0 := by
  have hs : i < (strOfNums xs).size := by rw [strOfNums_size]; exact h
  have h1 := hb xs[i] (List.getElem_mem h)
  unfold bt
  rw [dif_pos (show (i : Int).toNat < (strOfNums xs).size by omega), List.getD_eq_getElem?_getD, List.getElem?_eq_getElem h]
  have e : (strOfNums xs)[(i : Int).toNat]'(by omega) = UInt8.ofNat (xs[i]).toNat := by
    show (strOfNums xs).data[(i : Int).toNat]'_ = _
    simp [strOfNums]
  rw [e, UInt8.toNat_ofNat']
  simp only [Option.getD_some]
  omega
theorem Number_loop (xs : List Int) (hb : ∀ x ∈ xs, 0 ≤ x ∧ x ≤ 255) (hn : xs.length ≤ 140737488351232) (p n : Nat) (hp : p + n ≤ xs.length) (hn8 : n ≤ 8) :
    ∀ (d K i : Nat), i + d = n → d < K → ambryref01_Number.l0 K (strOfNums xs) (p : Int) (n : Int) (Rd.num ((xs.drop p).take i)) (i : Int) = some (wrap64 (Rd.num ((xs.drop p).take n))) := by
  intro d
  induction d with
  | zero =>
    intro K i hi hK
    obtain ⟨K, rfl⟩ : ∃ m, K = m + 1 := ⟨K - 1, by omega⟩
    obtain rfl : i = n := by omega
    simp only [ambryref01_Number.l0]
    rw [if_neg (by omega)]
  | succ d ih =>
    intro K i hi hK
    obtain ⟨K, rfl⟩ : ∃ m, K = m + 1 := ⟨K - 1, by omega⟩
    simp only [ambryref01_Number.l0]
    have e1 : wrap64 ((p : Int) + i) = ((p + i : Nat) : Int) := by rw [w64 _ (by omega) (by omega)]; omega
    have e2 : wrap64 ((i : Int) + 1) = ((i + 1 : Nat) : Int) := by rw [w64 _ (by omega) (by omega)]; omega
    obtain ⟨n0, n1⟩ := Rd.num_take_bd xs hb p i (by omega)
    obtain ⟨c0, c1⟩ := Rd.getD_byte hb (p + i)
    have e3 := Rd.num_take xs p i (by omega)
    rw [← List.getD_eq_getElem?_getD] at e3
    rw [if_pos (by omega), e1, if_pos (by omega), if_pos (by rw [strOfNums_size]; omega), e2, bt_str xs hb (p + i) (by omega), Rd.or_byte _ _ n0 n1 c0 c1, ← e3]
    exact ih K (i + 1) (by omega) (by omega)
theorem Number (K : Nat) (hK : 9 ≤ K) (xs : List Int) (hb : ∀ x ∈ xs, 0 ≤ x ∧ x ≤ 255) (hn : xs.length ≤ 140737488351232) (p n : Nat) (hp : p + n ≤ xs.length) (hn8 : n ≤ 8) :
    ambryref01_Number.f K (strOfNums xs) (p : Int) (n : Int) = some (wrap64 (Rd.num ((xs.drop p).take n))) := by
  unfold ambryref01_Number.f
  exact Number_loop xs hb hn p n hp hn8 n K 0 (by omega) (by omega)
/-- A reader's numbers that may be. -/
def Ok (xs : List Int) (p : Int) : Prop := (∀ x ∈ xs, 0 ≤ x ∧ x ≤ 255) ∧ xs.length ≤ 140737488351232 ∧ 0 ≤ p ∧ p ≤ xs.length
theorem Num (xs : List Int) (p err : Int) (n : Nat) (h : Ok xs p) (hn8 : n ≤ 8) :
    ambryref01_Reader_Num.f 9 (strOfNums xs) p err (n : Int) = some (strOfNums xs, (Rd.takeF xs p err n).2.1, (Rd.takeF xs p err n).2.2, (Rd.takeF xs p err n).1) := by
  obtain ⟨hb, hn, h0, h1⟩ := h
  obtain ⟨q, rfl⟩ := Int.eq_ofNat_of_zero_le h0
  unfold ambryref01_Reader_Num.f Rd.takeF
  by_cases he : err = 0
  · rw [if_pos he, if_pos he]
    by_cases h2 : (q : Int) + n ≤ xs.length
    · rw [if_neg (by rw [strOfNums_size, w64 _ (by omega) (by omega)]; omega), if_pos h2, Number 9 (by omega) xs hb hn q n (by omega) hn8]
      simp only [Option.bind_some, Int.toNat_natCast]
      rw [w64 _ (by omega) (by omega)]
    · rw [if_pos (by rw [strOfNums_size, w64 _ (by omega) (by omega)]; omega), if_neg h2]
      rfl
  · rw [if_neg he, if_neg he]
theorem Text (xs : List Int) (p err most : Int) (h : Ok xs p) :
    ambryref01_Reader_Text.f 9 (strOfNums xs) p err most = some (strOfNums xs, (Rd.textF xs p err most).2.1, (Rd.textF xs p err most).2.2, strOfNums (Rd.textF xs p err most).1) := by
  obtain ⟨hb, hn, h0, h1⟩ := id h
  obtain ⟨q, rfl⟩ := Int.eq_ofNat_of_zero_le h0
  have hN := Num xs q err 4 h (by omega)
  rw [show ((4 : Nat) : Int) = 4 from rfl] at hN
  unfold ambryref01_Reader_Text.f
  rw [hN]
  simp only [Option.bind_some]
  unfold Rd.takeF Rd.textF
  by_cases he : err = 0
  · rw [if_pos he, if_pos he]
    by_cases h2 : (q : Int) + 4 ≤ xs.length
    · obtain ⟨n0, n1⟩ := Rd.num4_bd xs hb q
      rw [if_pos (show (q : Int) + ((4 : Nat) : Int) ≤ xs.length by omega), if_pos h2]
      simp only [Int.toNat_natCast]
      generalize hG : Rd.num ((xs.drop q).take 4) = N at *
      obtain ⟨N, rfl⟩ := Int.eq_ofNat_of_zero_le n0
      simp only [if_true]
      rw [w64 (N : Int) (by omega) (by omega)]
      have em : mx 0 most = max 0 most := by unfold mx; omega
      rw [em]
      by_cases h3 : (N : Int) > max 0 most
      · rw [if_pos h3, if_pos h3]
        subst he
        rfl
      · rw [if_neg h3, if_neg h3, strOfNums_size, w64 ((xs.length : Int) - ((q : Int) + ((4 : Nat) : Int))) (by omega) (by omega)]
        by_cases h4 : (N : Int) > xs.length - ((q : Int) + 4)
        · rw [if_pos (by omega), if_pos h4]
          subst he
          rfl
        · rw [if_neg (by omega), if_neg h4, w64 _ (by omega) (by omega), if_pos (by omega), if_pos (by omega), if_pos (by omega)]
          simp only [Option.some.injEq, Prod.mk.injEq, true_and]
          refine ⟨by omega, ?_⟩
          have e1 : ((q : Int) + ((4 : Nat) : Int)).toNat = q + 4 := by omega
          have e2 : ((q : Int) + ((4 : Nat) : Int) + (N : Int)).toNat = q + 4 + N := by omega
          have e3 : ((q : Int) + 4).toNat = q + 4 := by omega
          rw [e1, e2, e3, Int.toNat_natCast]
          apply ByteArray.ext
          simp [strOfNums, List.map_take, List.map_drop]
    · rw [if_neg (show ¬ (q : Int) + ((4 : Nat) : Int) ≤ xs.length by omega), if_neg h2]
      rfl
  · rw [if_neg he, if_neg he]
    simp only []
    rw [if_neg he]
    rfl
theorem End (xs : List Int) (p err : Int) : ambryref01_Reader_End.f (strOfNums xs) p err = some (Rd.endF xs p err) := by
  unfold ambryref01_Reader_End.f Rd.endF
  rw [strOfNums_size]
  by_cases he : err = 0
  · rw [if_pos he, if_pos he]
    by_cases h : p < xs.length
    · rw [if_pos h, if_pos h]
    · rw [if_neg h, if_neg h]
  · rw [if_neg he, if_neg he]
end Go.Proofs.Ytgppbcgbnlobbaa.RefR
