/- FieldBack's walk, where lists and texts are of at most 1048576 each: numbers and texts that were put one behind the other are read so, whatever stands behind. -/
import Derived.Test.YtgppbcgbnlobbaaWkShort
namespace Go.Proofs.Ytgppbcgbnlobbaa.Wk
open Go.RowKit Go.Proofs.YtgppbcgbnlobbaaW.PrintWords Go.Proofs.YtgppbcgbnlobbaaW.PrintLast Go.Proofs.YtgppbcgbnlobbaaW.PrintMore

/-- The fields of a list of numbers, the widths going round. -/
def encL : Nat → List Int → List Int
  | _, [] => []
  | j, x :: l => Be.be (2 ^ (j % 4)) x ++ encL (j + 1) l
theorem encL_append (l m : List Int) : ∀ j, encL j (l ++ m) = encL j l ++ encL (j + l.length) m := by
  induction l with
  | nil => intro j; simp [encL]
  | cons x l ih =>
    intro j
    rw [List.cons_append, encL, encL, ih, List.append_assoc, List.length_cons]
    congr 3
    omega
theorem pow4_le (j : Nat) : 2 ^ (j % 4) ≤ 8 := (by decide : ∀ m : Fin 4, 2 ^ m.val ≤ 8) ⟨j % 4, by omega⟩
theorem encL_length_le (l : List Int) : ∀ j, (encL j l).length ≤ 8 * l.length := by
  induction l with
  | nil => intro j; simp [encL]
  | cons x l ih =>
    intro j
    have h1 := ih (j + 1)
    have h2 := pow4_le j
    rw [encL, List.length_append, Be.be_length, List.length_cons]
    omega
theorem take_succ_getD (l : List Int) (j : Nat) (h : j < l.length) : l.take (j + 1) = l.take j ++ [l.getD j 0] := by
  rw [List.take_succ_eq_append_getElem h, List.getD_eq_getElem?_getD, List.getElem?_eq_getElem h]
  rfl
theorem encL_step (l : List Int) (j : Nat) (h : j < l.length) : encL 0 (l.take (j + 1)) = encL 0 (l.take j) ++ Be.be (2 ^ (j % 4)) (l.getD j 0) := by
  rw [take_succ_getD l j h, encL_append]
  have e : 0 + (l.take j).length = j := by rw [List.length_take]; omega
  rw [e]
  simp [encL]
theorem take_at (pre post : List Int) (k : Nat) (x : Int) : Rd.takeF (pre ++ Be.be k x ++ post) pre.length 0 k = (wrap64 (Rd.num (Be.be k x)), (pre.length : Int) + k, 0) := by
  unfold Rd.takeF
  rw [if_pos rfl, if_pos (by simp [Be.be_length]; omega)]
  have h : ((pre ++ Be.be k x ++ post).drop (pre.length : Int).toNat).take k = Be.be k x := by
    rw [Int.toNat_natCast, List.append_assoc, List.drop_left]
    have hl := Be.be_length k x
    rw [List.take_append_of_le_length (by omega), List.take_of_length_le (by omega)]
  rw [h]
theorem and_mask (x : Int) (i : Nat) (hi : i ≤ 32) : bits .and .i64 x ((2 ^ i - 1 : Nat) : Int) = x % 2 ^ i := by
  have hp : 2 ^ i ≤ 2 ^ 32 := Nat.pow_le_pow_right (by decide) hi
  have hpos : 0 < 2 ^ i := Nat.two_pow_pos i
  have h64 : (2 : Nat) ^ 32 < 18446744073709551616 := by decide
  have hm : (2 ^ i - 1) % 2 ^ 64 = 2 ^ i - 1 := Nat.mod_eq_of_lt (by omega)
  have hb : (BitVec.ofInt 64 x).toNat = (x % 18446744073709551616).toNat := by
    rw [BitVec.toNat_ofInt]
    rfl
  have key : bits .and .i64 x ((2 ^ i - 1 : Nat) : Int) = IntKind.i64.wrap (((x % 18446744073709551616).toNat % 2 ^ i : Nat) : Int) := by
    unfold bits
    simp only [BitVec.ofInt_natCast, BitVec.toNat_and, BitVec.toNat_ofNat]
    show IntKind.i64.wrap (((BitVec.ofInt 64 x).toNat &&& (2 ^ i - 1) % 2 ^ 64 : Nat) : Int) = _
    rw [hb, hm, Nat.and_two_pow_sub_one_eq_mod]
  have hlt : (x % 18446744073709551616).toNat % 2 ^ i < 2 ^ i := Nat.mod_lt _ hpos
  have hw : IntKind.i64.wrap (((x % 18446744073709551616).toNat % 2 ^ i : Nat) : Int) = (((x % 18446744073709551616).toNat % 2 ^ i : Nat) : Int) := by
    rw [IntKind.wrap_i64]
    have h32 : (2 : Nat) ^ 32 = 4294967296 := rfl
    omega
  rw [key, hw, Int.natCast_emod, Int.toNat_of_nonneg (Int.emod_nonneg _ (by decide)), Int.natCast_pow]
  refine Int.emod_emod_of_dvd x ?_
  have e : (18446744073709551616 : Int) = (2 : Int) ^ i * (2 : Int) ^ (64 - i) := by
    rw [← Int.pow_add, show i + (64 - i) = 64 by omega]
    rfl
  rw [e]
  exact ⟨_, rfl⟩
theorem mod_nat (x : Int) : ∃ m : Nat, (m : Int) = x % 18446744073709551616 := ⟨(x % 18446744073709551616).toNat, by omega⟩
theorem num_be_1 (x : Int) : Rd.num (Be.be 1 x) = x % 256 := by
  obtain ⟨m, hm⟩ := mod_nat x
  rw [Be.be_1 x m (by omega), Be.num_be, show (256 : Nat) ^ 1 = 256 from by decide]
  omega
theorem num_be_2 (x : Int) : Rd.num (Be.be 2 x) = x % 65536 := by
  obtain ⟨m, hm⟩ := mod_nat x
  rw [Be.be_2 x m (by omega), Be.num_be, show (256 : Nat) ^ 2 = 65536 from by decide]
  omega
theorem num_be_4 (x : Int) : Rd.num (Be.be 4 x) = x % 4294967296 := by
  obtain ⟨m, hm⟩ := mod_nat x
  rw [Be.be_4 x m (by omega), Be.num_be, show (256 : Nat) ^ 4 = 4294967296 from by decide]
  omega
theorem num_be_8 (x : Int) : Rd.num (Be.be 8 x) = x % 18446744073709551616 := by
  obtain ⟨m, hm⟩ := mod_nat x
  rw [Be.be_8 x m (by omega), Be.num_be, show (256 : Nat) ^ 8 = 18446744073709551616 from by decide]
  omega
theorem mask_1 (x : Int) : bits .and .i64 x 255 = x % 256 := by
  have h := and_mask x 8 (by omega)
  rw [show (((2 ^ 8 - 1 : Nat)) : Int) = 255 from by decide, show (2 : Int) ^ 8 = 256 from by decide] at h
  exact h
theorem want_0 (x : Int) : wrap64 (Rd.num (Be.be 1 x)) = bits .and .i64 x 255 := by
  rw [num_be_1, mask_1]
  unfold wrap64
  omega
theorem mask_2 (x : Int) : bits .and .i64 x 65535 = x % 65536 := by
  have h := and_mask x 16 (by omega)
  rw [show (((2 ^ 16 - 1 : Nat)) : Int) = 65535 from by decide, show (2 : Int) ^ 16 = 65536 from by decide] at h
  exact h
theorem want_1 (x : Int) : wrap64 (Rd.num (Be.be 2 x)) = bits .and .i64 x 65535 := by
  rw [num_be_2, mask_2]
  unfold wrap64
  omega
theorem mask_4 (x : Int) : bits .and .i64 x 4294967295 = x % 4294967296 := by
  have h := and_mask x 32 (by omega)
  rw [show (((2 ^ 32 - 1 : Nat)) : Int) = 4294967295 from by decide, show (2 : Int) ^ 32 = 4294967296 from by decide] at h
  exact h
theorem want_2 (x : Int) : wrap64 (Rd.num (Be.be 4 x)) = bits .and .i64 x 4294967295 := by
  rw [num_be_4, mask_4]
  unfold wrap64
  omega
theorem want_3 (x : Int) (h0 : -9223372036854775808 ≤ x) (h1 : x ≤ 9223372036854775807) : wrap64 (Rd.num (Be.be 8 x)) = x := by
  rw [num_be_8]
  unfold wrap64
  omega
theorem text_back (s : ByteArray) (hs : s.size ≤ 1048576) (post : List Int) : Rd.textF (Be.be 4 s.size ++ bytesOf s ++ post) 0 0 s.size = (bytesOf s, ((4 + s.size : Nat) : Int), 0) := by
  have hl : (Be.be 4 (s.size : Int) ++ bytesOf s ++ post).length = 4 + s.size + post.length := by rw [List.length_append, List.length_append, Be.be_length, bytesOf_length]
  have h1 : ((Be.be 4 (s.size : Int) ++ bytesOf s ++ post).drop (0 : Int).toNat).take 4 = Be.be 4 s.size := by
    show ((Be.be 4 (s.size : Int) ++ bytesOf s ++ post).drop 0).take 4 = _
    have h4 := Be.be_length 4 (s.size : Int)
    rw [List.drop_zero, List.append_assoc, List.take_append_of_le_length (by omega), List.take_of_length_le (by omega)]
  have h2 : ((Be.be 4 (s.size : Int) ++ bytesOf s ++ post).drop (0 + 4 : Int).toNat).take s.size = bytesOf s := by
    have h4 := Be.be_length 4 (s.size : Int)
    have e : (0 + 4 : Int).toNat = (Be.be 4 (s.size : Int)).length := by rw [h4]; rfl
    have hb := bytesOf_length s
    rw [e, List.append_assoc, List.drop_left, List.take_append_of_le_length (by omega), List.take_of_length_le (by omega)]
  unfold Rd.textF
  rw [if_pos rfl, if_pos (by rw [hl]; omega), h1, Be.num_be, Nat.mod_eq_of_lt (by omega), if_neg (by omega), if_neg (by rw [hl]; omega), Int.toNat_natCast, h2]
  simp
theorem put_at (W0 W : World) (A : Option Addr) (c : Nat) (l : List Int) (j : Nat) (x : Int) (hl : l.length + 8 ≤ 140737488355328) (hB : Below W0.heap.size W0 W) (ho : W.ownsRow W0.heap.size 5 1 (.slice A l.length c) l.length (nums .u8 l)) :
    Calls Try.prog 9 #[.slice A l.length c, .int .i64 ((j : Int) % 4), .int .i64 x] W fun e w' => ∃ A' c' l', l' = l ++ Be.be (2 ^ (j % 4)) x ∧ e = .returned (.slice A' l'.length c') ∧ w'.ownsRow W0.heap.size 5 1 (.slice A' l'.length c') l'.length (nums .u8 l') ∧ Below W0.heap.size W0 w' := by
  refine (put_own W0 W _ l (j % 4) (by omega) x hl hB ho).mono ?_
  rintro e w' ⟨v, rfl, ho', hb⟩
  obtain ⟨A', c', rfl⟩ := own_slice3 ho'
  exact ⟨A', c', _, rfl, rfl, ho', hb⟩
theorem get_at {W : World} {g base : Nat} {xs : List Int} {p err : Int} (hR : Rd.Rdr W g base xs p err) (j : Nat) {r : Int × Int × Int} (h : Rd.takeF xs p err (2 ^ (j % 4)) = r) :
    Calls Try.prog 16 #[.pointer (some ⟨g, 0, none⟩), .int .i64 ((j : Int) % 4)] W fun e w' => e = .returned (.int .i64 r.1) ∧ Rd.Rdr w' g base xs r.2.1 r.2.2 ∧ W.grownBy w' (some g) := get_of hR (j % 4) (by omega) h
theorem get_cell {W W' : World} {A : Option Addr} {xs : List Int} (hr : ReadsInt W .i64 A xs.length xs) (hB : Below W.heap.size W W') (j : Nat) (h : j < xs.length) : ∃ a, A = some a ∧ W'.cell? (a.add j) = some (.int .i64 (xs.getD j 0)) := by
  obtain ⟨a, e, hc⟩ := (hr.below hB).2.2 (by omega)
  exact ⟨a, e, hc j h⟩
theorem encL_byte (l : List Int) : ∀ j, ∀ x ∈ encL j l, 0 ≤ x ∧ x ≤ 255 := by
  induction l with
  | nil => intro j x hx; simp [encL] at hx
  | cons y l ih =>
    intro j x hx
    rw [encL] at hx
    rcases List.mem_append.1 hx with h | h
    · exact Be.be_range _ _ x h
    · exact ih _ x h
theorem bytes_all (s : ByteArray) (l m : List Int) (hm : ∀ x ∈ m, 0 ≤ x ∧ x ≤ 255) : ∀ x ∈ Be.be 4 s.size ++ bytesOf s ++ encL 0 l ++ m, 0 ≤ x ∧ x ≤ 255 := by
  intro x hx
  rcases List.mem_append.1 hx with h | h
  · rcases List.mem_append.1 h with h | h
    · have := byte_app s (4 + s.size) x
      rw [List.take_of_length_le (by rw [List.length_append, Be.be_length, bytesOf_length]; omega)] at this
      exact this h
    · exact encL_byte l 0 x h
  · exact hm x h
theorem text_b {W : World} {g base : Nat} {H post : List Int} {s : ByteArray} {la : Nat} (hs : s.size ≤ 1048576) (hH : H = Be.be 4 s.size ++ bytesOf s) (hla : la = 4 + s.size) {XS : List Int} (hX : XS = H ++ post) (hR : Rd.Rdr W g base XS 0 0) :
    Calls Try.prog 18 #[.pointer (some ⟨g, 0, none⟩), .int .i64 (s.size : Int)] W fun e w' => e = .returned (.string s) ∧ Rd.Rdr w' g base XS (la : Int) 0 ∧ W.grownBy w' (some g) := by
  have h := text_of hR (r := (bytesOf s, ((4 + s.size : Nat) : Int), 0)) (by rw [hX, hH]; exact text_back s hs post)
  rw [Be.strOfNums_bytesOf] at h
  rw [hla]
  exact h
theorem take_step (H l m : List Int) (j p : Nat) (h : j < l.length) (hp : p = (H ++ encL 0 (l.take j)).length) (x : Int) (hx : x = l.getD j 0) :
    Rd.takeF (H ++ encL 0 l ++ m) (p : Int) 0 (2 ^ (j % 4)) = (wrap64 (Rd.num (Be.be (2 ^ (j % 4)) x)), ((p + 2 ^ (j % 4) : Nat) : Int), 0) := by
  have e1 : l = l.take (j + 1) ++ l.drop (j + 1) := (List.take_append_drop _ _).symm
  have e2 : H ++ encL 0 l ++ m = (H ++ encL 0 (l.take j)) ++ Be.be (2 ^ (j % 4)) x ++ (encL (j + 1) (l.drop (j + 1)) ++ m) := by
    have e3 : encL 0 l = encL 0 (l.take j) ++ Be.be (2 ^ (j % 4)) x ++ encL (j + 1) (l.drop (j + 1)) := by
      rw [hx, ← encL_step l j h]
      have e4 : 0 + (l.take (j + 1)).length = j + 1 := by rw [List.length_take]; omega
      have e5 := encL_append (l.take (j + 1)) (l.drop (j + 1)) 0
      rw [List.take_append_drop, e4] at e5
      exact e5
    rw [e3]
    simp only [List.append_assoc]
  rw [e2, hp, take_at]
  simp
theorem len_step (H l : List Int) (j p : Nat) (h : j < l.length) (hp : p = (H ++ encL 0 (l.take j)).length) : p + 2 ^ (j % 4) = (H ++ encL 0 (l.take (j + 1))).length := by
  rw [encL_step l j h, hp]
  simp [Be.be_length, Nat.add_assoc]
set_option maxHeartbeats 4000000 in
theorem back_core (A0 : Option Addr) (c0 : Nat) (l : List Int) (s : ByteArray) (A2 : Option Addr) (n2 c2 : Nat) (m : List Int) (W : World) (hr0 : ReadsInt W .i64 A0 l.length l) (hl : l.length ≤ 1000) (hx : ∀ j, -9223372036854775808 ≤ l.getD j 0 ∧ l.getD j 0 ≤ 9223372036854775807)
    (hs : s.size ≤ 1048576) (hr2 : ReadsInt W .u8 A2 n2 m) (hn2 : n2 ≤ 1048576) (hm : ∀ x ∈ m, 0 ≤ x ∧ x ≤ 255) :
    Calls Try.prog 7 #[.slice A0 l.length c0, .string s, .slice A2 n2 c2] W fun e w' => e = .returned (.bool true) ∧ Below W.heap.size W w' := by
  have HR0 := Lib.hid hr0
  have HX := Lib.hid hx
  have HR2 := Lib.hid hr2
  have HM := Lib.hid hm
  obtain ⟨la, hla⟩ : ∃ la, la = 4 + s.size := ⟨_, rfl⟩
  have hla1 : la ≤ 1048580 := by omega
  obtain ⟨H, hH⟩ : ∃ H : List Int, H = Be.be 4 s.size ++ bytesOf s := ⟨_, rfl⟩
  have hHl : Hid (H.length = la) := by rw [hH, List.length_append, Be.be_length, bytesOf_length, hla]; rfl
  have HLA := Lib.hid hla
  have HH := Lib.hid hH
  clear hr0 hx hr2 hm hla hH
  go_enter Try.func7, Try.ntmps7
  go_wp2_with (first
    | (go_at_call 11; refine (text_nil W s hs la HLA.out).mono ?_; rintro e w1 ⟨A1, c1, rfl, hO1, hB1⟩; rw [← HH.out, ← hHl.out] at hO1))
  go_loopw [7, 8] (fun b i w' => ∃ (j : Nat) (A : Option Addr) (c : Nat) (xs : List Int), j ≤ l.length ∧ i = .int .i64 j ∧ b = .slice A xs.length c ∧ Hid (xs = H ++ encL 0 (l.take j)) ∧ w'.ownsRow W.heap.size 5 1 (.slice A xs.length c) xs.length (nums .u8 xs) ∧ Below W.heap.size W w') (fun _ i _ => l.length - (intOf i).toNat)
  case atStart => exact ⟨0, A1, c1, H, Nat.zero_le _, rfl, by rw [hHl.out], by simp [encL, Hid], by rw [hHl.out] at hO1 ⊢; exact hO1, hB1⟩
  case round =>
    obtain ⟨j, A, c, xs, hj, rfl, rfl, hxs, hO, hB⟩ := hrel
    have hlen : xs.length ≤ 1060000 := by
      have h1 := encL_length_le (l.take j) 0
      have h2 : (l.take j).length ≤ l.length := by rw [List.length_take]; omega
      have h3 := congrArg List.length hxs.out
      rw [List.length_append, hHl.out] at h3
      omega
    by_cases hlt : j < l.length
    · obtain ⟨a0, rfl, hc⟩ := get_cell HR0.out hB j hlt
      obtain ⟨x, hx⟩ : ∃ x, x = l.getD j 0 := ⟨_, rfl⟩
      rw [← hx] at hc
      have HXJ := Lib.hid hx
      clear hx
      go_wp2_with (first
        | (go_at_call 9; (with_reducible refine (put_at W _ A c xs j x (by omega) hB hO).mono ?_); rintro e w2 ⟨A', c', xs', hxs', rfl, hO', hB'⟩; have HXS := Lib.hid hxs'; clear hxs' hO hB hc))
      go_roundw
      case rel => exact ⟨j + 1, A', c', xs', by omega, by go_num, rfl, by rw [HXS.out, hxs.out, encL_step l j hlt, HXJ.out, List.append_assoc]; rfl, hO', hB'⟩
      case measure => simp [intOf]; omega
    · obtain rfl : j = l.length := by omega
      rw [List.take_length] at hxs
      have hle := own_le hO
      by_cases hn0 : n2 = 0
      · have HN := Lib.hid hn0
        have e9 : ((n2 : Int) == 0) = true := beq_iff_eq.2 (by omega)
        clear hn0
        go_wp2_with (first
          | (at_builtin; refine print_append_row (w0 := W) W.heap.size rfl (.tmp 35) (.tmp 36) 22 5 .u8 1 rfl Try.underlying22 Rd.info5w (by decide) (.slice A xs.length c) xs m A2 n2 c2 rfl rfl hO (HR2.out.below hB) hB hB.size (by omega) ?_; intro v1 w3 hO3 hB3 hg3 hat3; obtain ⟨XS, hXS⟩ : ∃ XS, XS = xs ++ m := ⟨_, rfl⟩; rw [← hXS] at hO3; have HXS := Lib.hid hXS; obtain ⟨A3, c3, rfl⟩ := own_slice3 hO3; clear hXS hg3 hat3 hO hB)
          | (go_at_call 14; refine (new_of W _ A3 XS.length c3 XS (by obtain ⟨A, c, e, hr⟩ := own_reads hO3; injection e with e1 e2 e3; subst e1; exact hr) (by rw [HXS.out, List.length_append, HR2.out.1]; omega) (by rw [HXS.out, hxs.out, HH.out]; exact bytes_all s l m HM.out) hB3).mono ?_; rintro e w4 ⟨g, rfl, hR1, hb4, hB4, hg⟩; have hz3 := hB3.size; clear hO3 hB3)
          | (go_at_call 18; refine (text_b hs HH.out HLA.out (HXS.out.trans (by rw [hxs.out, List.append_assoc])) hR1).mono ?_; rintro e w5 ⟨rfl, hR2, hG⟩; have hB5 := below_rd hB4 hR1 hz3 hG; clear hR1 hG hB4))
        clear hb4 hg hO1 hB1
        go_loopw [11] (fun i w' => ∃ (j p : Nat), j ≤ l.length ∧ i = .int .i64 j ∧ Hid (p = (H ++ encL 0 (l.take j)).length) ∧ Rd.Rdr w' g w3.heap.size XS (p : Int) 0 ∧ Below W.heap.size W w') (fun i _ => l.length - (intOf i).toNat)
        case atStart => exact ⟨0, la, Nat.zero_le _, rfl, by rw [List.length_append, hHl.out]; rfl, hR2, hB5⟩
        case round =>
          clear hR2 hB5
          obtain ⟨j, p, hj, rfl, hp, hR, hB5⟩ := hrel
          by_cases hlt : j < l.length
          · obtain ⟨a0, rfl, hc⟩ := get_cell HR0.out hB5 j hlt
            obtain ⟨x, hx⟩ : ∃ x, x = l.getD j 0 := ⟨_, rfl⟩
            obtain ⟨hx0, hx1⟩ := HX.out j
            rw [← hx] at hc hx0 hx1
            have HXJ := Lib.hid hx
            clear hx
            rcases (by omega : j % 4 = 0 ∨ j % 4 = 1 ∨ j % 4 = 2 ∨ j % 4 = 3) with hr | hr | hr | hr
            · have HT : Hid (Rd.takeF XS (p : Int) 0 (2 ^ (j % 4)) = (bits BinOp.and IntKind.i64 x 255, ((p + 1 : Nat) : Int), 0)) := by
                have h1 := take_step H l m j p hlt hp.out x HXJ.out
                rw [HXS.out, hxs.out]
                rw [hr] at h1 ⊢
                exact h1.trans (congrArg (fun z => (z, ((p + 1 : Nat) : Int), (0 : Int))) (want_0 x))
              have HL : Hid (p + 1 = (H ++ encL 0 (l.take (j + 1))).length) := by
                have h1 := len_step H l j p hlt hp.out
                rw [hr] at h1
                exact h1
              have e0 : (((j : Int) % 4) == 0) = true := beq_iff_eq.2 (by omega)
              clear hr
              go_wp2_with (first
                | (go_at_call 16; (with_reducible refine (get_at hR j HT.out).mono ?_); rintro e w6 ⟨rfl, hR6, hG⟩; have hB6 := below_rd hB5 hR hz3 hG; clear hG hR hB5))
              go_roundw
              case rel => exact ⟨j + 1, p + 1, by omega, by go_num, HL, hR6, hB6⟩
              case measure => simp [intOf]; omega
            · have HT : Hid (Rd.takeF XS (p : Int) 0 (2 ^ (j % 4)) = (bits BinOp.and IntKind.i64 x 65535, ((p + 2 : Nat) : Int), 0)) := by
                have h1 := take_step H l m j p hlt hp.out x HXJ.out
                rw [HXS.out, hxs.out]
                rw [hr] at h1 ⊢
                exact h1.trans (congrArg (fun z => (z, ((p + 2 : Nat) : Int), (0 : Int))) (want_1 x))
              have HL : Hid (p + 2 = (H ++ encL 0 (l.take (j + 1))).length) := by
                have h1 := len_step H l j p hlt hp.out
                rw [hr] at h1
                exact h1
              have e0 : (((j : Int) % 4) == 0) = false := beq_eq_false_iff_ne.2 (by omega)
              have e1 : (((j : Int) % 4) == 1) = true := beq_iff_eq.2 (by omega)
              clear hr
              go_wp2_with (first
                | (go_at_call 16; (with_reducible refine (get_at hR j HT.out).mono ?_); rintro e w6 ⟨rfl, hR6, hG⟩; have hB6 := below_rd hB5 hR hz3 hG; clear hG hR hB5))
              go_roundw
              case rel => exact ⟨j + 1, p + 2, by omega, by go_num, HL, hR6, hB6⟩
              case measure => simp [intOf]; omega
            · have HT : Hid (Rd.takeF XS (p : Int) 0 (2 ^ (j % 4)) = (bits BinOp.and IntKind.i64 x 4294967295, ((p + 4 : Nat) : Int), 0)) := by
                have h1 := take_step H l m j p hlt hp.out x HXJ.out
                rw [HXS.out, hxs.out]
                rw [hr] at h1 ⊢
                exact h1.trans (congrArg (fun z => (z, ((p + 4 : Nat) : Int), (0 : Int))) (want_2 x))
              have HL : Hid (p + 4 = (H ++ encL 0 (l.take (j + 1))).length) := by
                have h1 := len_step H l j p hlt hp.out
                rw [hr] at h1
                exact h1
              have e0 : (((j : Int) % 4) == 0) = false := beq_eq_false_iff_ne.2 (by omega)
              have e1 : (((j : Int) % 4) == 1) = false := beq_eq_false_iff_ne.2 (by omega)
              have e2 : (((j : Int) % 4) == 2) = true := beq_iff_eq.2 (by omega)
              clear hr
              go_wp2_with (first
                | (go_at_call 16; (with_reducible refine (get_at hR j HT.out).mono ?_); rintro e w6 ⟨rfl, hR6, hG⟩; have hB6 := below_rd hB5 hR hz3 hG; clear hG hR hB5))
              go_roundw
              case rel => exact ⟨j + 1, p + 4, by omega, by go_num, HL, hR6, hB6⟩
              case measure => simp [intOf]; omega
            · have HT : Hid (Rd.takeF XS (p : Int) 0 (2 ^ (j % 4)) = (x, ((p + 8 : Nat) : Int), 0)) := by
                have h1 := take_step H l m j p hlt hp.out x HXJ.out
                rw [HXS.out, hxs.out]
                rw [hr] at h1 ⊢
                exact h1.trans (congrArg (fun z => (z, ((p + 8 : Nat) : Int), (0 : Int))) (want_3 x hx0 hx1))
              have HL : Hid (p + 8 = (H ++ encL 0 (l.take (j + 1))).length) := by
                have h1 := len_step H l j p hlt hp.out
                rw [hr] at h1
                exact h1
              have e0 : (((j : Int) % 4) == 0) = false := beq_eq_false_iff_ne.2 (by omega)
              have e1 : (((j : Int) % 4) == 1) = false := beq_eq_false_iff_ne.2 (by omega)
              have e2 : (((j : Int) % 4) == 2) = false := beq_eq_false_iff_ne.2 (by omega)
              clear hr
              go_wp2_with (first
                | (go_at_call 16; (with_reducible refine (get_at hR j HT.out).mono ?_); rintro e w6 ⟨rfl, hR6, hG⟩; have hB6 := below_rd hB5 hR hz3 hG; clear hG hR hB5))
              go_roundw
              case rel => exact ⟨j + 1, p + 8, by omega, by go_num, HL, hR6, hB6⟩
              case measure => simp [intOf]; omega
          · obtain rfl : j = l.length := by omega
            have hp2 : p = xs.length := by rw [hp.out, hxs.out, List.take_length]
            clear hp
            subst hp2
            have hE : Hid (Rd.endF XS (xs.length : Int) 0 = 0) := by
              have h1 : XS.length = xs.length + n2 := by rw [HXS.out, List.length_append, HR2.out.1]
              have h2 := HN.out
              unfold Rd.endF
              rw [if_pos rfl, if_neg (by omega)]
              rfl
            go_wp2_with (first
              | (go_at_call 19; refine (Rd.at_any _ g _ _ _ _ hR).mono ?_; rintro e w7 ⟨rfl, rfl⟩)
              | (go_at_call 20; refine (Rd.err_any _ g _ _ _ _ hR).mono ?_; rintro e w7 ⟨rfl, rfl⟩)
              | (go_at_call 21; refine (end_of hR hE.out).mono ?_; rintro e w10 ⟨rfl, hG⟩; have hB10 := below_none hB5 hG; clear hR hG hB5)
              | (go_at_call 13; refine (lives _).mono ?_; rintro e w11 ⟨rfl, hb11⟩; have hB11 := below_then hB10 hB10.size hb11; clear hB10))
            go_ret
            exact ⟨rfl, hB11⟩
      · have HN := Lib.hid hn0
        have e9 : ((n2 : Int) == 0) = false := beq_eq_false_iff_ne.2 (by omega)
        clear hn0
        go_wp2_with (first
          | (at_builtin; refine print_append_row (w0 := W) W.heap.size rfl (.tmp 35) (.tmp 36) 22 5 .u8 1 rfl Try.underlying22 Rd.info5w (by decide) (.slice A xs.length c) xs m A2 n2 c2 rfl rfl hO (HR2.out.below hB) hB hB.size (by omega) ?_; intro v1 w3 hO3 hB3 hg3 hat3; obtain ⟨XS, hXS⟩ : ∃ XS, XS = xs ++ m := ⟨_, rfl⟩; rw [← hXS] at hO3; have HXS := Lib.hid hXS; obtain ⟨A3, c3, rfl⟩ := own_slice3 hO3; clear hXS hg3 hat3 hO hB)
          | (go_at_call 14; refine (new_of W _ A3 XS.length c3 XS (by obtain ⟨A, c, e, hr⟩ := own_reads hO3; injection e with e1 e2 e3; subst e1; exact hr) (by rw [HXS.out, List.length_append, HR2.out.1]; omega) (by rw [HXS.out, hxs.out, HH.out]; exact bytes_all s l m HM.out) hB3).mono ?_; rintro e w4 ⟨g, rfl, hR1, hb4, hB4, hg⟩; have hz3 := hB3.size; clear hO3 hB3)
          | (go_at_call 18; refine (text_b hs HH.out HLA.out (HXS.out.trans (by rw [hxs.out, List.append_assoc])) hR1).mono ?_; rintro e w5 ⟨rfl, hR2, hG⟩; have hB5 := below_rd hB4 hR1 hz3 hG; clear hR1 hG hB4))
        clear hb4 hg hO1 hB1
        go_loopw [11] (fun i w' => ∃ (j p : Nat), j ≤ l.length ∧ i = .int .i64 j ∧ Hid (p = (H ++ encL 0 (l.take j)).length) ∧ Rd.Rdr w' g w3.heap.size XS (p : Int) 0 ∧ Below W.heap.size W w') (fun i _ => l.length - (intOf i).toNat)
        case atStart => exact ⟨0, la, Nat.zero_le _, rfl, by rw [List.length_append, hHl.out]; rfl, hR2, hB5⟩
        case round =>
          clear hR2 hB5
          obtain ⟨j, p, hj, rfl, hp, hR, hB5⟩ := hrel
          by_cases hlt : j < l.length
          · obtain ⟨a0, rfl, hc⟩ := get_cell HR0.out hB5 j hlt
            obtain ⟨x, hx⟩ : ∃ x, x = l.getD j 0 := ⟨_, rfl⟩
            obtain ⟨hx0, hx1⟩ := HX.out j
            rw [← hx] at hc hx0 hx1
            have HXJ := Lib.hid hx
            clear hx
            rcases (by omega : j % 4 = 0 ∨ j % 4 = 1 ∨ j % 4 = 2 ∨ j % 4 = 3) with hr | hr | hr | hr
            · have HT : Hid (Rd.takeF XS (p : Int) 0 (2 ^ (j % 4)) = (bits BinOp.and IntKind.i64 x 255, ((p + 1 : Nat) : Int), 0)) := by
                have h1 := take_step H l m j p hlt hp.out x HXJ.out
                rw [HXS.out, hxs.out]
                rw [hr] at h1 ⊢
                exact h1.trans (congrArg (fun z => (z, ((p + 1 : Nat) : Int), (0 : Int))) (want_0 x))
              have HL : Hid (p + 1 = (H ++ encL 0 (l.take (j + 1))).length) := by
                have h1 := len_step H l j p hlt hp.out
                rw [hr] at h1
                exact h1
              have e0 : (((j : Int) % 4) == 0) = true := beq_iff_eq.2 (by omega)
              clear hr
              go_wp2_with (first
                | (go_at_call 16; (with_reducible refine (get_at hR j HT.out).mono ?_); rintro e w6 ⟨rfl, hR6, hG⟩; have hB6 := below_rd hB5 hR hz3 hG; clear hG hR hB5))
              go_roundw
              case rel => exact ⟨j + 1, p + 1, by omega, by go_num, HL, hR6, hB6⟩
              case measure => simp [intOf]; omega
            · have HT : Hid (Rd.takeF XS (p : Int) 0 (2 ^ (j % 4)) = (bits BinOp.and IntKind.i64 x 65535, ((p + 2 : Nat) : Int), 0)) := by
                have h1 := take_step H l m j p hlt hp.out x HXJ.out
                rw [HXS.out, hxs.out]
                rw [hr] at h1 ⊢
                exact h1.trans (congrArg (fun z => (z, ((p + 2 : Nat) : Int), (0 : Int))) (want_1 x))
              have HL : Hid (p + 2 = (H ++ encL 0 (l.take (j + 1))).length) := by
                have h1 := len_step H l j p hlt hp.out
                rw [hr] at h1
                exact h1
              have e0 : (((j : Int) % 4) == 0) = false := beq_eq_false_iff_ne.2 (by omega)
              have e1 : (((j : Int) % 4) == 1) = true := beq_iff_eq.2 (by omega)
              clear hr
              go_wp2_with (first
                | (go_at_call 16; (with_reducible refine (get_at hR j HT.out).mono ?_); rintro e w6 ⟨rfl, hR6, hG⟩; have hB6 := below_rd hB5 hR hz3 hG; clear hG hR hB5))
              go_roundw
              case rel => exact ⟨j + 1, p + 2, by omega, by go_num, HL, hR6, hB6⟩
              case measure => simp [intOf]; omega
            · have HT : Hid (Rd.takeF XS (p : Int) 0 (2 ^ (j % 4)) = (bits BinOp.and IntKind.i64 x 4294967295, ((p + 4 : Nat) : Int), 0)) := by
                have h1 := take_step H l m j p hlt hp.out x HXJ.out
                rw [HXS.out, hxs.out]
                rw [hr] at h1 ⊢
                exact h1.trans (congrArg (fun z => (z, ((p + 4 : Nat) : Int), (0 : Int))) (want_2 x))
              have HL : Hid (p + 4 = (H ++ encL 0 (l.take (j + 1))).length) := by
                have h1 := len_step H l j p hlt hp.out
                rw [hr] at h1
                exact h1
              have e0 : (((j : Int) % 4) == 0) = false := beq_eq_false_iff_ne.2 (by omega)
              have e1 : (((j : Int) % 4) == 1) = false := beq_eq_false_iff_ne.2 (by omega)
              have e2 : (((j : Int) % 4) == 2) = true := beq_iff_eq.2 (by omega)
              clear hr
              go_wp2_with (first
                | (go_at_call 16; (with_reducible refine (get_at hR j HT.out).mono ?_); rintro e w6 ⟨rfl, hR6, hG⟩; have hB6 := below_rd hB5 hR hz3 hG; clear hG hR hB5))
              go_roundw
              case rel => exact ⟨j + 1, p + 4, by omega, by go_num, HL, hR6, hB6⟩
              case measure => simp [intOf]; omega
            · have HT : Hid (Rd.takeF XS (p : Int) 0 (2 ^ (j % 4)) = (x, ((p + 8 : Nat) : Int), 0)) := by
                have h1 := take_step H l m j p hlt hp.out x HXJ.out
                rw [HXS.out, hxs.out]
                rw [hr] at h1 ⊢
                exact h1.trans (congrArg (fun z => (z, ((p + 8 : Nat) : Int), (0 : Int))) (want_3 x hx0 hx1))
              have HL : Hid (p + 8 = (H ++ encL 0 (l.take (j + 1))).length) := by
                have h1 := len_step H l j p hlt hp.out
                rw [hr] at h1
                exact h1
              have e0 : (((j : Int) % 4) == 0) = false := beq_eq_false_iff_ne.2 (by omega)
              have e1 : (((j : Int) % 4) == 1) = false := beq_eq_false_iff_ne.2 (by omega)
              have e2 : (((j : Int) % 4) == 2) = false := beq_eq_false_iff_ne.2 (by omega)
              clear hr
              go_wp2_with (first
                | (go_at_call 16; (with_reducible refine (get_at hR j HT.out).mono ?_); rintro e w6 ⟨rfl, hR6, hG⟩; have hB6 := below_rd hB5 hR hz3 hG; clear hG hR hB5))
              go_roundw
              case rel => exact ⟨j + 1, p + 8, by omega, by go_num, HL, hR6, hB6⟩
              case measure => simp [intOf]; omega
          · obtain rfl : j = l.length := by omega
            have hp2 : p = xs.length := by rw [hp.out, hxs.out, List.take_length]
            clear hp
            subst hp2
            have hE : Hid (Rd.endF XS (xs.length : Int) 0 = 5) := by
              have h1 : XS.length = xs.length + n2 := by rw [HXS.out, List.length_append, HR2.out.1]
              have h2 := HN.out
              unfold Rd.endF
              rw [if_pos rfl, if_pos (by omega)]
              rfl
            go_wp2_with (first
              | (go_at_call 19; refine (Rd.at_any _ g _ _ _ _ hR).mono ?_; rintro e w7 ⟨rfl, rfl⟩)
              | (go_at_call 20; refine (Rd.err_any _ g _ _ _ _ hR).mono ?_; rintro e w7 ⟨rfl, rfl⟩)
              | (go_at_call 21; refine (end_of hR hE.out).mono ?_; rintro e w10 ⟨rfl, hG⟩; have hB10 := below_none hB5 hG; clear hR hG hB5)
              | (go_at_call 13; refine (lives _).mono ?_; rintro e w11 ⟨rfl, hb11⟩; have hB11 := below_then hB10 hB10.size hb11; clear hB10))
            go_ret
            exact ⟨rfl, hB11⟩
set_option maxHeartbeats 4000000 in
theorem back_long (A0 : Option Addr) (c0 n0 : Nat) (s : ByteArray) (A2 : Option Addr) (n2 c2 : Nat) (W : World) (hl : 1000 < n0) (hm : n0 ≤ 1048576) :
    Calls Try.prog 7 #[.slice A0 n0 c0, .string s, .slice A2 n2 c2] W fun e w' => e = .returned (.bool true) ∧ Below W.heap.size W w' := by
  go_enter Try.func7, Try.ntmps7
  go_wp2_with (first | (go_at_call 13; refine (lives _).mono ?_; rintro e w11 ⟨rfl, hb11⟩))
  go_ret
  exact ⟨rfl, hb11⟩
theorem wf_i64 {x : Int} (h : (Lit.int .i64 x).wf = true) : -9223372036854775808 ≤ x ∧ x ≤ 9223372036854775807 := by
  simpa [Lit.wf, IntKind.min, IntKind.max, IntKind.signed, IntKind.bits] using h
theorem wf_u8 {x : Int} (h : (Lit.int .u8 x).wf = true) : 0 ≤ x ∧ x ≤ 255 := by
  simpa [Lit.wf, IntKind.min, IntKind.max, IntKind.signed, IntKind.bits] using h
theorem getD_i64 {l : List Int} (h : ∀ x ∈ l, (Lit.int .i64 x).wf = true) (j : Nat) : -9223372036854775808 ≤ l.getD j 0 ∧ l.getD j 0 ≤ 9223372036854775807 := by
  rw [List.getD_eq_getElem?_getD]
  cases e : l[j]? with
  | none => simp
  | some v => exact wf_i64 (h v (List.mem_of_getElem? e))
theorem back_any (A0 : Option Addr) (c0 : Nat) (l : List Int) (s : ByteArray) (A2 : Option Addr) (n2 c2 : Nat) (m : List Int) (W : World) (hr0 : ReadsInt W .i64 A0 l.length l) (hl : l.length ≤ 1048576) (hx : ∀ x ∈ l, (Lit.int .i64 x).wf = true)
    (hs : s.size ≤ 1048576) (hr2 : ReadsInt W .u8 A2 n2 m) (hn2 : n2 ≤ 1048576) (hm : ∀ x ∈ m, (Lit.int .u8 x).wf = true) :
    Calls Try.prog 7 #[.slice A0 l.length c0, .string s, .slice A2 n2 c2] W fun e w' => e = .returned (.bool true) ∧ Below W.heap.size W w' := by
  by_cases h : l.length ≤ 1000
  · exact back_core A0 c0 l s A2 n2 c2 m W hr0 h (getD_i64 hx) hs hr2 hn2 fun x h => wf_u8 (hm x h)
  · exact back_long A0 c0 l.length s A2 n2 c2 W (by omega) hl
end Go.Proofs.Ytgppbcgbnlobbaa.Wk
