/- FieldShort's walk, where the text is of at most 1048576 bytes: bytes of which the end is missing can't be read; the reader stays where it stood. -/
import Derived.Test.YtgppbcgbnlobbaaWkGet
namespace Go.Proofs.Ytgppbcgbnlobbaa.Wk
open Go.RowKit Go.Proofs.YtgppbcgbnlobbaaW.PrintWords Go.Proofs.YtgppbcgbnlobbaaW.PrintLast Go.Proofs.YtgppbcgbnlobbaaW.PrintMore

theorem own_slice3 {w : World} {base n : Nat} {e : TypeId} {v : Value} {xs : List Value} (h : w.ownsRow base e 1 v n xs) : ∃ A c, v = .slice A n c := own_slice h
theorem text_nil (W : World) (s : ByteArray) (hs : s.size ≤ 1048576) (la : Nat) (hla : la = 4 + s.size) : Calls Try.prog 11 #[.slice none 0 0, .string s] W fun e w' => ∃ A c, e = .returned (.slice A la c) ∧ w'.ownsRow W.heap.size 5 1 (.slice A la c) la (nums .u8 (Be.be 4 s.size ++ bytesOf s)) ∧ Below W.heap.size W w' := by
  subst hla
  refine (text_own W W (.slice none 0 0) [] s (by simp; omega) (Below.refl _ _) (own_nil _ _ _ _)).mono ?_
  rintro e w' ⟨v, rfl, ho, hb⟩
  have hl : ([] ++ Be.be 4 (s.size : Int) ++ bytesOf s).length = 4 + s.size := by rw [List.nil_append, List.length_append, Be.be_length, bytesOf_length]
  rw [hl, List.nil_append] at ho
  obtain ⟨A, c, rfl⟩ := own_slice3 ho
  exact ⟨A, c, rfl, ho, hb⟩
theorem put_nil (W : World) (w : Nat) (hw : w ≤ 3) (x : Int) (lb : Nat) (hlb : lb = 2 ^ w) : Calls Try.prog 9 #[.slice none 0 0, .int .i64 (w : Int), .int .i64 x] W fun e w' => ∃ A c, e = .returned (.slice A lb c) ∧ w'.ownsRow W.heap.size 5 1 (.slice A lb c) lb (nums .u8 (Be.be (2 ^ w) x)) ∧ Below W.heap.size W w' := by
  subst hlb
  refine (put_own W W (.slice none 0 0) [] w hw x (by simp) (Below.refl _ _) (own_nil _ _ _ _)).mono ?_
  rintro e w' ⟨v, rfl, ho, hb⟩
  have hl : ([] ++ Be.be (2 ^ w) x).length = 2 ^ w := by rw [List.nil_append, Be.be_length]
  rw [hl, List.nil_append] at ho
  obtain ⟨A, c, rfl⟩ := own_slice3 ho
  exact ⟨A, c, rfl, ho, hb⟩
set_option maxHeartbeats 4000000 in
theorem short_out (s : ByteArray) (n w cut : Int) (W : World) (hw : w < 0 ∨ 3 < w) : Calls Try.prog 8 #[.string s, .int .i64 n, .int .i64 w, .int .i64 cut] W fun e w' => e = .returned (.bool true) ∧ Below W.heap.size W w' := by
  rcases hw with hw | hw
  · have h1 : decide (w < 0) = true := decide_eq_true hw
    go_enter Try.func8, Try.ntmps8
    go_wp2_with (first | (go_at_call 13; refine (lives _).mono ?_; rintro e w1 ⟨rfl, hB1⟩))
    go_ret
    exact ⟨rfl, hB1⟩
  · have h1 : decide (w < 0) = false := decide_eq_false (by omega)
    go_enter Try.func8, Try.ntmps8
    go_wp2_with (first | (go_at_call 13; refine (lives _).mono ?_; rintro e w1 ⟨rfl, hB1⟩))
    go_ret
    exact ⟨rfl, hB1⟩
/-- The reader's calls, where a call's tell is known. -/
theorem text_of {W : World} {g base : Nat} {xs : List Int} {p err most : Int} (hR : Rd.Rdr W g base xs p err) {r : List Int × Int × Int} (h : Rd.textF xs p err most = r) :
    Calls Try.prog 18 #[.pointer (some ⟨g, 0, none⟩), .int .i64 most] W fun e w' => e = .returned (.string (strOfNums r.1)) ∧ Rd.Rdr w' g base xs r.2.1 r.2.2 ∧ W.grownBy w' (some g) := by
  subst h
  exact Rd.text_any W g base xs p err most hR
theorem text_of0 {W : World} {g base : Nat} {xs : List Int} {p err most : Int} (hR : Rd.Rdr W g base xs p err) {p' e' : Int} (h : Rd.textF xs p err most = ([], p', e')) :
    Calls Try.prog 18 #[.pointer (some ⟨g, 0, none⟩), .int .i64 most] W fun e w' => e = .returned (.string ⟨#[]⟩) ∧ Rd.Rdr w' g base xs p' e' ∧ W.grownBy w' (some g) := text_of hR h
theorem get_of {W : World} {g base : Nat} {xs : List Int} {p err : Int} (hR : Rd.Rdr W g base xs p err) (w : Nat) (hw : w ≤ 3) {r : Int × Int × Int} (h : Rd.takeF xs p err (2 ^ w) = r) :
    Calls Try.prog 16 #[.pointer (some ⟨g, 0, none⟩), .int .i64 (w : Int)] W fun e w' => e = .returned (.int .i64 r.1) ∧ Rd.Rdr w' g base xs r.2.1 r.2.2 ∧ W.grownBy w' (some g) := by
  subst h
  exact get_any W g base xs p err hR w hw
theorem u8_of {W : World} {g base : Nat} {xs : List Int} {p err : Int} (hR : Rd.Rdr W g base xs p err) {r : Int × Int × Int} (h : Rd.takeF xs p err 1 = r) :
    Calls Try.prog 23 #[.pointer (some ⟨g, 0, none⟩)] W fun e w' => e = .returned (.int .i64 r.1) ∧ Rd.Rdr w' g base xs r.2.1 r.2.2 ∧ W.grownBy w' (some g) := by
  subst h
  exact Rd.u8_any W g base xs p err hR
theorem end_of {W : World} {g base : Nat} {xs : List Int} {p err : Int} (hR : Rd.Rdr W g base xs p err) {r : Int} (h : Rd.endF xs p err = r) :
    Calls Try.prog 21 #[.pointer (some ⟨g, 0, none⟩)] W fun e w' => e = .returned (.int .i64 r) ∧ W.grownBy w' none := by
  subst h
  exact Rd.end_any W g base xs p err hR
theorem new_of (W0 W : World) (A : Option Addr) (n c : Nat) (xs : List Int) (hr : ReadsInt W .u8 A n xs) (hn : n ≤ 140737488351232) (hb : ∀ x ∈ xs, 0 ≤ x ∧ x ≤ 255) (hB : Below W0.heap.size W0 W) :
    Calls Try.prog 14 #[.slice A n c] W fun e w' => ∃ g, e = .returned (.pointer (some ⟨g, 0, none⟩)) ∧ Rd.Rdr w' g W.heap.size xs 0 0 ∧ Below W.heap.size W w' ∧ Below W0.heap.size W0 w' ∧ W.heap.size ≤ g := by
  refine (Rd.new_any W A n c xs hr hn hb).mono ?_
  rintro e w' ⟨g, rfl, hR, hb⟩
  exact ⟨g, rfl, hR, hb, below_then hB hB.size hb, hR.ge⟩
theorem below_rd {W0 W W1 : World} {g base : Nat} {xs : List Int} {p err : Int} (hB : Below W0.heap.size W0 W) (hR : Rd.Rdr W g base xs p err) (hb : W0.heap.size ≤ base) (hG : W.grownBy W1 (some g)) : Below W0.heap.size W0 W1 :=
  hB.grown hG hB.size (fun k hk => by injection hk with hk; have := hR.ge; omega)
theorem below_none {W0 W W1 : World} (hB : Below W0.heap.size W0 W) (hG : W.grownBy W1 none) : Below W0.heap.size W0 W1 := hB.grown hG hB.size (fun k hk => by cases hk)
/-- The pure side: a text's bytes, and a number's, of which the end is missing. -/
theorem short_text (s : ByteArray) (hs : s.size ≤ 1048576) (k : Nat) (hk : k < 4 + s.size) : Rd.textF ((Be.be 4 s.size ++ bytesOf s).take k) 0 0 s.size = ([], 0, 3) := by
  have hl : ((Be.be 4 s.size ++ bytesOf s).take k).length = k := by rw [List.length_take, List.length_append, Be.be_length, bytesOf_length]; omega
  unfold Rd.textF
  rw [if_pos rfl]
  by_cases h4 : 4 ≤ k
  · have h1 : (((Be.be 4 s.size ++ bytesOf s).take k).drop (0 : Int).toNat).take 4 = Be.be 4 s.size := by
      show (((Be.be 4 s.size ++ bytesOf s).take k).drop 0).take 4 = _
      rw [List.drop_zero, List.take_take, Nat.min_eq_left h4, List.take_append_of_le_length (by rw [Be.be_length]; omega), List.take_of_length_le (by rw [Be.be_length]; omega)]
    rw [h1, Be.num_be, Nat.mod_eq_of_lt (by omega), if_pos (by rw [hl]; omega), if_neg (by omega), if_pos (by rw [hl]; omega)]
  · rw [if_neg (by rw [hl]; omega)]
theorem short_take (w : Nat) (n : Int) (k : Nat) (hk : k < 2 ^ w) : Rd.takeF ((Be.be (2 ^ w) n).take k) 0 0 (2 ^ w) = (0, 0, 3) := by
  have hl : ((Be.be (2 ^ w) n).take k).length = k := by rw [List.length_take, Be.be_length]; omega
  unfold Rd.takeF
  rw [if_pos rfl, if_neg (by rw [hl]; omega)]
theorem cut_nat (cut : Int) (l : Nat) (h0 : 0 < l) (h1 : l < 4611686018427387904) : ∃ k : Nat, wrap64 ((IntKind.u64.wrap cut).tmod (l : Int)) = k ∧ k < l := by
  have e : (IntKind.u64.wrap cut).tmod (l : Int) = (IntKind.u64.wrap cut) % (l : Int) := by
    rw [Be.wrap_u64_mod]
    exact Int.tmod_eq_emod_of_nonneg (by omega)
  have h2 := Int.emod_nonneg (IntKind.u64.wrap cut) (show (l : Int) ≠ 0 by omega)
  have h3 := Int.emod_lt_of_pos (IntKind.u64.wrap cut) (show (0 : Int) < l by omega)
  rw [e]
  generalize IntKind.u64.wrap cut % (l : Int) = r at *
  refine ⟨r.toNat, ?_, by omega⟩
  unfold wrap64
  omega
theorem byte_app (s : ByteArray) (k : Nat) : ∀ x ∈ (Be.be 4 s.size ++ bytesOf s).take k, 0 ≤ x ∧ x ≤ 255 := by
  intro x hx
  rcases List.mem_append.1 (List.mem_of_mem_take hx) with h | h
  · exact Be.be_range _ _ x h
  · simp only [bytesOf, List.mem_map] at h
    obtain ⟨b, _, rfl⟩ := h
    have := b.toNat_lt
    omega
theorem byte_be (n : Nat) (x : Int) (k : Nat) : ∀ y ∈ (Be.be n x).take k, 0 ≤ y ∧ y ≤ 255 := fun y hy => Be.be_range _ _ y (List.mem_of_mem_take hy)
set_option maxHeartbeats 4000000 in
theorem short_core (s : ByteArray) (n cut : Int) (w : Nat) (W : World) (hw : w ≤ 3) (hs : s.size ≤ 1048576) (la lb k1 k2 : Nat) (hla : Hid (la = 4 + s.size)) (hlb : Hid (lb = 2 ^ w)) (ha : 0 < la) (hb : 0 < lb) (ha' : la < 2000000) (hb' : lb ≤ 8)
    (hk1 : wrap64 ((IntKind.u64.wrap cut).tmod (la : Int)) = k1) (hk2 : wrap64 ((IntKind.u64.wrap cut).tmod (lb : Int)) = k2) (h1 : k1 < la) (h2 : k2 < lb) (X Y : List Int) (hX : Hid (X = (Be.be 4 s.size ++ bytesOf s).take k1)) (hY : Hid (Y = (Be.be (2 ^ w) n).take k2))
    (t1 : Hid (Rd.textF X 0 0 s.size = ([], 0, 3))) (t2 : Hid (Rd.takeF Y 0 0 (2 ^ w) = (0, 0, 3))) :
    Calls Try.prog 8 #[.string s, .int .i64 n, .int .i64 w, .int .i64 cut] W fun e w' => e = .returned (.bool true) ∧ Below W.heap.size W w' := by
  have t3 : Hid (Rd.takeF Y 0 3 1 = (0, 0, 3)) := rfl
  have t4 : Hid (Rd.textF X 0 3 0 = ([], 0, 3)) := rfl
  have t5 : Hid (Rd.endF X 0 3 = 3) := rfl
  have z1 : ((la : Int) == 0) = false := beq_eq_false_iff_ne.2 (by omega)
  have z2 : ((lb : Int) == 0) = false := beq_eq_false_iff_ne.2 (by omega)
  have z3 : decide ((w : Int) < 0) = false := decide_eq_false (by omega)
  have z4 : decide (3 < (w : Int)) = false := decide_eq_false (by omega)
  go_enter Try.func8, Try.ntmps8
  go_wp2_with (first
    | (go_at_call 11; refine (text_nil W s hs la hla.out).mono ?_; rintro e w1 ⟨A1, c1, rfl, hO1, hB1⟩; have hle1 := own_le hO1)
    | (go_at_call 9; refine (put_nil _ w hw n lb hlb.out).mono ?_; rintro e w2 ⟨A2, c2, rfl, hO2, hb2⟩; have hle2 := own_le hO2; have hO1' := pw_own_below hO1 hb2; have hB2 := below_then hB1 hB1.size hb2; clear hO1 hB1 hb2)
    | (go_at_call 14; refine (new_of W _ A1 k1 c1 X (by obtain ⟨A, c, e, hr⟩ := own_reads hO1'; injection e with e1 e2 e3; subst e1; rw [hX.out]; exact hr.take_ k1 (by omega)) (by omega) (by rw [hX.out]; exact byte_app s k1) hB2).mono ?_; rintro e w3 ⟨g1, rfl, hR1, hb3, hB3, hg1⟩; have hO2' := pw_own_below hO2 hb3; have hz2 := hB2.size; have hz3 := hB3.size; clear hO2 hO1' hB2)
    | (go_at_call 14; refine (new_of W _ A2 k2 c2 Y (by obtain ⟨A, c, e, hr⟩ := own_reads hO2'; injection e with e1 e2 e3; subst e1; rw [hY.out]; exact hr.take_ k2 (by omega)) (by omega) (by rw [hY.out]; exact byte_be _ n k2) hB3).mono ?_; rintro e w4 ⟨g2, rfl, hS1, hb4, hB4, hg2⟩; have hne := Lib.hid (show g1 ≠ g2 from by have := hR1.lt; omega); have hR2 := hR1.below hb4; clear hO2' hB3 hR1)
    | (go_at_call 18; refine (text_of0 hR2 t1.out).mono ?_; rintro e w5 ⟨rfl, hR3, hG⟩; have hS2 := hS1.apart hR2 (Ne.symm hne.out) hG; have hB5 := below_rd hB4 hR2 hz2 hG; clear hR2 hS1 hG hB4)
    | (go_at_call 16; refine (get_of hS2 w hw t2.out).mono ?_; rintro e w6 ⟨rfl, hS3, hG⟩; have hR4 := hR3.apart hS2 hne.out hG; have hB6 := below_rd hB5 hS2 hz3 hG; clear hR3 hS2 hG hB5)
    | (go_at_call 20; (with_reducible refine (Rd.err_any _ g1 _ _ _ _ hR4).mono ?_); rintro e w7 ⟨rfl, rfl⟩)
    | (go_at_call 20; (with_reducible refine (Rd.err_any _ g2 _ _ _ _ hS3).mono ?_); rintro e w7 ⟨rfl, rfl⟩)
    | (go_at_call 19; (with_reducible refine (Rd.at_any _ g1 _ _ _ _ hR4).mono ?_); rintro e w7 ⟨rfl, rfl⟩)
    | (go_at_call 19; (with_reducible refine (Rd.at_any _ g2 _ _ _ _ hS3).mono ?_); rintro e w7 ⟨rfl, rfl⟩)
    | (go_at_call 23; refine (u8_of hS3 t3.out).mono ?_; rintro e w8 ⟨rfl, hS4, hG⟩; have hR5 := hR4.apart hS3 hne.out hG; have hB8 := below_rd hB6 hS3 hz3 hG; clear hR4 hS3 hG hB6)
    | (go_at_call 18; refine (text_of0 hR5 t4.out).mono ?_; rintro e w9 ⟨rfl, hR6, hG⟩; have hB9 := below_rd hB8 hR5 hz2 hG; clear hR5 hS4 hG hB8)
    | (go_at_call 21; refine (end_of hR6 t5.out).mono ?_; rintro e w10 ⟨rfl, hG⟩; have hB10 := below_none hB9 hG; clear hR6 hG hB9)
    | (go_at_call 13; refine (lives _).mono ?_; rintro e w11 ⟨rfl, hb11⟩; have hB11 := below_then hB10 hB10.size hb11; clear hB10))
  go_ret
  exact ⟨rfl, hB11⟩
theorem short_any (s : ByteArray) (n w cut : Int) (W : World) (hs : s.size ≤ 1048576) : Calls Try.prog 8 #[.string s, .int .i64 n, .int .i64 w, .int .i64 cut] W fun e w' => e = .returned (.bool true) ∧ Below W.heap.size W w' := by
  by_cases hw : w < 0 ∨ 3 < w
  · exact short_out s n w cut W hw
  · obtain ⟨v, rfl⟩ := Int.eq_ofNat_of_zero_le (show 0 ≤ w by omega)
    have hv : v ≤ 3 := by omega
    have hp : 0 < 2 ^ v := Nat.two_pow_pos v
    have hp8 : 2 ^ v ≤ 8 := (by decide : ∀ m : Fin 4, 2 ^ m.val ≤ 8) ⟨v, by omega⟩
    obtain ⟨k1, e1, h1⟩ := cut_nat cut (4 + s.size) (by omega) (by omega)
    obtain ⟨k2, e2, h2⟩ := cut_nat cut (2 ^ v) hp (by omega)
    exact short_core s n cut v W hv hs (4 + s.size) (2 ^ v) k1 k2 rfl rfl (by omega) hp (by omega) hp8 e1 e2 h1 h2 _ _ rfl rfl (short_text s hs k1 h1) (short_take v n k2 h2)
end Go.Proofs.Ytgppbcgbnlobbaa.Wk
