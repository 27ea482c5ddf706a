/- RetainKeeps over plain lists: what the code keeps is what the document keeps. -/
import Derived.Test.YtfnenbkmbfbeaaaLawA
import Derived.Test.YtfnenbkmbfbeaaaQCx3
namespace Go.Proofs.Ytfnenbkmbfbeaaa.Pure
open Go.RowKit Go.Proofs.Ytfnenbkmbfbeaaa.QC Go.Proofs.YtfnenbkmbfbeaaaW.PrintWords Go.Proofs.YtfnenbkmbfbeaaaW.PrintLast Go.Proofs.YtfnenbkmbfbeaaaW.PrintMore
set_option linter.unusedVariables false
def cntd (l : List Int) (e : Int) (n : Nat) : Nat → Nat
  | 0 => 0
  | d + 1 => cntd l e n d + (if Iter.isNew l e (n - 1 - d) = true then 1 else 0)
theorem cntd_le (l : List Int) (e : Int) (n : Nat) : ∀ d, cntd l e n d ≤ d
  | 0 => Nat.le_refl _
  | d + 1 => by have := cntd_le l e n d; rw [cntd]; split <;> omega
def keptB (l : List Int) (e r : Int) (n i : Nat) : Bool := decide (n ≤ i) || (Iter.isNew l e i && decide ((cntd l e n (n - i) : Int) ≤ r))
def inF (p : Nat → Bool) : List Int → Nat → List Int
  | [], _ => []
  | x :: xs, i => if p i = true then x :: inF p xs (i + 1) else inF p xs (i + 1)
def outF (p : Nat → Bool) : List Int → Nat → List Int
  | [], _ => []
  | x :: xs, i => if p i = true then outF p xs (i + 1) else x :: outF p xs (i + 1)
theorem inF_sub (p : Nat → Bool) : ∀ (xs : List Int) (i : Nat), (inF p xs i).Sublist xs
  | [], _ => List.Sublist.refl _
  | x :: xs, i => by
    rw [inF]
    split
    · exact (inF_sub p xs (i + 1)).cons_cons x
    · exact (inF_sub p xs (i + 1)).cons x
theorem inF_all (p : Nat → Bool) : ∀ (xs : List Int) (i : Nat), (∀ j, i ≤ j → p j = true) → inF p xs i = xs
  | [], _, _ => rfl
  | x :: xs, i, h => by
    rw [inF, if_pos (h i (Nat.le_refl _)), inF_all p xs (i + 1) fun j hj => h j (by omega)]
theorem out_is (p : Nat → Bool) : ∀ (xs : List Int) (i : Nat), xs.Pairwise (fun a b => a < b) → outF p xs i = xs.filter (fun x => !(inF p xs i).contains x)
  | [], _, _ => rfl
  | x :: xs, i, h => by
    rw [List.pairwise_cons] at h
    have ih := out_is p xs (i + 1) h.2
    by_cases hp : p i = true
    · rw [outF, inF, if_pos hp, if_pos hp, List.filter_cons, if_neg (by simp), ih]
      refine List.filter_congr fun y hy => ?_
      have := h.1 y hy
      have e : ¬ y = x := by omega
      simp [e]
    · have hx : x ∉ inF p xs (i + 1) := fun hm => by
        have := h.1 x ((inF_sub p xs (i + 1)).mem hm)
        omega
      rw [outF, inF, if_neg hp, if_neg hp, List.filter_cons, if_pos (by simp [hx]), ih]
theorem first_is (l : List Int) (e : Int) (i : Nat) (hl : l.length ≤ 4000) (he : 1 ≤ e) (hi : i < l.length) : ambryref28_first.f l (i : Int) e = some (Iter.isNew l e i) := by
  unfold ambryref28_first.f Iter.isNew
  by_cases h0 : i = 0
  · subst h0
    rfl
  · rw [if_neg (by omega), if_pos (by omega), if_pos (by omega), if_neg (by omega), wpred i (by omega) (by omega), if_pos (by omega), if_pos (by omega), zd_rd, zd_rd, decide_eq_false h0, Bool.false_or]
theorem kept_loop (l : List Int) (a0 e r : Int) (n : Nat) (hl : l.length ≤ 4000) (he : 1 ≤ e) (hn : n ≤ l.length) : ∀ (d i k c : Nat), d + i = n → d < k → c + d ≤ 4000 → ambryref28_kept.l0 k l (n : Int) (c : Int) (i : Int) a0 e r = some (decide (((c + cntd l e n d : Nat) : Int) ≤ r)) := by
  intro d
  induction d with
  | zero =>
    intro i k c hd hk hc
    obtain ⟨k, rfl⟩ : ∃ k', k = k' + 1 := ⟨k - 1, by omega⟩
    simp only [ambryref28_kept.l0]
    rw [if_neg (by omega)]
    rfl
  | succ d ih =>
    intro i k c hd hk hc
    obtain ⟨k, rfl⟩ : ∃ k', k = k' + 1 := ⟨k - 1, by omega⟩
    simp only [ambryref28_kept.l0]
    rw [if_pos (by omega), first_is l e i hl he (by omega), Option.bind_some, wsucc i (by omega), wsucc c (by omega), cntd, show n - 1 - d = i by omega]
    by_cases hb : Iter.isNew l e i = true
    · rw [if_pos hb, if_pos hb, ih (i + 1) k (c + 1) (by omega) (by omega) (by omega), show c + 1 + cntd l e n d = c + (cntd l e n d + 1) by omega]
    · rw [if_neg hb, if_neg hb, ih (i + 1) k c (by omega) (by omega) (by omega), Nat.add_zero]
theorem mx_is {l : List Int} {a0 : Int} (hl : l.length ≤ 4000) (h1 : 1 ≤ a0) (h2 : a0 ≤ 1000) : mx 0 (wrap64 ((l.length : Int) - a0)) = (cutn l a0 : Int) := by
  rw [w64 _ (by omega) (by omega)]
  unfold mx cutn
  omega
theorem kept_is {l : List Int} {a0 e r : Int} (hp : Pol a0 e r) (i k : Nat) (hl : l.length ≤ 4000) (hi : i < l.length) (hk : l.length < k) : ambryref28_kept.f k l (i : Int) a0 e r = some (keptB l e r (cutn l a0) i) := by
  have hn1 := hp.n1
  have hn2 := hp.n2
  have he := hp.e1
  have hc : cutn l a0 ≤ l.length := Nat.sub_le _ _
  unfold ambryref28_kept.f keptB
  rw [mx_is hl hn1 hn2]
  by_cases h : cutn l a0 ≤ i
  · rw [if_pos (by omega), decide_eq_true h, Bool.true_or]
  · rw [if_neg (by omega), decide_eq_false h, Bool.false_or, first_is l e i hl he hi, Option.bind_some]
    by_cases hb : Iter.isNew l e i = true
    · have hq := kept_loop l a0 e r (cutn l a0) hl he hc (cutn l a0 - i) i k 0 (by omega) (by omega) (by omega)
      rw [Nat.zero_add] at hq
      rw [if_pos hb, hb, Bool.true_and]
      exact hq
    · rw [if_neg hb, (by simpa using hb : Iter.isNew l e i = false), Bool.false_and]
theorem Keep_loop {l : List Int} {a0 e r : Int} (hp : Pol a0 e r) (hl : l.length ≤ 4000) : ∀ (d i k : Nat) (a b : List Int), d + i = l.length → d + l.length < k → a.length ≤ i → b.length ≤ i →
    ambryref28_Keep.l0 k l a b (i : Int) a0 e r = some (a ++ inF (keptB l e r (cutn l a0)) (l.drop i) i, b ++ outF (keptB l e r (cutn l a0)) (l.drop i) i, 0) := by
  intro d
  induction d with
  | zero =>
    intro i k a b hd hk ha hb
    obtain ⟨k, rfl⟩ : ∃ k', k = k' + 1 := ⟨k - 1, by omega⟩
    simp only [ambryref28_Keep.l0]
    rw [if_neg (by omega), List.drop_eq_nil_of_le (by omega), inF, outF, List.append_nil, List.append_nil]
  | succ d ih =>
    intro i k a b hd hk ha hb
    obtain ⟨k, rfl⟩ : ∃ k', k = k' + 1 := ⟨k - 1, by omega⟩
    simp only [ambryref28_Keep.l0]
    have hi : i < l.length := by omega
    rw [if_pos (by omega), kept_is hp i k hl hi (by omega), Option.bind_some, wsucc i (by omega), rd_get _ _ hi, List.drop_eq_getElem_cons hi, inF, outF]
    by_cases hb2 : keptB l e r (cutn l a0) i = true
    · rw [if_pos hb2, if_pos hb2, if_pos hb2, if_pos (by omega), if_pos (by omega), ih (i + 1) k _ b (by omega) (by omega) (by rw [List.length_append, List.length_singleton]; omega) (by omega), List.append_assoc]
      rfl
    · rw [if_neg hb2, if_neg hb2, if_neg hb2, if_pos (by omega), if_pos (by omega), ih (i + 1) k a _ (by omega) (by omega) (by omega) (by rw [List.length_append, List.length_singleton]; omega), List.append_assoc]
      rfl
theorem isNew_take (l : List Int) (e : Int) (n i : Nat) (hi : i < n) : Iter.isNew (l.take n) e i = Iter.isNew l e i := by
  have h : ∀ j, j < n → Iter.zd (l.take n) j = Iter.zd l j := fun j hj => by unfold Iter.zd; rw [List.getElem?_take, if_pos hj]
  unfold Iter.isNew
  rw [h i hi, h (i - 1) (by omega)]
theorem down_cnt (l : List Int) (e : Int) (n : Nat) (hn : n ≤ l.length) : ∀ d, d ≤ n → (Iter.down (l.take n) e d).length = cntd l e n d := by
  intro d
  induction d with
  | zero => intro _; rfl
  | succ d ih =>
    intro hd
    have hz : (l.take n).length = n := by rw [List.length_take]; omega
    rw [Iter.down, cntd, hz, isNew_take l e n _ (by omega)]
    split
    · rw [List.length_append, List.length_singleton, ih (by omega)]
    · rw [ih (by omega)]; rfl
theorem old_in (l : List Int) (e : Int) (r : Nat) (n : Nat) (hn : n ≤ l.length) : ∀ d, d ≤ n → inF (keptB l e (r : Int) n) (l.drop (n - d)) (n - d) = ((Iter.down (l.take n) e d).take r).reverse ++ l.drop n := by
  intro d
  induction d with
  | zero =>
    intro _
    rw [inF_all _ _ _ (fun j hj => by unfold keptB; rw [decide_eq_true (by omega), Bool.true_or])]
    simp [Iter.down]
  | succ d ih =>
    intro hd
    have hz : (l.take n).length = n := by rw [List.length_take]; omega
    have hlt : n - (d + 1) < l.length := by omega
    have hc := down_cnt l e n hn d (by omega)
    have hzd : Iter.zd (l.take n) (n - 1 - d) = l[n - (d + 1)] := by
      unfold Iter.zd
      rw [List.getElem?_take, if_pos (by omega), show n - 1 - d = n - (d + 1) by omega, List.getElem?_eq_getElem hlt]
      rfl
    have hk : keptB l e (r : Int) n (n - (d + 1)) = (Iter.isNew l e (n - 1 - d) && decide (cntd l e n (d + 1) ≤ r)) := by
      unfold keptB
      rw [decide_eq_false (by omega), Bool.false_or, show n - (n - (d + 1)) = d + 1 by omega, show n - (d + 1) = n - 1 - d by omega]
      congr 1
      rw [decide_eq_decide]
      omega
    rw [List.drop_eq_getElem_cons hlt, inF, hk, show n - (d + 1) + 1 = n - d by omega, ih (by omega), Iter.down, hz, isNew_take l e n _ (by omega), hzd, cntd]
    by_cases hb : Iter.isNew l e (n - 1 - d) = true
    · rw [if_pos hb, if_pos hb, hb, Bool.true_and]
      by_cases hr : cntd l e n d + 1 ≤ r
      · have e1 : (Iter.down (l.take n) e d).take r = Iter.down (l.take n) e d := List.take_of_length_le (by omega)
        have e2 : (Iter.down (l.take n) e d ++ [l[n - (d + 1)]]).take r = Iter.down (l.take n) e d ++ [l[n - (d + 1)]] := List.take_of_length_le (by rw [List.length_append, List.length_singleton]; omega)
        rw [if_pos (decide_eq_true hr), e1, e2, List.reverse_append]
        rfl
      · rw [if_neg (by simpa using hr), List.take_append_of_le_length (by omega)]
    · rw [if_neg hb, (by simpa using hb : Iter.isNew l e (n - 1 - d) = false), Bool.false_and, if_neg (by decide), if_neg (by decide)]
theorem ref_kept {l : List Int} {a0 a1 a2 : Int} (hp : Pol a0 a1 a2) : inF (keptB l a1 a2 (cutn l a0)) l 0 = kept l a0 a1 a2 := by
  have hr := hp.r1
  have h := old_in l a1 a2.toNat (cutn l a0) (Nat.sub_le _ _) (cutn l a0) (Nat.le_refl _)
  rw [Nat.sub_self, List.drop_zero, Int.toNat_of_nonneg hr] at h
  exact h
theorem Right_t {a0 a1 a2 : Int} (h : Pol a0 a1 a2) : ambryref28_Right.f a0 a1 a2 = some true := by
  obtain ⟨h1, h2, h3, h4, h5, h6⟩ := h
  unfold ambryref28_Right.f
  rw [if_pos h1, if_pos h2, if_pos h3, if_pos h4, if_pos h5, decide_eq_true h6]
theorem Right_f {a0 a1 a2 : Int} (h : ¬ Pol a0 a1 a2) : ambryref28_Right.f a0 a1 a2 = some false := by
  unfold ambryref28_Right.f
  by_cases h1 : a0 ≥ 1
  · rw [if_pos h1]
    by_cases h2 : a0 ≤ 1000
    · rw [if_pos h2]
      by_cases h3 : a1 ≥ 1
      · rw [if_pos h3]
        by_cases h4 : a1 ≤ 1152921504606846976
        · rw [if_pos h4]
          by_cases h5 : a2 ≥ 0
          · rw [if_pos h5]
            by_cases h6 : a2 ≤ 1000
            · exact absurd ⟨h1, h2, h3, h4, h5, h6⟩ h
            · rw [decide_eq_false h6]
          · rw [if_neg h5]
        · rw [if_neg h4]
      · rw [if_neg h3]
    · rw [if_neg h2]
  · rw [if_neg h1]
theorem ref_rise (l : List Int) (hl : l.length ≤ 4000) : ∀ (d i k : Nat), d + i = l.length → d < k → (Up l i → ambryref28_rise.l0 k l (i : Int) = some true) ∧ (¬ Up l i → ambryref28_rise.l0 k l (i : Int) = some false) := by
  intro d
  induction d with
  | zero =>
    intro i k hd hk
    obtain ⟨k, rfl⟩ : ∃ k', k = k' + 1 := ⟨k - 1, by omega⟩
    simp only [ambryref28_rise.l0]
    rw [if_neg (by omega)]
    exact ⟨fun _ => rfl, fun h => absurd (fun j hj hj2 => by omega) h⟩
  | succ d ih =>
    intro i k hd hk
    obtain ⟨k, rfl⟩ : ∃ k', k = k' + 1 := ⟨k - 1, by omega⟩
    simp only [ambryref28_rise.l0]
    have hi : i < l.length := by omega
    have ih := ih (i + 1) k (by omega) (by omega)
    rw [if_pos (by omega), if_pos (by omega), Up_step l i hi, wsucc i (by omega)]
    by_cases h1 : rd l (i : Int) < 1
    · rw [if_pos h1]
      exact ⟨fun h => by omega, fun _ => rfl⟩
    rw [if_neg h1]
    by_cases h2 : rd l (i : Int) > 1152921504606846976
    · rw [if_pos h2]
      exact ⟨fun h => by omega, fun _ => rfl⟩
    rw [if_neg h2]
    by_cases h0 : 0 < i
    · rw [if_pos (by omega), wpred i (by omega) h0, if_pos (by omega), if_pos (by omega)]
      by_cases h3 : rd l (i : Int) ≤ rd l ((i - 1 : Nat) : Int)
      · rw [if_pos h3]
        exact ⟨fun h => by have := h.1.2.2 h0; omega, fun _ => rfl⟩
      · rw [if_neg h3]
        exact ⟨fun h => ih.1 h.2, fun h => ih.2 fun hu => h ⟨⟨by omega, by omega, fun _ => by omega⟩, hu⟩⟩
    · rw [if_neg (by omega)]
      exact ⟨fun h => ih.1 h.2, fun h => ih.2 fun hu => h ⟨⟨by omega, by omega, fun h4 => absurd h4 h0⟩, hu⟩⟩
theorem Keep_bad {l : List Int} {a0 a1 a2 : Int} {k : Nat} (hl : l.length ≤ 4000) (hk : l.length < k) (h : ¬ (Pol a0 a1 a2 ∧ Up l 0)) : ∃ c, (c = 2 ∨ c = 4) ∧ retain_Keep.f k l a0 a1 a2 = some ([], c) ∧ ambryref28_Keep.f k l a0 a1 a2 = some ([], [], c) := by
  by_cases hp : Pol a0 a1 a2
  · have hu : ¬ Up l 0 := fun h2 => h ⟨hp, h2⟩
    refine ⟨4, .inr rfl, ?_, ?_⟩
    · unfold retain_Keep.f
      have e : retain_rise.f k l = some false := (rise_loop l hl l.length 0 k rfl hk).2 hu
      rw [if_pos (by omega), Check_t hp, Option.bind_some, if_pos rfl, e, Option.bind_some, if_neg (by decide)]
    · unfold ambryref28_Keep.f
      have e : ambryref28_rise.f k l = some false := (ref_rise l hl l.length 0 k rfl hk).2 hu
      rw [Right_t hp, Option.bind_some, if_pos rfl, e, Option.bind_some, if_neg (by decide)]
  · refine ⟨2, .inl rfl, ?_, ?_⟩
    · unfold retain_Keep.f
      rw [if_pos (by omega), Check_f hp, Option.bind_some, if_neg (by decide)]
    · unfold ambryref28_Keep.f
      rw [Right_f hp, Option.bind_some, if_neg (by decide)]
theorem ref_Keep {l : List Int} {a0 a1 a2 : Int} {k : Nat} (hl : l.length ≤ 4000) (hk : l.length + l.length < k) (hp : Pol a0 a1 a2) (h : Up l 0) : ambryref28_Keep.f k l a0 a1 a2 = some (kept l a0 a1 a2, l.filter (fun x => !(kept l a0 a1 a2).contains x), 0) := by
  unfold ambryref28_Keep.f
  have e : ambryref28_rise.f k l = some true := (ref_rise l hl l.length 0 k rfl (by omega)).1 h
  rw [Right_t hp, Option.bind_some, if_pos rfl, e, Option.bind_some, if_pos rfl, ← Int.natCast_zero, Keep_loop hp hl l.length 0 k [] [] rfl hk (by simp) (by simp), List.drop_zero, List.nil_append, List.nil_append, out_is _ _ _ ((Up_iff _).mp h).2, ref_kept hp]
  rfl
end Go.Proofs.Ytfnenbkmbfbeaaa.Pure
