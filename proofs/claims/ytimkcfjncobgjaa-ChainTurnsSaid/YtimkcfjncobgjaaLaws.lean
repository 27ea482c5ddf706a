/- The laws of chapter 13 over plain lists. -/
import Derived.Test.YtimkcfjncobgjaaPlain
namespace Go.Proofs.Ytimkcfjncobgjaa.Pure
open Go.RowKit Go.Proofs.Ytimkcfjncobgjaa.QC Go.Proofs.YtimkcfjncobgjaaW.PrintWords Go.Proofs.YtimkcfjncobgjaaW.PrintLast Go.Proofs.YtimkcfjncobgjaaW.PrintMore
set_option linter.unusedVariables false
theorem rat_loop {l : List S34} (hl : l.length ≤ 4000) {t : Int} {p : Nat} (hp : Pl l t p) : ∀ (d i k : Nat), d + i = p → d < k → ambryref13_At.l0 k l t (i : Int) = some (at' l p) := by
  intro d
  have := hp.le
  induction d with
  | zero =>
    intro i k hd hk
    obtain ⟨k, rfl⟩ : ∃ k', k = k' + 1 := ⟨k - 1, by omega⟩
    obtain rfl : i = p := by omega
    simp only [ambryref13_At.l0]
    unfold at'
    by_cases e : i < l.length
    · rw [if_pos (by omega), if_pos (by omega), if_pos (show (rd_T34 l (i : Int)).f0 ≤ t from hp.hi i (Nat.le_refl _) e), if_pos e]
    · rw [if_neg (by omega), if_neg e]
  | succ d ih =>
    intro i k hd hk
    obtain ⟨k, rfl⟩ : ∃ k', k = k' + 1 := ⟨k - 1, by omega⟩
    simp only [ambryref13_At.l0]
    have ht := hp.lo i (by omega)
    unfold T at ht
    rw [if_pos (by omega), if_pos (by omega), if_neg (by omega), wsucc i (by omega)]
    exact ih (i + 1) k (by omega) (by omega)
theorem take_rd (l : List S34) (i : Nat) (h : i < l.length) : l.take i ++ [(⟨(rd_T34 l (i : Int)).f0, (rd_T34 l (i : Int)).f1, (rd_T34 l (i : Int)).f2⟩ : S34)] = l.take (i + 1) := by
  rw [List.take_add_one, List.getElem?_eq_getElem h, rd_get l i h]; rfl
theorem drop_rd (l : List S34) (i : Nat) (h : i < l.length) : [(⟨(rd_T34 l (i : Int)).f0, (rd_T34 l (i : Int)).f1, (rd_T34 l (i : Int)).f2⟩ : S34)] ++ l.drop (i + 1) = l.drop i := by
  rw [rd_get l i h, List.drop_eq_getElem_cons h]; rfl
theorem rvac_loop {l : List S34} (hl : l.length ≤ 4000) {t : Int} {p : Nat} (hp : Pl l t p) : ∀ (d i k : Nat), d + i = p → d < k → ambryref13_Vacuum.l0 k l t (l.take i) (i : Int) = some (l.take (cut l p)) := by
  intro d
  have := hp.le
  induction d with
  | zero =>
    intro i k hd hk
    obtain ⟨k, rfl⟩ : ∃ k', k = k' + 1 := ⟨k - 1, by omega⟩
    obtain rfl : i = p := by omega
    simp only [ambryref13_Vacuum.l0]
    unfold cut
    by_cases e : i < l.length
    · rw [if_pos (by omega), if_pos (by omega), if_pos (show (rd_T34 l (i : Int)).f0 ≤ t from hp.hi i (Nat.le_refl _) e), if_pos e]
      by_cases e2 : (rd_T34 l (i : Int)).f2 = true
      · rw [if_pos e2, if_pos e2]
      · rw [if_neg e2, if_neg e2, if_pos (by rw [List.length_take]; omega), take_rd l i e]
    · rw [if_neg (by omega), if_neg e]
  | succ d ih =>
    intro i k hd hk
    obtain ⟨k, rfl⟩ : ∃ k', k = k' + 1 := ⟨k - 1, by omega⟩
    simp only [ambryref13_Vacuum.l0]
    have ht := hp.lo i (by omega)
    unfold T at ht
    rw [if_pos (by omega), if_pos (by omega), if_neg (by omega), wsucc i (by omega), if_pos (by rw [List.length_take]; omega), take_rd l i (by omega)]
    exact ih (i + 1) k (by omega) (by omega)
theorem rrew_hi {l : List S34} (hl : l.length ≤ 4000) {t : Int} {p : Nat} (hp : Pl l t p) : ∀ (d i k : Nat) (acc : List S34), d + i = l.length → d < k → p ≤ i → acc.length ≤ i → ambryref13_Rewind.l0 k l t acc (i : Int) = some (acc ++ l.drop i) := by
  intro d
  have := hp.le
  induction d with
  | zero =>
    intro i k acc hd hk hpi ha
    obtain ⟨k, rfl⟩ : ∃ k', k = k' + 1 := ⟨k - 1, by omega⟩
    simp only [ambryref13_Rewind.l0]
    rw [if_neg (by omega), List.drop_eq_nil_of_le (by omega), List.append_nil]
  | succ d ih =>
    intro i k acc hd hk hpi ha
    obtain ⟨k, rfl⟩ : ∃ k', k = k' + 1 := ⟨k - 1, by omega⟩
    simp only [ambryref13_Rewind.l0]
    rw [if_pos (by omega), if_pos (by omega), if_pos (show (rd_T34 l (i : Int)).f0 ≤ t from hp.hi i hpi (by omega)), if_pos (by omega), wsucc i (by omega)]
    rw [ih (i + 1) k _ (by omega) (by omega) (by omega) (by rw [List.length_append, List.length_singleton]; omega), List.append_assoc, drop_rd l i (by omega)]
theorem rrew_lo {l : List S34} (hl : l.length ≤ 4000) {t : Int} {p : Nat} (hp : Pl l t p) : ∀ (d i k : Nat), d + i = p → l.length + 1 < k + i → ambryref13_Rewind.l0 k l t [] (i : Int) = some (l.drop p) := by
  intro d
  have := hp.le
  induction d with
  | zero =>
    intro i k hd hk
    obtain rfl : i = p := by omega
    rw [rrew_hi hl hp (l.length - i) i k [] (by omega) (by omega) (Nat.le_refl _) (by simp), List.nil_append]
  | succ d ih =>
    intro i k hd hk
    obtain ⟨k, rfl⟩ : ∃ k', k = k' + 1 := ⟨k - 1, by omega⟩
    simp only [ambryref13_Rewind.l0]
    have ht := hp.lo i (by omega)
    unfold T at ht
    rw [if_pos (by omega), if_pos (by omega), if_neg (by omega), wsucc i (by omega)]
    exact ih (i + 1) k (by omega) (by omega)
section
variable {l : List S34} {k : Nat} (hl : l.length ≤ 4000) (hk : l.length + 1 < k)
include hl hk
theorem RAt_t (h : Rt l) {t : Int} {p : Nat} (hp : Pl l t p) : ambryref13_At.f k l t = some (at' l p) := by
  unfold ambryref13_At.f
  rw [Right_t hl (by omega) h, Option.bind_some, if_pos rfl]
  exact rat_loop hl hp p 0 k rfl (by have := hp.le; omega)
theorem RAt_f (h : ¬ Rt l) (t : Int) : ambryref13_At.f k l t = some ((⟨#[]⟩ : ByteArray), false) := by
  unfold ambryref13_At.f
  rw [Right_f hl (by omega) h, Option.bind_some, if_neg (by decide)]
theorem RSince_t (h : Rt l) {t : Int} {p : Nat} (hp : Pl l t p) : ambryref13_Since.f k l t = some (decide (0 < p)) := by
  unfold ambryref13_Since.f
  rw [Right_t hl (by omega) h, Option.bind_some, if_pos rfl]
  have hle := hp.le
  by_cases e : 0 < l.length
  · rw [if_pos (show (l.length : Int) > 0 by omega), if_pos (by omega)]
    congr 1
    have e0 : (rd_T34 l 0).f0 = T l 0 := rfl
    rw [e0]
    by_cases hp0 : 0 < p
    · have := hp.lo 0 hp0
      rw [decide_eq_true (by omega), decide_eq_true hp0]
    · have := hp.hi 0 (by omega) e
      rw [decide_eq_false (by omega), decide_eq_false hp0]
  · rw [if_neg (show ¬ (l.length : Int) > 0 by omega), decide_eq_false (by omega)]
theorem RSince_f (h : ¬ Rt l) (t : Int) : ambryref13_Since.f k l t = some false := by
  unfold ambryref13_Since.f
  rw [Right_f hl (by omega) h, Option.bind_some, if_neg (by decide)]
theorem RVacuum_t (h : Rt l) {t : Int} {p : Nat} (hp : Pl l t p) : ambryref13_Vacuum.f k l t = some (l.take (cut l p)) := by
  unfold ambryref13_Vacuum.f
  rw [Right_t hl (by omega) h, Option.bind_some, if_pos rfl]
  exact rvac_loop hl hp p 0 k rfl (by have := hp.le; omega)
theorem RVacuum_f (h : ¬ Rt l) (t : Int) : ambryref13_Vacuum.f k l t = some [] := by
  unfold ambryref13_Vacuum.f
  rw [Right_f hl (by omega) h, Option.bind_some, if_neg (by decide)]
theorem RRewind_t (h : Rt l) {t : Int} {p : Nat} (hp : Pl l t p) : ambryref13_Rewind.f k l t = some (l.drop p) := by
  unfold ambryref13_Rewind.f
  rw [Right_t hl (by omega) h, Option.bind_some, if_pos rfl]
  exact rrew_lo hl hp p 0 k rfl (by omega)
theorem RRewind_f (h : ¬ Rt l) (t : Int) : ambryref13_Rewind.f k l t = some [] := by
  unfold ambryref13_Rewind.f
  rw [Right_f hl (by omega) h, Option.bind_some, if_neg (by decide)]
end
theorem ChainAsks (l : List S34) (t : Int) : ambrylaw13_ChainAsks.f 2000 l t = some true := by
  unfold ambrylaw13_ChainAsks.f
  by_cases hb : (l.length : Int) > 1000
  · rw [if_pos hb, lives _ (by omega)]; rfl
  rw [if_neg hb]
  have hl : l.length ≤ 4000 := by omega
  by_cases h : Rt l
  · obtain ⟨p, hp⟩ := pl_ex h t
    rw [At_t hl (by omega) h hp, Option.bind_some, RAt_t hl (by omega) h hp, Option.bind_some, Check_t hl (by omega) h, Option.bind_some, RCheck_t hl (by omega) h, Option.bind_some, if_pos rfl, if_pos rfl, if_pos (by simp), Since_t hl (by omega) h hp, Option.bind_some, RSince_t hl (by omega) h hp, Option.bind_some, if_pos (by simp), lives _ (by omega)]
    rfl
  · rw [At_f hl (by omega) h, Option.bind_some, RAt_f hl (by omega) h, Option.bind_some, Check_f hl (by omega) h, Option.bind_some, RCheck_f hl (by omega) h, Option.bind_some, if_pos rfl, if_pos rfl, if_pos (by simp), Since_f hl (by omega) h, Option.bind_some, RSince_f hl (by omega) h, Option.bind_some, if_pos (by simp), lives _ (by omega)]
    rfl
theorem own_is (l : List S34) (hl : l.length ≤ 4000) : ambrylaw13_own.f l = some l := by
  unfold ambrylaw13_own.f
  simp only [Option.bind_some, List.nil_append, List.length_nil, Nat.zero_add]
  rw [if_pos (by omega), if_pos (by omega), if_pos (by omega), if_pos (by rw [List.length_append]; simp; omega), Int.toNat_natCast]
  rw [List.take_left]
theorem Rt_take {l : List S34} (h : Rt l) (n : Nat) : Rt (l.take n) := by
  intro j hj hl
  rw [List.length_take] at hl
  have e : ∀ i, i < n → rd_T34 (l.take n) (i : Int) = rd_T34 l (i : Int) := by
    intro i hi
    unfold rd_T34
    rw [Int.toNat_natCast, List.getD_eq_getElem?_getD, List.getD_eq_getElem?_getD, List.getElem?_take, if_pos hi]
  have := h j hj (by omega)
  unfold T at *
  rw [e j (by omega), e (j - 1) (by omega)]
  exact this
theorem rd_take (l : List S34) (n i : Nat) (hi : i < n) : rd_T34 (l.take n) (i : Int) = rd_T34 l (i : Int) := by
  unfold rd_T34
  rw [Int.toNat_natCast, List.getD_eq_getElem?_getD, List.getD_eq_getElem?_getD, List.getElem?_take, if_pos hi]
theorem rd_drop (l : List S34) (n i : Nat) : rd_T34 (l.drop n) (i : Int) = rd_T34 l ((n + i : Nat) : Int) := by
  unfold rd_T34
  rw [Int.toNat_natCast, Int.toNat_natCast, List.getD_eq_getElem?_getD, List.getD_eq_getElem?_getD, List.getElem?_drop]
theorem rd_cons (v : S34) (l : List S34) (i : Nat) : rd_T34 (v :: l) ((i + 1 : Nat) : Int) = rd_T34 l (i : Int) := by
  unfold rd_T34
  rw [Int.toNat_natCast, Int.toNat_natCast]
  rfl
theorem rd_cons0 (v : S34) (l : List S34) : rd_T34 (v :: l) ((0 : Nat) : Int) = v := rfl
theorem Rt_drop {l : List S34} (h : Rt l) (n : Nat) : Rt (l.drop n) := by
  intro j hj hl
  rw [List.length_drop] at hl
  have := h (n + j) (by omega) (by omega)
  unfold T at *
  rw [rd_drop, rd_drop]
  exact ⟨this.1, fun h0 => by have a := this.2 (by omega); rw [show n + j - 1 = n + (j - 1) by omega] at a; exact a⟩
theorem Rt_cons {v : S34} {l : List S34} (h : Rt l) (hv : ok1 v = true) (ht : 0 < l.length → T l 0 < v.f0) : Rt (v :: l) := by
  intro j hj hl
  rw [List.length_cons] at hl
  rcases j with _ | j
  · rw [rd_cons0]
    exact ⟨hv, fun h0 => absurd h0 (by omega)⟩
  · have := h j (by omega) (by omega)
    rw [rd_cons]
    refine ⟨this.1, fun _ => ?_⟩
    unfold T at *
    rw [rd_cons, Nat.add_sub_cancel]
    rcases j with _ | j
    · exact ht (by omega)
    · rw [rd_cons]
      exact this.2 (by omega)
theorem Add_is (k : Nat) (l : List S34) (v : S34) (hl : l.length ≤ 4000) (hk : l.length + 1 < k) :
    chain_Add.f k l v.f0 v.f1 v.f2 = ambryref13_Add.f k l v.f0 v.f1 v.f2 ∧
    ((Rt l ∧ ok1 v = true ∧ (0 < l.length → T l 0 < v.f0) ∧ chain_Add.f k l v.f0 v.f1 v.f2 = some (v :: l, 0)) ∨ ∃ e, e ≠ 0 ∧ chain_Add.f k l v.f0 v.f1 v.f2 = some ([], e)) := by
  unfold chain_Add.f ambryref13_Add.f
  rw [if_pos (by omega)]
  by_cases h : Rt l
  · rw [Check_t hl (by omega) h, Right_t hl (by omega) h, Option.bind_some, Option.bind_some, if_pos rfl, if_pos rfl, right, right', Option.bind_some, Option.bind_some]
    by_cases hv : ok1 v = true
    · rw [if_pos hv, if_pos hv]
      by_cases h0 : 0 < l.length
      · rw [if_pos h0, if_pos (show (l.length : Int) > 0 by omega), if_pos (show 0 < (l.length : Int) by omega)]
        by_cases ht : v.f0 ≤ (rd_T34 l 0).f0
        · rw [if_pos ht, if_pos ht]
          exact ⟨rfl, .inr ⟨18, by decide, rfl⟩⟩
        · rw [if_neg ht, if_neg ht, Option.bind_some, if_pos (by rw [List.length_singleton]; omega)]
          exact ⟨rfl, .inl ⟨h, hv, fun _ => by have e0 : (rd_T34 l 0).f0 = T l 0 := rfl
                                               omega, rfl⟩⟩
      · rw [if_neg h0, if_neg (show ¬ (l.length : Int) > 0 by omega), Option.bind_some, if_pos (by rw [List.length_singleton]; omega)]
        exact ⟨rfl, .inl ⟨h, hv, fun h1 => absurd h1 h0, rfl⟩⟩
    · rw [if_neg hv, if_neg hv]
      exact ⟨rfl, .inr ⟨2, by decide, rfl⟩⟩
  · rw [Check_f hl (by omega) h, Right_f hl (by omega) h, Option.bind_some, Option.bind_some, if_neg (by decide), if_neg (by decide)]
    exact ⟨rfl, .inr ⟨4, by decide, rfl⟩⟩
end Go.Proofs.Ytimkcfjncobgjaa.Pure
