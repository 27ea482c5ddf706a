/- retain.Keep over plain lists. -/
import Derived.Test.YtfnenbkmbfbeaaaPlain
import Derived.Test.YtfnenbkmbfbeaaaQCx6
namespace Go.Proofs.Ytfnenbkmbfbeaaa.Pure
open Go.RowKit Go.Proofs.Ytfnenbkmbfbeaaa.QC Go.Proofs.YtfnenbkmbfbeaaaW.PrintWords Go.Proofs.YtfnenbkmbfbeaaaW.PrintLast Go.Proofs.YtfnenbkmbfbeaaaW.PrintMore
set_option linter.unusedVariables false
theorem lives_some : ambrylaw28_lives.f 20 = some true := by decide +kernel
theorem lives (k : Nat) (h : 20 ≤ k) : ambrylaw28_lives.f k = some true := by
  obtain ⟨d, rfl⟩ : ∃ d, k = 20 + d := ⟨k - 20, by omega⟩
  clear h
  induction d with
  | zero => exact lives_some
  | succ d ih => exact ambrylaw28_lives.mono _ _ ih
structure Pol (a0 a1 a2 : Int) : Prop where
  n1 : 1 ≤ a0
  n2 : a0 ≤ 1000
  e1 : 1 ≤ a1
  e2 : a1 ≤ 1152921504606846976
  r1 : 0 ≤ a2
  r2 : a2 ≤ 1000
theorem Check_t {a0 a1 a2 : Int} (h : Pol a0 a1 a2) : retain_Check.f a0 a1 a2 = some 0 := by
  have := h.n1; have := h.n2; have := h.e1; have := h.e2; have := h.r1; have := h.r2
  unfold retain_Check.f
  rw [if_neg (by omega), if_neg (by omega), if_neg (by omega), if_neg (by omega), if_neg (by omega), if_neg (by omega)]
theorem Check_f {a0 a1 a2 : Int} (h : ¬ Pol a0 a1 a2) : retain_Check.f a0 a1 a2 = some 2 := by
  unfold retain_Check.f
  repeat' split
  all_goals first | rfl | exact absurd ⟨by omega, by omega, by omega, by omega, by omega, by omega⟩ h
def cutn (l : List Int) (a0 : Int) : Nat := l.length - a0.toNat
def oldKept (l : List Int) (a0 a1 a2 : Int) : List Int := ((Iter.down (l.take (cutn l a0)) a1 (cutn l a0)).take a2.toNat).reverse
def kept (l : List Int) (a0 a1 a2 : Int) : List Int := oldKept l a0 a1 a2 ++ l.drop (cutn l a0)
theorem cutn_is {l : List Int} {a0 : Int} (hl : l.length ≤ 4000) (h1 : 1 ≤ a0) (h2 : a0 ≤ 1000) : retain_Keep.n l a0 = cutn l a0 := by
  unfold retain_Keep.n cutn
  rw [w64 _ (by omega) (by omega)]
  unfold mx
  split <;> omega
theorem old_len (l : List Int) (a0 a1 a2 : Int) : (oldKept l a0 a1 a2).length ≤ cutn l a0 := by
  unfold oldKept
  have := Iter.down_len (l.take (cutn l a0)) a1 (cutn l a0)
  rw [List.length_reverse, List.length_take]
  omega
theorem Keep_t {l : List Int} {a0 a1 a2 : Int} {k : Nat} (hl : l.length ≤ 4000) (hk : l.length < k) (hp : Pol a0 a1 a2) (h : Up l 0) : retain_Keep.f k l a0 a1 a2 = some (kept l a0 a1 a2, 0) := by
  unfold retain_Keep.f
  have hc : cutn l a0 ≤ l.length := by unfold cutn; omega
  have ho := old_len l a0 a1 a2
  have hd := Iter.down_len (l.take (cutn l a0)) a1 (cutn l a0)
  have hr : retain_rise.f k l = some true := (rise_loop l hl l.length 0 k rfl hk).1 h
  rw [if_pos (by omega), Check_t hp, Option.bind_some, if_pos rfl, hr, Option.bind_some, if_pos rfl, cutn_is hl hp.n1 hp.n2, if_pos hc]
  rw [Reverse_is _ k (by rw [List.length_take]; omega) (by rw [List.length_take]; omega), Option.bind_some, if_pos (by have := ho; unfold oldKept at this; omega)]
  rfl
theorem Keep_f {l : List Int} {a0 a1 a2 : Int} {k : Nat} (hl : l.length ≤ 4000) (hk : l.length < k) (h : ¬ (Pol a0 a1 a2 ∧ Up l 0)) : ∃ c, (c = 2 ∨ c = 4) ∧ retain_Keep.f k l a0 a1 a2 = some ([], c) := by
  unfold retain_Keep.f
  rw [if_pos (by omega)]
  by_cases hp : Pol a0 a1 a2
  · have hu : ¬ Up l 0 := fun h2 => h ⟨hp, h2⟩
    have hr : retain_rise.f k l = some false := (rise_loop l hl l.length 0 k rfl hk).2 hu
    rw [Check_t hp, Option.bind_some, if_pos rfl, hr, Option.bind_some, if_neg (by decide)]
    exact ⟨4, .inr rfl, rfl⟩
  · rw [Check_f hp, Option.bind_some, if_neg (by decide)]
    exact ⟨2, .inl rfl, rfl⟩
/-- The row of a time. -/
def Q (e x : Int) : Int := wrap64 (x.tdiv e)
theorem Q_mono {e x y : Int} (he : 1 ≤ e) (h1 : 1 ≤ x) (hxy : x ≤ y) (h2 : y ≤ 1152921504606846976) : Q e x ≤ Q e y := by
  unfold Q
  rw [Int.tdiv_eq_ediv_of_nonneg (by omega), Int.tdiv_eq_ediv_of_nonneg (by omega)]
  have a1 : 0 ≤ x / e := Int.ediv_nonneg (by omega) (by omega)
  have a2 : x / e ≤ x := Int.ediv_le_self e (by omega)
  have b1 : 0 ≤ y / e := Int.ediv_nonneg (by omega) (by omega)
  have b2 : y / e ≤ y := Int.ediv_le_self e (by omega)
  rw [w64 _ (by omega) (by omega), w64 _ (by omega) (by omega)]
  exact Int.ediv_le_ediv (by omega) hxy
theorem zd_rd (l : List Int) (j : Nat) : Iter.zd l j = rd l (j : Int) := by unfold Iter.zd rd; rw [Int.toNat_natCast, List.getD_eq_getElem?_getD]
theorem up_le {l : List Int} (h : Up l 0) : ∀ (j i : Nat), i ≤ j → j < l.length → rd l (i : Int) ≤ rd l (j : Int) := by
  intro j
  induction j with
  | zero => intro i hi _; obtain rfl : i = 0 := by omega
            exact Int.le_refl _
  | succ j ih =>
    intro i hi hj
    by_cases e : i = j + 1
    · subst e; exact Int.le_refl _
    · have a := ih i (by omega) (by omega)
      have b := (h (j + 1) (by omega) hj).2.2 (by omega)
      simp only [Nat.add_sub_cancel] at b
      omega
theorem down_rows {zs : List Int} {e : Int} (he : 1 ≤ e) (h : Up zs 0) : ∀ d, d ≤ zs.length → (Iter.down zs e d).Pairwise (fun a b => Q e b < Q e a) ∧ ∀ x ∈ Iter.down zs e d, ∀ j, j < zs.length - d → Q e (rd zs (j : Int)) < Q e x := by
  intro d
  induction d with
  | zero => intro _; exact ⟨List.Pairwise.nil, fun x hx => by simp [Iter.down] at hx⟩
  | succ d ih =>
    intro hd
    obtain ⟨h1, h2⟩ := ih (by omega)
    rw [Iter.down]
    by_cases hn : Iter.isNew zs e (zs.length - 1 - d) = true
    · rw [if_pos hn]
      have hlt : ∀ j, j < zs.length - (d + 1) → Q e (rd zs (j : Int)) < Q e (Iter.zd zs (zs.length - 1 - d)) := by
        intro j hj
        rw [zd_rd]
        have hm : 0 < zs.length - 1 - d := by omega
        unfold Iter.isNew at hn
        rw [decide_eq_false (by omega), Bool.false_or, zd_rd, zd_rd] at hn
        have hne : Q e (rd zs ((zs.length - 1 - d : Nat) : Int)) ≠ Q e (rd zs ((zs.length - 1 - d - 1 : Nat) : Int)) := by simpa [Q] using hn
        have b1 := h (zs.length - 1 - d) (by omega) (by omega)
        have b0 := h (zs.length - 1 - d - 1) (by omega) (by omega)
        have bj := h j (by omega) (by omega)
        have l1 := up_le h (zs.length - 1 - d - 1) j (by omega) (by omega)
        have l2 := up_le h (zs.length - 1 - d) (zs.length - 1 - d - 1) (by omega) (by omega)
        have q1 := Q_mono he bj.1 l1 b0.2.1
        have q2 := Q_mono he b0.1 l2 b1.2.1
        omega
      refine ⟨?_, ?_⟩
      · rw [List.pairwise_append]
        refine ⟨h1, List.pairwise_singleton _ _, fun a ha b hb => ?_⟩
        rw [List.mem_singleton] at hb
        subst hb
        have := h2 a ha (zs.length - 1 - d) (by omega)
        rwa [zd_rd]
      · intro x hx j hj
        rw [List.mem_append, List.mem_singleton] at hx
        rcases hx with hx | rfl
        · exact h2 x hx j (by omega)
        · exact hlt j hj
    · rw [if_neg hn]
      exact ⟨h1, fun x hx j hj => h2 x hx j (by omega)⟩
theorem Up_take {l : List Int} (h : Up l 0) (n : Nat) : Up (l.take n) 0 := by
  intro j hj hl
  rw [List.length_take] at hl
  have e : ∀ i, i < n → rd (l.take n) (i : Int) = rd l (i : Int) := by
    intro i hi
    unfold rd
    rw [Int.toNat_natCast, List.getD_eq_getElem?_getD, List.getD_eq_getElem?_getD, List.getElem?_take, if_pos hi]
  have := h j hj (by omega)
  rw [e j (by omega), e (j - 1) (by omega)]
  exact this
theorem old_rows {l : List Int} {a0 a1 a2 : Int} (he : 1 ≤ a1) (h : Up l 0) : (oldKept l a0 a1 a2).Pairwise (fun a b => Q a1 a < Q a1 b) := by
  unfold oldKept
  rw [List.pairwise_reverse]
  have h2 := (down_rows he (Up_take h (cutn l a0)) (cutn l a0) (by rw [List.length_take]; unfold cutn; omega)).1
  exact h2.sublist (List.take_sublist _ _)
theorem rows_loop {l : List Int} {a0 a1 a2 : Int} (hl : l.length ≤ 4000) (hp : Pol a0 a1 a2) (h : Up l 0) : ∀ (d i k : Nat), 1 ≤ i → (oldKept l a0 a1 a2).length ≤ i + d → d + 20 < k → ambrylaw28_RetainRows.l0 k (kept l a0 a1 a2) (i : Int) a0 a1 a2 = some true := by
  have ho := old_len l a0 a1 a2
  have hkl : (kept l a0 a1 a2).length = (oldKept l a0 a1 a2).length + (l.length - cutn l a0) := by unfold kept; rw [List.length_append, List.length_drop]
  have hn1 := hp.n1; have hn2 := hp.n2; have he1 := hp.e1
  have hcn : cutn l a0 = l.length - a0.toNat := rfl
  intro d
  induction d with
  | zero =>
    intro i k h1 h2 hk
    obtain ⟨k, rfl⟩ : ∃ k', k = k' + 1 := ⟨k - 1, by omega⟩
    simp only [ambrylaw28_RetainRows.l0]
    rw [w64 _ (by omega) (by omega), if_neg (by omega), lives _ (by omega)]
    rfl
  | succ d ih =>
    intro i k h1 h2 hk
    obtain ⟨k, rfl⟩ : ∃ k', k = k' + 1 := ⟨k - 1, by omega⟩
    simp only [ambrylaw28_RetainRows.l0]
    rw [w64 (((kept l a0 a1 a2).length : Int) - a0) (by omega) (by omega)]
    by_cases hlt : (i : Int) < ((kept l a0 a1 a2).length : Int) - a0
    · have hio : i < (oldKept l a0 a1 a2).length := by omega
      have e : ∀ j, j < (oldKept l a0 a1 a2).length → rd (kept l a0 a1 a2) (j : Int) = rd (oldKept l a0 a1 a2) (j : Int) := by
        intro j hj
        unfold kept rd
        rw [Int.toNat_natCast, List.getD_eq_getElem?_getD, List.getD_eq_getElem?_getD, List.getElem?_append_left hj]
      have hq := List.pairwise_iff_getElem.mp (old_rows (a0 := a0) (a2 := a2) he1 h) (i - 1) i (by omega) hio (by omega)
      rw [← rd_get _ _ (by omega), ← rd_get _ _ hio] at hq
      rw [if_pos hlt, if_neg (by omega), if_pos (by omega), if_pos (by omega), if_neg (by omega), wpred i (by omega) (by omega), if_pos (by omega), if_pos (by omega), e i hio, e (i - 1) (by omega), wsucc i (by omega)]
      rw [if_neg (by unfold Q at hq; omega)]
      exact ih (i + 1) k (by omega) (by omega) (by omega)
    · rw [if_neg hlt, lives _ (by omega)]
      rfl
end Go.Proofs.Ytfnenbkmbfbeaaa.Pure
