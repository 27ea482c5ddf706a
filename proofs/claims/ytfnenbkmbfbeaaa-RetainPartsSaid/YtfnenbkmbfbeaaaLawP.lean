/- RetainParts over plain lists. -/
import Derived.Test.YtfnenbkmbfbeaaaLawA
import Derived.Test.YtfnenbkmbfbeaaaLawC
import Derived.Test.YtfnenbkmbfbeaaaQCx4
namespace Go.Proofs.Ytfnenbkmbfbeaaa.Pure
open Go.RowKit Go.Proofs.Ytfnenbkmbfbeaaa.QC Go.Proofs.YtfnenbkmbfbeaaaW.PrintWords Go.Proofs.YtfnenbkmbfbeaaaW.PrintLast Go.Proofs.YtfnenbkmbfbeaaaW.PrintMore
set_option linter.unusedVariables false
theorem filt_len (p : Int → Bool) : ∀ l : List Int, (l.filter p).length + (l.filter (fun x => !p x)).length = l.length
  | [] => rfl
  | a :: l => by
    have := filt_len p l
    rw [List.filter_cons, List.filter_cons]
    cases p a <;> simp <;> omega
theorem filt_sub {m l : List Int} (hs : m.Sublist l) : l.Pairwise (fun a b => a < b) → l.filter (fun x => m.contains x) = m := by
  induction hs with
  | slnil => intro _; rfl
  | @cons m l a hs ih =>
    intro h
    rw [List.pairwise_cons] at h
    have ha : m.contains a = false := by
      rw [List.contains_eq_mem, decide_eq_false_iff_not]
      intro hm
      have := h.1 a (hs.mem hm)
      omega
    rw [List.filter_cons, ha]
    exact ih h.2
  | @cons_cons m l a hs ih =>
    intro h
    rw [List.pairwise_cons] at h
    rw [List.filter_cons, if_pos (by simp)]
    refine congrArg (a :: ·) ?_
    have e : ∀ x ∈ l, (a :: m).contains x = m.contains x := by
      intro x hx
      have := h.1 x hx
      simp
      omega
    exact (List.filter_congr e).trans (ih h.2)
theorem parts_len {l : List Int} {a0 a1 a2 : Int} (h : Up l 0) : (kept l a0 a1 a2).length + (l.filter (fun x => !(kept l a0 a1 a2).contains x)).length = l.length := by
  have h1 := filt_len (fun x => (kept l a0 a1 a2).contains x) l
  rw [filt_sub (kept_sub l a0 a1 a2) ((Up_iff _).mp h).2] at h1
  exact h1
theorem parts_one {l : List Int} {a0 a1 a2 x : Int} (h : Up l 0) (hx : x ∈ l) : (kept l a0 a1 a2).count x + (l.filter (fun x => !(kept l a0 a1 a2).contains x)).count x = 1 := by
  have hp := ((Up_iff _).mp h).2
  by_cases hk : x ∈ kept l a0 a1 a2
  · rw [count_one (((Up_iff _).mp (Up_sub h (kept_sub _ a0 a1 a2))).2) hk, List.count_eq_zero_of_not_mem]
    rw [List.mem_filter]
    simp [hk]
  · rw [List.count_eq_zero_of_not_mem hk, count_one (hp.sublist List.filter_sublist) (by rw [List.mem_filter]; exact ⟨hx, by simp [hk]⟩)]
theorem last_kept {l : List Int} {a0 a1 a2 : Int} (i : Nat) (hi : i < l.length) (h : cutn l a0 ≤ i) : l[i] ∈ kept l a0 a1 a2 := by
  unfold kept
  refine List.mem_append_right _ ?_
  have e : (l.drop (cutn l a0))[i - cutn l a0]'(by rw [List.length_drop]; omega) = l[i] := by
    rw [List.getElem_drop]
    congr 1
    omega
  rw [← e]
  exact List.getElem_mem _
theorem parts_l1 (l kk : List Int) (m : Int) (hk : kk.length ≤ 1000) (hm : ∀ j, j < kk.length → m ≤ rd kk (j : Int)) (hz : (((l.length : Int) == 0) == (m == 0)) = true) : ∀ (d i k : Nat), d + i = kk.length → d + 100 < k → ambrylaw28_RetainParts.l1 k l kk m (i : Int) = some true := by
  intro d
  induction d with
  | zero =>
    intro i k hd hk2
    obtain ⟨k, rfl⟩ : ∃ k', k = k' + 1 := ⟨k - 1, by omega⟩
    simp only [ambrylaw28_RetainParts.l1]
    rw [if_neg (by omega), if_pos hz, lives _ (by omega)]
    rfl
  | succ d ih =>
    intro i k hd hk2
    obtain ⟨k, rfl⟩ : ∃ k', k = k' + 1 := ⟨k - 1, by omega⟩
    simp only [ambrylaw28_RetainParts.l1]
    have := hm i (by omega)
    rw [if_pos (by omega), if_pos (by omega), if_neg (by omega), wsucc i (by omega)]
    exact ih (i + 1) k (by omega) (by omega)
theorem parts_l0 {l : List Int} {a0 a1 a2 : Int} (m : Int) (hl : l.length ≤ 300) (hp : Pol a0 a1 a2) (h : Up l 0) (hm : ∀ j, j < (kept l a0 a1 a2).length → m ≤ rd (kept l a0 a1 a2) (j : Int)) (hz : (((l.length : Int) == 0) == (m == 0)) = true) : ∀ (d i k : Nat), d + i = l.length → d + 1500 < k →
    ambrylaw28_RetainParts.l0 k l (kept l a0 a1 a2) (l.filter (fun x => !(kept l a0 a1 a2).contains x)) m (i : Int) a0 a1 a2 = some true := by
  have hs := (kept_sub l a0 a1 a2).length_le
  have hfl : (l.filter fun x => !(kept l a0 a1 a2).contains x).length ≤ l.length := List.length_filter_le _ _
  have hn1 := hp.n1
  have hn2 := hp.n2
  intro d
  induction d with
  | zero =>
    intro i k hd hk2
    obtain ⟨k, rfl⟩ : ∃ k', k = k' + 1 := ⟨k - 1, by omega⟩
    simp only [ambrylaw28_RetainParts.l0]
    rw [if_neg (by omega)]
    exact parts_l1 l _ m (by omega) hm hz (kept l a0 a1 a2).length 0 k (Nat.add_zero _) (by omega)
  | succ d ih =>
    intro i k hd hk2
    obtain ⟨k, rfl⟩ : ∃ k', k = k' + 1 := ⟨k - 1, by omega⟩
    simp only [ambrylaw28_RetainParts.l0]
    have hi : i < l.length := by omega
    have h1 := parts_one (a0 := a0) (a1 := a1) (a2 := a2) h (List.getElem_mem hi)
    rw [if_pos (by omega), if_pos (by omega), rd_get _ _ hi, among_is _ _ k (by omega) (by omega), Option.bind_some, among_is _ _ k (by omega) (by omega), Option.bind_some, w64 _ (by omega) (by omega), if_pos (by omega), w64 _ (by omega) (by omega), wsucc i (by omega)]
    by_cases hc : (i : Int) ≥ (l.length : Int) - a0
    · have hin : l[i] ∈ kept l a0 a1 a2 := last_kept i hi (by unfold cutn; omega)
      rw [if_pos hc, Option.bind_some, count_one (((Up_iff _).mp (Up_sub h (kept_sub _ a0 a1 a2))).2) hin, if_pos (by decide)]
      exact ih (i + 1) k (by omega) (by omega)
    · rw [if_neg hc]
      exact ih (i + 1) k (by omega) (by omega)
theorem RetainParts (l : List Int) (a0 a1 a2 : Int) : ambrylaw28_RetainParts.f 3000 l a0 a1 a2 = some true := by
  unfold ambrylaw28_RetainParts.f
  by_cases hb : (l.length : Int) > 300
  · rw [if_pos hb, lives _ (by omega)]; rfl
  rw [if_neg hb]
  have hl : l.length ≤ 4000 := by omega
  by_cases h : Pol a0 a1 a2 ∧ Up l 0
  · have hs := kept_sub l a0 a1 a2
    have hle := hs.length_le
    have hu := Up_sub h.2 hs
    have hk := Keep_t (k := 3000) hl (by omega) h.1 h.2
    have hn1 := h.1.n1
    have hn2 := h.1.n2
    have hr1 := h.1.r1
    have hr2 := h.1.r2
    have hkl : (kept l a0 a1 a2).length ≤ a0.toNat + a2.toNat := by
      unfold kept oldKept
      rw [List.length_append, List.length_reverse, List.length_take, List.length_drop]
      unfold cutn
      omega
    obtain ⟨m, hM, hm, hz⟩ : ∃ m, retain_Mark.f 3000 l a0 a1 a2 = some (m, 0) ∧ (∀ j, j < (kept l a0 a1 a2).length → m ≤ rd (kept l a0 a1 a2) (j : Int)) ∧ (((l.length : Int) == 0) == (m == 0)) = true := by
      unfold retain_Mark.f
      rw [hk, Option.bind_some, if_pos rfl]
      by_cases h0 : l.length = 0
      · refine ⟨0, ?_, fun j hj => by omega, by rw [h0]; rfl⟩
        rw [if_pos (by show ((kept l a0 a1 a2).length : Int) = 0; omega)]
      · have hc : 0 < (kept l a0 a1 a2).length := by
          unfold kept cutn
          rw [List.length_append, List.length_drop]
          omega
        have hu0 := hu 0 (Nat.le_refl _) hc
        refine ⟨rd (kept l a0 a1 a2) 0, ?_, fun j hj => up_le hu j 0 (Nat.zero_le _) hj, ?_⟩
        · rw [if_neg (by show ¬ ((kept l a0 a1 a2).length : Int) = 0; omega), if_pos (by show (0 : Int) < ((kept l a0 a1 a2).length : Int); omega)]
        · have e1 : ((l.length : Int) == 0) = false := beq_eq_false_iff_ne.mpr (by omega)
          have e2 : (rd (kept l a0 a1 a2) 0 == 0) = false := beq_eq_false_iff_ne.mpr (by have h9 : 1 ≤ rd (kept l a0 a1 a2) 0 := hu0.1; omega)
          rw [e1, e2]
          rfl
    rw [hk, Option.bind_some, Next_t hl (by omega) h.1 h.2, Option.bind_some, hM, Option.bind_some, if_pos rfl, if_pos rfl]
    have hpl := parts_len (a0 := a0) (a1 := a1) (a2 := a2) h.2
    show ambrylaw28_RetainParts.j0 3000 l (kept l a0 a1 a2) 0 (l.filter fun x => !(kept l a0 a1 a2).contains x) 0 m 0 false a0 a1 a2 = some true
    simp only [ambrylaw28_RetainParts.j0]
    rw [if_neg (by decide), w64 _ (by omega) (by omega), if_pos (by omega), w64 _ (by omega) (by omega), decide_eq_false (by omega)]
    simp only [ambrylaw28_RetainParts.j1]
    rw [if_neg (by decide)]
    exact parts_l0 m (by omega) h.1 h.2 hm hz _ 0 2998 rfl (by omega)
  · obtain ⟨c, hc, e⟩ := Keep_f (k := 3000) hl (by omega) h
    have hne : (c != 0) = true := by rcases hc with rfl | rfl <;> rfl
    have hc0 : ¬ c = 0 := by rcases hc with rfl | rfl <;> decide
    have hN : retain_Next.f 3000 l a0 a1 a2 = some ([], c) := by
      unfold retain_Next.f
      rw [e, Option.bind_some, if_neg hc0]
    have hM : retain_Mark.f 3000 l a0 a1 a2 = some (0, c) := by
      unfold retain_Mark.f
      rw [e, Option.bind_some, if_neg hc0]
    rw [e, Option.bind_some, hN, Option.bind_some, hM, Option.bind_some, if_pos rfl, if_pos rfl]
    show ambrylaw28_RetainParts.j0 3000 l [] c [] c 0 c (c != 0) a0 a1 a2 = some true
    rw [hne]
    simp only [ambrylaw28_RetainParts.j0]
    rw [if_pos trivial, if_pos trivial, if_pos trivial, if_pos (by simp), if_pos (by simp), if_pos trivial, lives _ (by omega)]
    rfl
end Go.Proofs.Ytfnenbkmbfbeaaa.Pure
