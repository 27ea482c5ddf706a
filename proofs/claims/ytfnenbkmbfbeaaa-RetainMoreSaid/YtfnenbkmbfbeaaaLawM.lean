/- RetainMore over plain lists. -/
import Derived.Test.YtfnenbkmbfbeaaaLawA
import Derived.Test.YtfnenbkmbfbeaaaLawC
import Derived.Test.YtfnenbkmbfbeaaaQCx5
namespace Go.Proofs.Ytfnenbkmbfbeaaa.Pure
open Go.RowKit Go.Proofs.Ytfnenbkmbfbeaaa.QC Go.Proofs.YtfnenbkmbfbeaaaW.PrintWords Go.Proofs.YtfnenbkmbfbeaaaW.PrintLast Go.Proofs.YtfnenbkmbfbeaaaW.PrintMore
set_option linter.unusedVariables false
theorem isNew_app (zs : List Int) (y e : Int) (i : Nat) (hi : i < zs.length) : Iter.isNew (zs ++ [y]) e i = Iter.isNew zs e i := by
  have h : ∀ j, j < zs.length → Iter.zd (zs ++ [y]) j = Iter.zd zs j := fun j hj => by unfold Iter.zd; rw [List.getElem?_append_left hj]
  unfold Iter.isNew
  rw [h i hi, h (i - 1) (by omega)]
/-- One newer time more: what came before comes behind it. -/
theorem down_app (zs : List Int) (y e : Int) : ∀ d, d ≤ zs.length → Iter.down (zs ++ [y]) e (d + 1) = (if Iter.isNew (zs ++ [y]) e zs.length = true then [y] else []) ++ Iter.down zs e d := by
  intro d
  induction d with
  | zero =>
    intro _
    have hl : (zs ++ [y]).length - 1 - 0 = zs.length := by simp
    have hz : Iter.zd (zs ++ [y]) zs.length = y := by unfold Iter.zd; simp
    rw [Iter.down.eq_2, hl, hz]
    simp [Iter.down]
  | succ d ih =>
    intro hd
    have hl : (zs ++ [y]).length - 1 - (d + 1) = zs.length - 1 - d := by rw [List.length_append, List.length_singleton]; omega
    have hz : Iter.zd (zs ++ [y]) (zs.length - 1 - d) = Iter.zd zs (zs.length - 1 - d) := by unfold Iter.zd; rw [List.getElem?_append_left (by omega)]
    rw [Iter.down.eq_2, hl, isNew_app _ _ _ _ (by omega), hz, ih (by omega), Iter.down.eq_2 zs e d]
    split
    · rw [List.append_assoc]
    · rfl
theorem not_more {l : List Int} {t a0 a1 a2 x : Int} (hp : Pol a0 a1 a2) (hu : Up (l ++ [t]) 0) (hx : x ∈ l) (hn : x ∉ kept l a0 a1 a2) : x ∉ kept (l ++ [t]) a0 a1 a2 := by
  have hn1 := hp.n1
  have hlt : x < t := by
    have h := ((Up_iff _).mp hu).2
    rw [List.pairwise_append] at h
    exact h.2.2 x hx t (by simp)
  by_cases h0 : cutn l a0 = 0
  · exfalso
    apply hn
    unfold kept
    rw [h0, List.drop_zero]
    exact List.mem_append_right _ hx
  · have hc : cutn (l ++ [t]) a0 = cutn l a0 + 1 := by unfold cutn at h0 ⊢; rw [List.length_append, List.length_singleton]; omega
    have hcl : cutn l a0 < l.length := by unfold cutn at h0 ⊢; omega
    have hzl : (l.take (cutn l a0)).length = cutn l a0 := by rw [List.length_take]; omega
    have ht : (l ++ [t]).take (cutn l a0 + 1) = l.take (cutn l a0) ++ [l[cutn l a0]] := by
      rw [List.take_append_of_le_length (by omega), List.take_add_one, List.getElem?_eq_getElem hcl]
      rfl
    have hd : Iter.down (l.take (cutn l a0) ++ [l[cutn l a0]]) a1 (cutn l a0 + 1) = (if Iter.isNew (l.take (cutn l a0) ++ [l[cutn l a0]]) a1 (l.take (cutn l a0)).length = true then [l[cutn l a0]] else []) ++ Iter.down (l.take (cutn l a0)) a1 (cutn l a0) := down_app _ _ _ _ (by omega)
    have hin : l[cutn l a0] ∈ kept l a0 a1 a2 := by
      unfold kept
      refine List.mem_append_right _ ?_
      rw [List.drop_eq_getElem_cons hcl]
      exact List.mem_cons_self
    intro hk
    unfold kept oldKept at hk
    rw [hc, ht, hd, List.mem_append, List.mem_reverse, List.take_append, List.mem_append] at hk
    rcases hk with (hk | hk) | hk
    · have h1 := List.mem_of_mem_take hk
      split at h1
      · rw [List.mem_singleton] at h1
        subst h1
        exact hn hin
      · simp at h1
    · apply hn
      unfold kept oldKept
      refine List.mem_append_left _ ?_
      rw [List.mem_reverse]
      have : List.take (a2.toNat - (if Iter.isNew (l.take (cutn l a0) ++ [l[cutn l a0]]) a1 (l.take (cutn l a0)).length = true then [l[cutn l a0]] else []).length) (Iter.down (l.take (cutn l a0)) a1 (cutn l a0)) = List.take (a2.toNat - (if Iter.isNew (l.take (cutn l a0) ++ [l[cutn l a0]]) a1 (l.take (cutn l a0)).length = true then [l[cutn l a0]] else []).length) (List.take a2.toNat (Iter.down (l.take (cutn l a0)) a1 (cutn l a0))) := by
        rw [List.take_take, Nat.min_eq_left (by omega)]
      rw [this] at hk
      exact List.mem_of_mem_take hk
    · rw [List.drop_append_of_le_length (by omega), List.mem_append, List.mem_singleton] at hk
      rcases hk with hk | rfl
      · apply hn
        unfold kept
        refine List.mem_append_right _ ?_
        rw [List.drop_eq_getElem_cons hcl]
        exact List.mem_cons_of_mem _ hk
      · omega
theorem more_loop (g kk : List Int) (t : Int) (hg : g.length ≤ 4000) (hk : kk.length ≤ 1000) (h : ∀ x ∈ g, x ∉ kk) (ht : kk.count t = 1) : ∀ (d i k : Nat), d + i = g.length → d + 1500 < k → ambrylaw28_RetainMore.l0 k t g kk (i : Int) = some true := by
  intro d
  induction d with
  | zero =>
    intro i k hd hk2
    obtain ⟨k, rfl⟩ : ∃ k', k = k' + 1 := ⟨k - 1, by omega⟩
    simp only [ambrylaw28_RetainMore.l0]
    rw [if_neg (by omega), among_is kk t k (by omega) (by omega), Option.bind_some, ht, if_pos (by decide), lives _ (by omega)]
    rfl
  | succ d ih =>
    intro i k hd hk2
    obtain ⟨k, rfl⟩ : ∃ k', k = k' + 1 := ⟨k - 1, by omega⟩
    simp only [ambrylaw28_RetainMore.l0]
    have hi : i < g.length := by omega
    rw [if_pos (by omega), if_pos (by omega), among_is kk _ k (by omega) (by omega), Option.bind_some, rd_get _ _ hi, List.count_eq_zero_of_not_mem (h _ (List.getElem_mem hi)), if_pos (by decide), wsucc i (by omega)]
    exact ih (i + 1) k (by omega) (by omega)
theorem RetainMore (l : List Int) (t a0 a1 a2 : Int) : ambrylaw28_RetainMore.f 3000 l t a0 a1 a2 = some true := by
  unfold ambrylaw28_RetainMore.f
  by_cases hb : (l.length : Int) > 300
  · rw [if_pos hb, lives _ (by omega)]; rfl
  rw [if_neg hb]
  have hl : l.length ≤ 4000 := by omega
  have hll : (l ++ [t]).length = l.length + 1 := by simp
  have J : ∀ c g kk, c = true → ambrylaw28_RetainMore.j0 3000 t g kk c = some true := by
    intro c g kk hc
    subst hc
    simp only [ambrylaw28_RetainMore.j0]
    rw [if_pos trivial, lives _ (by omega)]
    rfl
  have hnext : ∃ g c, retain_Next.f 3000 l a0 a1 a2 = some (g, c) ∧ (c = 0 → Pol a0 a1 a2 ∧ Up l 0 ∧ g = l.filter (fun x => !(kept l a0 a1 a2).contains x)) := by
    by_cases h : Pol a0 a1 a2 ∧ Up l 0
    · exact ⟨_, _, Next_t hl (by omega) h.1 h.2, fun _ => ⟨h.1, h.2, rfl⟩⟩
    · obtain ⟨c, hc, e⟩ := Keep_f (k := 3000) hl (by omega) h
      refine ⟨[], c, ?_, fun h0 => by rcases hc with rfl | rfl <;> cases h0⟩
      unfold retain_Next.f
      rw [e, Option.bind_some, if_neg (by rcases hc with rfl | rfl <;> decide)]
  obtain ⟨g, c, e, hg⟩ := hnext
  rw [e, Option.bind_some, Option.bind_some, if_pos (by simp; omega), Option.bind_some, Option.bind_some, List.nil_append, if_pos (by simp; omega)]
  by_cases h2 : Pol a0 a1 a2 ∧ Up (l ++ [t]) 0
  · rw [Keep_t (l := l ++ [t]) (by omega) (by omega) h2.1 h2.2, Option.bind_some]
    by_cases hc : c = 0
    · subst hc
      obtain ⟨_, _, rfl⟩ := hg rfl
      have hs := (kept_sub (l ++ [t]) a0 a1 a2).length_le
      have hfl : (l.filter fun x => !(kept l a0 a1 a2).contains x).length ≤ l.length := List.length_filter_le _ _
      rw [if_pos rfl]
      show ambrylaw28_RetainMore.j0 3000 t (l.filter fun x => !(kept l a0 a1 a2).contains x) (kept (l ++ [t]) a0 a1 a2) false = some true
      simp only [ambrylaw28_RetainMore.j0]
      rw [if_neg (by decide)]
      refine more_loop _ _ t (by omega) (by omega) (fun x hx => ?_) ?_ _ 0 2999 rfl (by omega)
      · rw [List.mem_filter] at hx
        exact not_more h2.1 h2.2 hx.1 (by simpa using hx.2)
      · refine count_one (((Up_iff _).mp (Up_sub h2.2 (kept_sub _ a0 a1 a2))).2) ?_
        unfold kept
        refine List.mem_append_right _ ?_
        have hn1 := h2.1.n1
        rw [List.drop_append_of_le_length (by unfold cutn; rw [hll]; omega)]
        simp
    · rw [if_neg hc]
      exact J true _ _ rfl
  · obtain ⟨c2, hc2, e2⟩ := Keep_f (l := l ++ [t]) (k := 3000) (by omega) (by omega) h2
    rw [e2, Option.bind_some]
    have hne : (c2 != 0) = true := by rcases hc2 with rfl | rfl <;> rfl
    by_cases hc : c = 0
    · rw [if_pos hc]
      exact J _ _ _ hne
    · rw [if_neg hc]
      exact J true _ _ rfl
end Go.Proofs.Ytfnenbkmbfbeaaa.Pure
