/- RetainAgain over plain lists. -/
import Derived.Test.YtfnenbkmbfbeaaaPlain2
import Derived.Test.YtfnenbkmbfbeaaaQCx5
namespace Go.Proofs.Ytfnenbkmbfbeaaa.Pure
open Go.RowKit Go.Proofs.Ytfnenbkmbfbeaaa.QC Go.Proofs.YtfnenbkmbfbeaaaW.PrintWords Go.Proofs.YtfnenbkmbfbeaaaW.PrintLast Go.Proofs.YtfnenbkmbfbeaaaW.PrintMore
set_option linter.unusedVariables false
theorem down_all {xs : List Int} {e : Int} (h : xs.Pairwise (fun a b => Q e a < Q e b)) : ∀ d, d ≤ xs.length → Iter.down xs e d = xs.reverse.take d := by
  intro d
  induction d with
  | zero => intro _; simp [Iter.down]
  | succ d ih =>
    intro hd
    have hi : xs.length - 1 - d < xs.length := by omega
    have hn : Iter.isNew xs e (xs.length - 1 - d) = true := by
      unfold Iter.isNew
      by_cases h0 : xs.length - 1 - d = 0
      · simp [h0]
      · have hq := List.pairwise_iff_getElem.mp h (xs.length - 1 - d - 1) (xs.length - 1 - d) (by omega) hi (by omega)
        rw [← rd_get _ _ (by omega), ← rd_get _ _ hi] at hq
        rw [decide_eq_false h0, Bool.false_or, zd_rd, zd_rd]
        have : Q e (rd xs ((xs.length - 1 - d : Nat) : Int)) ≠ Q e (rd xs ((xs.length - 1 - d - 1 : Nat) : Int)) := by omega
        simpa [Q] using this
    rw [Iter.down, if_pos hn, ih (by omega), List.take_add_one, List.getElem?_reverse (by omega), zd_rd, rd_get _ _ hi, List.getElem?_eq_getElem hi]
    rfl
theorem down_sub (zs : List Int) (e : Int) : ∀ d, d ≤ zs.length → (Iter.down zs e d).Sublist (zs.reverse.take d) := by
  intro d
  induction d with
  | zero => intro _; simp [Iter.down]
  | succ d ih =>
    intro hd
    have hi : zs.length - 1 - d < zs.length := by omega
    have h := ih (by omega)
    rw [Iter.down, List.take_add_one, List.getElem?_reverse (by omega), zd_rd, rd_get _ _ hi, List.getElem?_eq_getElem hi]
    split
    · exact h.append (List.Sublist.refl _)
    · exact h.trans (List.sublist_append_left _ _)
theorem kept_sub (l : List Int) (a0 a1 a2 : Int) : (kept l a0 a1 a2).Sublist l := by
  unfold kept oldKept
  have h := down_sub (l.take (cutn l a0)) a1 (cutn l a0) (by rw [List.length_take]; unfold cutn; omega)
  have h2 := (((List.take_sublist a2.toNat _).trans h).trans (List.take_sublist _ _)).reverse
  rw [List.reverse_reverse] at h2
  have h3 := h2.append (List.Sublist.refl (l.drop (cutn l a0)))
  rwa [List.take_append_drop] at h3
theorem Up_iff (l : List Int) : Up l 0 ↔ (∀ x ∈ l, 1 ≤ x ∧ x ≤ 1152921504606846976) ∧ l.Pairwise (fun a b => a < b) := by
  constructor
  · intro h
    refine ⟨fun x hx => ?_, List.pairwise_iff_getElem.mpr fun i j hi hj hij => ?_⟩
    · obtain ⟨j, hj, rfl⟩ := List.getElem_of_mem hx
      have := h j (Nat.zero_le _) hj
      rw [rd_get _ _ hj] at this
      exact ⟨this.1, this.2.1⟩
    · have a := up_le h (j - 1) i (by omega) (by omega)
      have b := (h j (Nat.zero_le _) hj).2.2 (by omega)
      rw [rd_get _ _ hi, rd_get _ _ (by omega)] at a
      rw [rd_get _ _ hj, rd_get _ _ (by omega)] at b
      omega
  · rintro ⟨h1, h2⟩ j _ hj
    rw [rd_get _ _ hj]
    have := h1 _ (List.getElem_mem hj)
    refine ⟨this.1, this.2, fun h0 => ?_⟩
    rw [rd_get _ _ (by omega)]
    exact List.pairwise_iff_getElem.mp h2 (j - 1) j (by omega) hj (by omega)
theorem Up_sub {l m : List Int} (h : Up l 0) (hs : m.Sublist l) : Up m 0 := by
  rw [Up_iff] at h ⊢
  exact ⟨fun x hx => h.1 x (hs.subset hx), h.2.sublist hs⟩
theorem kept_again {l : List Int} {a0 a1 a2 : Int} (hp : Pol a0 a1 a2) (h : Up l 0) : kept (kept l a0 a1 a2) a0 a1 a2 = kept l a0 a1 a2 := by
  have hn1 := hp.n1
  have hc : cutn (kept l a0 a1 a2) a0 = (oldKept l a0 a1 a2).length := by
    have ho := old_len l a0 a1 a2
    unfold cutn at ho ⊢
    have : (kept l a0 a1 a2).length = (oldKept l a0 a1 a2).length + (l.length - (l.length - a0.toNat)) := by unfold kept cutn; rw [List.length_append, List.length_drop]
    omega
  have ht : (kept l a0 a1 a2).take (oldKept l a0 a1 a2).length = oldKept l a0 a1 a2 := by unfold kept; exact List.take_left
  have hd : (kept l a0 a1 a2).drop (oldKept l a0 a1 a2).length = l.drop (cutn l a0) := by unfold kept; exact List.drop_left
  have hr : (oldKept l a0 a1 a2).length ≤ a2.toNat := by unfold oldKept; rw [List.length_reverse, List.length_take]; omega
  have e : oldKept (kept l a0 a1 a2) a0 a1 a2 = oldKept l a0 a1 a2 := by
    show ((Iter.down ((kept l a0 a1 a2).take (cutn (kept l a0 a1 a2) a0)) a1 (cutn (kept l a0 a1 a2) a0)).take a2.toNat).reverse = _
    rw [hc, ht, down_all (old_rows hp.e1 h) _ (Nat.le_refl _)]
    have e1 : (oldKept l a0 a1 a2).reverse.take (oldKept l a0 a1 a2).length = (oldKept l a0 a1 a2).reverse := List.take_of_length_le (by rw [List.length_reverse]; exact Nat.le_refl _)
    have e2 : (oldKept l a0 a1 a2).reverse.take a2.toNat = (oldKept l a0 a1 a2).reverse := List.take_of_length_le (by rw [List.length_reverse]; exact hr)
    rw [e1, e2, List.reverse_reverse]
  show oldKept (kept l a0 a1 a2) a0 a1 a2 ++ (kept l a0 a1 a2).drop (cutn (kept l a0 a1 a2) a0) = _
  rw [e, hc, hd]
  rfl
theorem same_loop (l : List Int) (hl : l.length ≤ 4000) : ∀ (d i k : Nat), d + i = l.length → d < k → ambryref09_Same.l0 k l l (i : Int) = some true := by
  intro d
  induction d with
  | zero =>
    intro i k hd hk
    obtain ⟨k, rfl⟩ : ∃ k', k = k' + 1 := ⟨k - 1, by omega⟩
    simp only [ambryref09_Same.l0]
    rw [if_neg (by omega)]
  | succ d ih =>
    intro i k hd hk
    obtain ⟨k, rfl⟩ : ∃ k', k = k' + 1 := ⟨k - 1, by omega⟩
    simp only [ambryref09_Same.l0]
    rw [if_pos (by omega), if_pos (by omega), if_pos (by omega), if_pos trivial, wsucc i (by omega)]
    exact ih (i + 1) k (by omega) (by omega)
theorem Same_refl {l : List Int} {k : Nat} (hl : l.length ≤ 4000) (hk : l.length < k) : ambryref09_Same.f k l l = some true := by
  unfold ambryref09_Same.f
  rw [if_pos rfl]
  exact same_loop l hl l.length 0 k rfl hk
theorem Next_t {l : List Int} {a0 a1 a2 : Int} {k : Nat} (hl : l.length ≤ 4000) (hk : l.length < k) (hp : Pol a0 a1 a2) (h : Up l 0) : retain_Next.f k l a0 a1 a2 = some (l.filter (fun x => !(kept l a0 a1 a2).contains x), 0) := by
  unfold retain_Next.f
  have hs := kept_sub l a0 a1 a2
  rw [Keep_t hl hk hp h, Option.bind_some, if_pos rfl, if_pos ⟨by omega, (((Up_iff _).mp (Up_sub h hs)).2).imp (fun h => by omega), hs.length_le⟩]
theorem RetainAgain (l : List Int) (a0 a1 a2 : Int) : ambrylaw28_RetainAgain.f 2000 l a0 a1 a2 = some true := by
  unfold ambrylaw28_RetainAgain.f
  by_cases hb : (l.length : Int) > 300
  · rw [if_pos hb, lives _ (by omega)]; rfl
  rw [if_neg hb]
  have hl : l.length ≤ 4000 := by omega
  by_cases h : Pol a0 a1 a2 ∧ Up l 0
  · have hs := kept_sub l a0 a1 a2
    have hle := hs.length_le
    have hu := Up_sub h.2 hs
    rw [Keep_t hl (by omega) h.1 h.2, Option.bind_some, if_pos rfl]
    rw [Keep_t (by omega) (by omega) h.1 hu, Option.bind_some, Next_t (by omega) (by omega) h.1 hu, Option.bind_some, kept_again h.1 h.2, Same_refl (show (kept l a0 a1 a2).length ≤ 4000 by omega) (show (kept l a0 a1 a2).length < 2000 by omega), Option.bind_some, if_pos rfl, if_pos rfl]
    have he : (kept l a0 a1 a2).filter (fun x => !(kept l a0 a1 a2).contains x) = [] := by
      rw [List.filter_eq_nil_iff]
      intro x hx
      simp [hx]
    rw [he, if_pos (by simp), if_pos rfl, lives _ (by omega)]
    rfl
  · obtain ⟨c, hc, e⟩ := Keep_f (k := 2000) hl (by omega) h
    rw [e, Option.bind_some, if_neg (by rcases hc with rfl | rfl <;> decide), if_pos (by simp), lives _ (by omega)]
    rfl
end Go.Proofs.Ytfnenbkmbfbeaaa.Pure
