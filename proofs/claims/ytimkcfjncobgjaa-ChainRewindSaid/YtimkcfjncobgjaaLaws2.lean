/- The laws of chapter 13 over plain lists. -/
import Derived.Test.YtimkcfjncobgjaaLaws
namespace Go.Proofs.Ytimkcfjncobgjaa.Pure
open Go.RowKit Go.Proofs.Ytimkcfjncobgjaa.QC Go.Proofs.YtimkcfjncobgjaaW.PrintWords Go.Proofs.YtimkcfjncobgjaaW.PrintLast Go.Proofs.YtimkcfjncobgjaaW.PrintMore
set_option linter.unusedVariables false
/-- The place in what was vacuumed. -/
theorem at_take {l : List S34} (h : Rt l) {t1 t3 : Int} {p1 p3 : Nat} (h1 : Pl l t1 p1) (h3 : Pl l t3 p3) (ht : t3 ≥ t1) : ∃ q, Pl (l.take (cut l p1)) t3 q ∧ (at' l p3).1.toList = (at' (l.take (cut l p1)) q).1.toList ∧ ((at' l p3).2 != (at' (l.take (cut l p1)) q).2) = false := by
  have hc := cut_le (l := l) h1.le
  have hp : p3 ≤ p1 := by
    rcases Nat.lt_or_ge p1 p3 with hlt | hge
    · have a := h3.lo p1 hlt
      have b := h1.hi p1 (Nat.le_refl _) (by have := h3.le; omega)
      omega
    · exact hge
  have hlen : (l.take (cut l p1)).length = cut l p1 := by rw [List.length_take]; omega
  refine ⟨p3, ⟨by omega, fun j hj => ?_, fun j hj hl => ?_⟩, ?_⟩
  · unfold T; rw [rd_take l _ j (by omega)]; exact h3.lo j hj
  · unfold T; rw [rd_take l _ j (by omega)]; exact h3.hi j hj (by omega)
  · by_cases e : p3 < cut l p1
    · have : at' (l.take (cut l p1)) p3 = at' l p3 := by
        unfold at'
        rw [if_pos (by omega), if_pos (by omega), rd_take l _ p3 e]
      rw [this]
      exact ⟨rfl, by simp⟩
    · obtain rfl : p3 = p1 := by omega
      have h0 : at' (l.take (cut l p3)) p3 = ((⟨#[]⟩ : ByteArray), false) := by unfold at'; rw [if_neg (by omega)]
      rw [h0]
      unfold at'
      by_cases e2 : p3 < l.length
      · rw [if_pos e2]
        have e3 : (rd_T34 l (p3 : Int)).f2 = true := by
          by_cases e4 : (rd_T34 l (p3 : Int)).f2 = true
          · exact e4
          · exfalso
            have : cut l p3 = p3 + 1 := by unfold cut; rw [if_pos e2, if_neg e4]
            omega
        have ho := (h p3 (by omega) e2).1
        unfold ok1 at ho
        rw [e3]
        split at ho
        · split at ho
          · split at ho
            · try rw [if_pos e3] at ho
              have := eq_of_beq ho
              exact ⟨this.trans (by decide +kernel), by simp⟩
            · cases ho
          · cases ho
        · cases ho
      · rw [if_neg e2]
        exact ⟨rfl, by simp⟩
theorem vac_again {l : List S34} (h : Rt l) {t1 t2 : Int} {p1 : Nat} (h1 : Pl l t1 p1) (ht : t2 ≤ t1) : ∃ q, Pl (l.take (cut l p1)) t2 q ∧ (l.take (cut l p1)).take (cut (l.take (cut l p1)) q) = l.take (cut l p1) := by
  have hc := cut_le (l := l) h1.le
  have hlen : (l.take (cut l p1)).length = cut l p1 := by rw [List.length_take]; omega
  obtain ⟨q, hq⟩ := pl_ex (Rt_take h (cut l p1)) t2
  refine ⟨q, hq, List.take_of_length_le ?_⟩
  rw [hlen]
  have hqp : p1 ≤ q := by
    rcases Nat.lt_or_ge q p1 with hlt | hge
    · have a := hq.hi q (Nat.le_refl _) (by omega)
      unfold T at a
      rw [rd_take l _ q (by omega)] at a
      have b := h1.lo q hlt
      unfold T at b
      omega
    · exact hge
  have hql := hq.le
  by_cases e : q < cut l p1
  · have hq1 : q = p1 := by
      have : cut l p1 ≤ p1 + 1 := by unfold cut; split <;> (try split) <;> omega
      omega
    subst hq1
    have e2 : q < l.length := by omega
    have e3 : ¬ (rd_T34 l (q : Int)).f2 = true := by
      intro e4
      have : cut l q = q := by unfold cut; rw [if_pos e2, if_pos e4]
      omega
    have e5 : cut l q = q + 1 := by unfold cut; rw [if_pos e2, if_neg e3]
    have e6 : cut (l.take (cut l q)) q = q + 1 := by
      show (if q < (l.take (cut l q)).length then (if (rd_T34 (l.take (cut l q)) (q : Int)).f2 = true then q else q + 1) else q) = q + 1
      rw [if_pos (by omega), rd_take l _ q e, if_neg e3]
    omega
  · have := (cut_le (l := l.take (cut l p1)) hq.le).2
    omega
theorem ChainVacuum (l : List S34) (t1 t2 t3 : Int) : ambrylaw13_ChainVacuum.f 2000 l t1 t2 t3 = some true := by
  unfold ambrylaw13_ChainVacuum.f
  by_cases hb : (l.length : Int) > 1000
  · rw [if_pos hb]
    simp only [ambrylaw13_ChainVacuum.j0]
    rw [if_pos trivial, lives _ (by omega)]; rfl
  rw [if_neg hb]
  have hl : l.length ≤ 4000 := by omega
  by_cases h : Rt l
  · rw [Check_t hl (by omega) h, Option.bind_some, show ((0 : Int) != 0) = false from rfl]
    obtain ⟨p1, h1⟩ := pl_ex h t1
    obtain ⟨p3, h3⟩ := pl_ex h t3
    have hc := cut_le (l := l) h1.le
    have hlen : (l.take (cut l p1)).length = cut l p1 := by rw [List.length_take]; omega
    have hR := Rt_take h (cut l p1)
    have J2 : ambrylaw13_ChainVacuum.j2 1998 l (l.take (cut l p1)) false = some true := by
      simp only [ambrylaw13_ChainVacuum.j2]
      rw [if_neg (by decide), Check_t (by omega) (by omega) hR, Option.bind_some, if_pos rfl, if_pos (by omega), lives _ (by omega)]
      rfl
    have J1 : ambrylaw13_ChainVacuum.j1 1999 l t1 t2 (l.take (cut l p1)) = some true := by
      simp only [ambrylaw13_ChainVacuum.j1]
      by_cases ht : t2 ≤ t1
      · obtain ⟨q, hq, e⟩ := vac_again h h1 ht
        rw [if_pos ht, Vacuum_t (by omega) (by omega) hR hq, Option.bind_some, e, Same_refl (by omega) (by omega), Option.bind_some]
        exact J2
      · rw [if_neg ht]
        exact J2
    simp only [ambrylaw13_ChainVacuum.j0]
    rw [if_neg (by decide), Vacuum_t hl (by omega) h h1, Option.bind_some]
    by_cases ht : t3 ≥ t1
    · obtain ⟨q, hq, e1, e2⟩ := at_take h h1 h3 ht
      rw [if_pos ht, At_t hl (by omega) h h3, Option.bind_some, At_t (by omega) (by omega) hR hq, Option.bind_some, if_pos e1, if_neg (by rw [e2]; decide)]
      exact J1
    · rw [if_neg ht]
      exact J1
  · rw [Check_f hl (by omega) h, Option.bind_some, show ((4 : Int) != 0) = true from rfl]
    simp only [ambrylaw13_ChainVacuum.j0]
    rw [if_pos trivial, lives _ (by omega)]; rfl
theorem grown_pl {l : List S34} {v : S34} {t : Int} {p : Nat} (hp : Pl l t p) (ht : t < v.f0) : Pl (v :: l) t (p + 1) := by
  refine ⟨by rw [List.length_cons]; have := hp.le; omega, fun j hj => ?_, fun j hj hl => ?_⟩
  · rcases j with _ | j
    · exact ht
    · unfold T; rw [rd_cons]; exact hp.lo j (by omega)
  · rcases j with _ | j
    · omega
    · unfold T; rw [rd_cons]; exact hp.hi j (by omega) (by rw [List.length_cons] at hl; omega)
theorem grown_pl0 {l : List S34} {v : S34} {t : Int} (h : Rt (v :: l)) (ht : v.f0 ≤ t) : Pl (v :: l) t 0 := by
  refine ⟨by omega, fun j hj => absurd hj (by omega), fun j _ hl => ?_⟩
  have := desc h j 0 (by omega) hl
  have e : T (v :: l) 0 = v.f0 := rfl
  omega
theorem drop_pl {l : List S34} {t t' : Int} {p q : Nat} (hp : Pl l t p) (hq : Pl l t' q) (ht : t' ≤ t) : Pl (l.drop p) t' (q - p) ∧ at' (l.drop p) (q - p) = at' l q := by
  have hpq : p ≤ q := by
    rcases Nat.lt_or_ge q p with hlt | hge
    · have a := hq.hi q (Nat.le_refl _) (by have := hp.le; omega)
      have b := hp.lo q hlt
      omega
    · exact hge
  have := hq.le
  refine ⟨⟨by rw [List.length_drop]; omega, fun j hj => ?_, fun j hj hl => ?_⟩, ?_⟩
  · unfold T; rw [rd_drop]; exact hq.lo (p + j) (by omega)
  · unfold T; rw [rd_drop]; rw [List.length_drop] at hl; exact hq.hi (p + j) (by omega) (by omega)
  · unfold at'
    rw [List.length_drop, rd_drop, show p + (q - p) = q by omega]
    by_cases e : q < l.length
    · rw [if_pos (by omega), if_pos e]
    · rw [if_neg (by omega), if_neg e]
theorem drop_pl0 {l : List S34} (h : Rt l) {t t' : Int} {p : Nat} (hp : Pl l t p) (ht : t ≤ t') : Pl (l.drop p) t' 0 ∧ at' (l.drop p) 0 = at' l p := by
  refine ⟨⟨by omega, fun j hj => absurd hj (by omega), fun j _ hl => ?_⟩, ?_⟩
  · unfold T; rw [rd_drop]; rw [List.length_drop] at hl; have := hp.hi (p + j) (by omega) (by omega); unfold T at this; omega
  · have := hp.le
    unfold at'
    rw [List.length_drop, rd_drop]
    by_cases e : p < l.length
    · rw [if_pos (by omega), if_pos e]; rfl
    · rw [if_neg (by omega), if_neg e]
theorem ChainGrown (l : List S34) (v : S34) (t : Int) : ambrylaw13_ChainGrown.f 2000 l v.f0 v.f1 v.f2 t = some true := by
  unfold ambrylaw13_ChainGrown.f
  by_cases hb : (l.length : Int) > 1000
  · rw [if_pos hb, lives _ (by omega)]; rfl
  rw [if_neg hb]
  have hl : l.length ≤ 4000 := by omega
  obtain ⟨_, hB⟩ := Add_is 2000 l v hl (by omega)
  rcases hB with ⟨h, hv, h0, e⟩ | ⟨c, hc, e⟩
  · rw [e, Option.bind_some, if_pos rfl]
    have hG := Rt_cons h hv h0
    have hgl : (v :: l).length = l.length + 1 := List.length_cons
    have hv1 : 1 ≤ v.f0 ∧ v.f0 ≤ 1152921504606846976 := by
      unfold ok1 at hv
      split at hv
      · split at hv
        · constructor <;> omega
        · cases hv
      · cases hv
    have hw : wrap64 (v.f0 - 1) = v.f0 - 1 := w64 _ (by omega) (by omega)
    have hpl : Pl l (v.f0 - 1) 0 := by
      refine ⟨by omega, fun j hj => absurd hj (by omega), fun j _ hj => ?_⟩
      have a := desc h j 0 (by omega) hj
      have b := h0 (by omega)
      omega
    have J : ambrylaw13_ChainGrown.j0 2000 l (v :: l) v.f0 v.f1 v.f2 = some true := by
      simp only [ambrylaw13_ChainGrown.j0]
      rw [hw, Rewind_t (by omega) (by omega) hG (grown_pl hpl (by omega)), Option.bind_some]
      rw [show (v :: l).drop (0 + 1) = l from rfl, Same_refl hl (by omega), Option.bind_some, if_pos rfl]
      rw [Since_t (by omega) (by omega) hG (grown_pl hpl (by omega)), Option.bind_some, if_pos (by simp)]
      rw [Since_t (by omega) (by omega) hG (grown_pl0 hG (Int.le_refl _)), Option.bind_some, if_neg (by simp), lives _ (by omega)]
      rfl
    by_cases ht : t ≥ v.f0
    · rw [At_t (by omega) (by omega) hG (grown_pl0 hG ht), Option.bind_some, if_pos ht]
      have ea : at' (v :: l) 0 = (v.f1, !v.f2) := by unfold at'; rw [if_pos (by omega)]; rfl
      rw [ea, if_pos rfl, if_neg (by cases v.f2 <;> simp)]
      exact J
    · obtain ⟨p, hp⟩ := pl_ex h t
      rw [At_t (by omega) (by omega) hG (grown_pl hp (by omega)), Option.bind_some, if_neg ht, At_t hl (by omega) h hp, Option.bind_some]
      have ea : at' (v :: l) (p + 1) = at' l p := by
        unfold at'
        rw [hgl, rd_cons]
        by_cases e3 : p < l.length
        · rw [if_pos (by omega), if_pos e3]
        · rw [if_neg (by omega), if_neg e3]
      rw [ea, if_pos rfl, if_neg (by simp)]
      exact J
  · rw [e, Option.bind_some, if_neg hc, if_pos (by simp), lives _ (by omega)]
    rfl
theorem ChainRewind (l : List S34) (t1 t2 : Int) : ambrylaw13_ChainRewind.f 2000 l t1 t2 = some true := by
  unfold ambrylaw13_ChainRewind.f
  by_cases hb : (l.length : Int) > 1000
  · rw [if_pos hb]
    simp only [ambrylaw13_ChainRewind.j0]
    rw [if_pos trivial, lives _ (by omega)]; rfl
  rw [if_neg hb]
  have hl : l.length ≤ 4000 := by omega
  by_cases h : Rt l
  · rw [Check_t hl (by omega) h, Option.bind_some, show ((0 : Int) != 0) = false from rfl]
    obtain ⟨p, hp⟩ := pl_ex h t1
    obtain ⟨q, hq⟩ := pl_ex h t2
    have hD := Rt_drop h p
    have hdl : (l.drop p).length ≤ l.length := by rw [List.length_drop]; omega
    have hS := (drop_pl0 h hp (Int.le_refl _)).1
    simp only [ambrylaw13_ChainRewind.j0]
    rw [if_neg (by decide), Rewind_t hl (by omega) h hp, Option.bind_some]
    by_cases ht : t2 ≤ t1
    · obtain ⟨hP, hE⟩ := drop_pl hp hq ht
      have hm : mn t2 t1 = t2 := by unfold mn; rw [if_neg (by omega)]
      rw [hm, At_t hl (by omega) h hq, Option.bind_some, At_t (by omega) (by omega) hD hP, Option.bind_some, if_pos ht, hE, if_pos rfl]
      simp only [ambrylaw13_ChainRewind.j1]
      rw [if_neg (by simp), if_neg (by omega), Since_t (by omega) (by omega) hD hS, Option.bind_some, if_neg (by simp), Check_t (by omega) (by omega) hD, Option.bind_some, if_pos rfl, lives _ (by omega)]
      rfl
    · obtain ⟨hP, hE⟩ := drop_pl0 h hp (show t1 ≤ t2 by omega)
      have hm : mn t2 t1 = t1 := by unfold mn; rw [if_pos (by omega)]
      rw [hm, At_t hl (by omega) h hp, Option.bind_some, At_t (by omega) (by omega) hD hP, Option.bind_some, if_neg ht, hE]
      simp only [ambrylaw13_ChainRewind.j1]
      rw [if_neg (by decide), if_pos (by omega), At_t hl (by omega) h hp, Option.bind_some, if_pos rfl]
      simp only [ambrylaw13_ChainRewind.j2]
      rw [if_neg (by simp), Since_t (by omega) (by omega) hD hS, Option.bind_some, if_neg (by simp), Check_t (by omega) (by omega) hD, Option.bind_some, if_pos rfl, lives _ (by omega)]
      rfl
  · rw [Check_f hl (by omega) h, Option.bind_some, show ((4 : Int) != 0) = true from rfl]
    simp only [ambrylaw13_ChainRewind.j0]
    rw [if_pos trivial, lives _ (by omega)]; rfl
end Go.Proofs.Ytimkcfjncobgjaa.Pure
