/- Chains over plain lists: what the printed functions of chapter 13 answer. -/
import Derived.Test.YtimkcfjncobgjaaQCx8
import Derived.Test.YtimkcfjncobgjaaQCx9
namespace Go.Proofs.Ytimkcfjncobgjaa.Pure
open Go.RowKit Go.Proofs.Ytimkcfjncobgjaa.QC Go.Proofs.YtimkcfjncobgjaaW.PrintWords Go.Proofs.YtimkcfjncobgjaaW.PrintLast Go.Proofs.YtimkcfjncobgjaaW.PrintMore
set_option linter.unusedVariables false
theorem w64 (x : Int) (h0 : -9223372036854775808 ≤ x) (h1 : x ≤ 9223372036854775807) : wrap64 x = x := by unfold wrap64; omega
theorem wsucc (i : Nat) (h : i ≤ 100000) : wrap64 ((i : Int) + 1) = ((i + 1 : Nat) : Int) := by rw [w64 _ (by omega) (by omega)]; omega
theorem wpred (i : Nat) (h : i ≤ 100000) (h0 : 0 < i) : wrap64 ((i : Int) - 1) = ((i - 1 : Nat) : Int) := by rw [w64 _ (by omega) (by omega)]; omega
def T (l : List S34) (j : Nat) : Int := (rd_T34 l (j : Int)).f0
theorem rd_get (l : List S34) (j : Nat) (h : j < l.length) : rd_T34 l (j : Int) = l[j] := by unfold rd_T34; rw [Int.toNat_natCast, List.getD_eq_getElem?_getD, List.getElem?_eq_getElem h]; rfl
def ok1 (v : S34) : Bool := if v.f0 ≥ 1 then (if v.f0 ≤ 1152921504606846976 then (if (v.f1.size : Int) ≤ 200 then (if v.f2 = true then (v.f1.toList == ([] : List UInt8)) else true) else false) else false) else false
theorem right (v : S34) : chain_right.f v.f0 v.f1 v.f2 = some (ok1 v) := by
  unfold chain_right.f ok1
  repeat' split
  all_goals rfl
theorem right' (v : S34) : ambryref13_right.f v.f0 v.f1 v.f2 = some (ok1 v) := by
  unfold ambryref13_right.f ok1
  repeat' split
  all_goals rfl
def RtP (l : List S34) (i : Nat) : Prop := ∀ j, i ≤ j → j < l.length → ok1 (rd_T34 l (j : Int)) = true ∧ (0 < j → T l j < T l (j - 1))
theorem RtP_step (l : List S34) (i : Nat) (h : i < l.length) : RtP l i ↔ (ok1 (rd_T34 l (i : Int)) = true ∧ (0 < i → T l i < T l (i - 1))) ∧ RtP l (i + 1) := by
  constructor
  · intro H
    exact ⟨H i (Nat.le_refl _) h, fun j hj hl => H j (by omega) hl⟩
  · rintro ⟨H1, H2⟩ j hj hl
    by_cases e : j = i
    · subst e; exact H1
    · exact H2 j (by omega) hl
theorem right_loop (l : List S34) (hl : l.length ≤ 4000) : ∀ (d i k : Nat), d + i = l.length → d < k → (RtP l i → ambryref13_Right.l0 k l (i : Int) = some true) ∧ (¬ RtP l i → ambryref13_Right.l0 k l (i : Int) = some false) := by
  intro d
  induction d with
  | zero =>
    intro i k hd hk
    obtain ⟨k, rfl⟩ : ∃ k', k = k' + 1 := ⟨k - 1, by omega⟩
    simp only [ambryref13_Right.l0]
    rw [if_neg (by omega)]
    exact ⟨fun _ => rfl, fun h => absurd (fun j hj hl => absurd hl (by omega)) h⟩
  | succ d ih =>
    intro i k hd hk
    obtain ⟨k, rfl⟩ : ∃ k', k = k' + 1 := ⟨k - 1, by omega⟩
    have IH := ih (i + 1) k (by omega) (by omega)
    have hi : i < l.length := by omega
    rw [RtP_step l i hi]
    simp only [ambryref13_Right.l0]
    rw [if_pos (by omega), if_pos (by omega), right', Option.bind_some, wsucc i (by omega)]
    by_cases ho : ok1 (rd_T34 l (i : Int)) = true
    · rw [if_pos ho]
      by_cases h0 : 0 < i
      · rw [if_pos (show (i : Int) > 0 by omega), wpred i (by omega) h0, if_pos (by omega), if_pos (by omega)]
        by_cases ht : T l i < T l (i - 1)
        · rw [if_neg (by unfold T at ht; omega)]
          refine ⟨fun h => IH.1 h.2, fun h => IH.2 (fun h2 => h ⟨⟨ho, fun _ => ht⟩, h2⟩)⟩
        · rw [if_pos (by unfold T at ht; omega)]
          exact ⟨fun h => absurd (h.1.2 h0) ht, fun _ => rfl⟩
      · rw [if_neg (show ¬ (i : Int) > 0 by omega)]
        refine ⟨fun h => IH.1 h.2, fun h => IH.2 (fun h2 => h ⟨⟨ho, fun h3 => absurd h3 h0⟩, h2⟩)⟩
    · rw [if_neg ho]
      exact ⟨fun h => absurd h.1.1 ho, fun _ => rfl⟩
theorem check_loop (l : List S34) (hl : l.length ≤ 4000) : ∀ (d i k : Nat), d + i = l.length → d < k → (RtP l i → chain_Check.l0 k l l (l.length : Int) (i : Int) = some 0) ∧ (¬ RtP l i → chain_Check.l0 k l l (l.length : Int) (i : Int) = some 4) := by
  intro d
  induction d with
  | zero =>
    intro i k hd hk
    obtain ⟨k, rfl⟩ : ∃ k', k = k' + 1 := ⟨k - 1, by omega⟩
    simp only [chain_Check.l0]
    rw [if_neg (by omega)]
    exact ⟨fun _ => rfl, fun h => absurd (fun j hj hl => absurd hl (by omega)) h⟩
  | succ d ih =>
    intro i k hd hk
    obtain ⟨k, rfl⟩ : ∃ k', k = k' + 1 := ⟨k - 1, by omega⟩
    have IH := ih (i + 1) k (by omega) (by omega)
    have hi : i < l.length := by omega
    rw [RtP_step l i hi]
    simp only [chain_Check.l0]
    rw [if_pos (by omega), if_pos (by omega), if_pos (by omega), right, Option.bind_some, wsucc i (by omega)]
    by_cases ho : ok1 (rd_T34 l (i : Int)) = true
    · rw [if_pos ho]
      by_cases h0 : 0 < i
      · rw [if_pos (show (i : Int) > 0 by omega), wpred i (by omega) h0, if_pos (by omega), if_pos (by omega)]
        by_cases ht : T l i < T l (i - 1)
        · rw [if_neg (by unfold T at ht; omega)]
          refine ⟨fun h => IH.1 h.2, fun h => IH.2 (fun h2 => h ⟨⟨ho, fun _ => ht⟩, h2⟩)⟩
        · rw [if_pos (by unfold T at ht; omega)]
          exact ⟨fun h => absurd (h.1.2 h0) ht, fun _ => rfl⟩
      · rw [if_neg (show ¬ (i : Int) > 0 by omega)]
        refine ⟨fun h => IH.1 h.2, fun h => IH.2 (fun h2 => h ⟨⟨ho, fun h3 => absurd h3 h0⟩, h2⟩)⟩
    · rw [if_neg ho]
      exact ⟨fun h => absurd h.1.1 ho, fun _ => rfl⟩
/-- A list in order: every version right, the times falling. -/
abbrev Rt (l : List S34) : Prop := RtP l 0
section
variable {l : List S34} {k : Nat} (hl : l.length ≤ 4000) (hk : l.length < k)
include hl hk
theorem Right_t (h : Rt l) : ambryref13_Right.f k l = some true := (right_loop l hl l.length 0 k rfl hk).1 h
theorem Right_f (h : ¬ Rt l) : ambryref13_Right.f k l = some false := (right_loop l hl l.length 0 k rfl hk).2 h
theorem Check_t (h : Rt l) : chain_Check.f k l = some 0 := (check_loop l hl l.length 0 k rfl hk).1 h
theorem Check_f (h : ¬ Rt l) : chain_Check.f k l = some 4 := (check_loop l hl l.length 0 k rfl hk).2 h
theorem RCheck_t (h : Rt l) : ambryref13_Check.f k l = some 0 := by unfold ambryref13_Check.f; rw [Right_t hl hk h]; rfl
theorem RCheck_f (h : ¬ Rt l) : ambryref13_Check.f k l = some 4 := by unfold ambryref13_Check.f; rw [Right_f hl hk h]; rfl
end
structure Pl (l : List S34) (t : Int) (p : Nat) : Prop where
  le : p ≤ l.length
  lo : ∀ j, j < p → t < T l j
  hi : ∀ j, p ≤ j → j < l.length → T l j ≤ t
theorem Pl.uniq {l : List S34} {t : Int} {p q : Nat} (h : Pl l t p) (g : Pl l t q) : p = q := by
  rcases Nat.lt_trichotomy p q with h1 | h1 | h1
  · have a := g.lo p h1; have b := h.hi p (Nat.le_refl _) (by have := g.le; omega); omega
  · exact h1
  · have a := h.lo q h1; have b := g.hi q (Nat.le_refl _) (by have := h.le; omega); omega
theorem desc {l : List S34} (h : Rt l) : ∀ (j i : Nat), i ≤ j → j < l.length → T l j ≤ T l i := by
  intro j
  induction j with
  | zero => intro i hi _; obtain rfl : i = 0 := by omega
            exact Int.le_refl _
  | succ j ih =>
    intro i hi hj
    by_cases e : i = j + 1
    · subst e; exact Int.le_refl _
    · have a := ih i (by omega) (by omega)
      have b := (h (j + 1) (by omega) hj).2 (by omega)
      simp only [Nat.add_sub_cancel] at b
      omega
theorem bs_pl {l : List S34} (h : Rt l) (t : Int) : ∀ (d i j : Nat), j ≤ d + i → i ≤ j → j ≤ l.length → (∀ x, x < i → t < T l x) → (∀ x, j ≤ x → x < l.length → T l x ≤ t) → Pl l t (chain_place.bs l t d i j) := by
  intro d
  induction d with
  | zero =>
    intro i j h1 h2 h3 h4 h5
    rw [chain_place.bs]
    exact ⟨by omega, h4, fun x hx hl => h5 x (by omega) hl⟩
  | succ d ih =>
    intro i j h1 h2 h3 h4 h5
    rw [chain_place.bs]
    by_cases hij : i < j
    · rw [if_pos hij]
      by_cases ht : T l ((i + j) / 2) ≤ t
      · rw [if_pos (show (rd_T34 l (((i + j) / 2 : Nat) : Int)).f0 ≤ t from ht)]
        refine ih i ((i + j) / 2) (by omega) (by omega) (by omega) h4 (fun x hx hl => ?_)
        have := desc h x ((i + j) / 2) hx hl
        omega
      · rw [if_neg (show ¬ (rd_T34 l (((i + j) / 2 : Nat) : Int)).f0 ≤ t from ht)]
        refine ih ((i + j) / 2 + 1) j (by omega) (by omega) h3 (fun x hx => ?_) h5
        have := desc h ((i + j) / 2) x (by omega) (by omega)
        omega
    · rw [if_neg hij]
      exact ⟨by omega, h4, fun x hx hl => h5 x (by omega) hl⟩
theorem bs_is {l : List S34} (h : Rt l) {t : Int} {p : Nat} (hp : Pl l t p) : chain_place.bs l t l.length 0 l.length = p :=
  (bs_pl h t l.length 0 l.length (by omega) (by omega) (Nat.le_refl _) (fun x hx => absurd hx (by omega)) (fun x hx hl => absurd hl (by omega))).uniq hp
theorem pl_ex {l : List S34} (h : Rt l) (t : Int) : ∃ p, Pl l t p :=
  ⟨_, bs_pl h t l.length 0 l.length (by omega) (by omega) (Nat.le_refl _) (fun x hx => absurd hx (by omega)) (fun x hx hl => absurd hl (by omega))⟩
theorem place_is {l : List S34} (hl : l.length ≤ 4000) (h : Rt l) {t : Int} {p : Nat} (hp : Pl l t p) : chain_place.f l t = some (p : Int) := by
  unfold chain_place.f; rw [if_pos (by omega), bs_is h hp]
def at' (l : List S34) (p : Nat) : ByteArray × Bool := if p < l.length then ((rd_T34 l (p : Int)).f1, !((rd_T34 l (p : Int)).f2)) else ((⟨#[]⟩ : ByteArray), false)
def cut (l : List S34) (p : Nat) : Nat := if p < l.length then (if (rd_T34 l (p : Int)).f2 = true then p else p + 1) else p
theorem cut_le {l : List S34} {p : Nat} (h : p ≤ l.length) : cut l p ≤ l.length ∧ p ≤ cut l p := by unfold cut; split <;> (try split) <;> omega
section
variable {l : List S34} {k : Nat} (hl : l.length ≤ 4000) (hk : l.length < k)
include hl hk
theorem At_t (h : Rt l) {t : Int} {p : Nat} (hp : Pl l t p) : chain_At.f k l t = some (at' l p) := by
  unfold chain_At.f at'
  have := hp.le
  rw [Check_t hl hk h, Option.bind_some, if_pos rfl, place_is hl h hp, Option.bind_some]
  by_cases e : p < l.length
  · rw [if_neg (by omega), if_pos (by omega), if_pos (by omega), if_pos e]
  · rw [if_pos (by omega), if_neg e]
theorem At_f (h : ¬ Rt l) (t : Int) : chain_At.f k l t = some ((⟨#[]⟩ : ByteArray), false) := by
  unfold chain_At.f
  rw [Check_f hl hk h, Option.bind_some, if_neg (by decide)]
theorem Since_t (h : Rt l) {t : Int} {p : Nat} (hp : Pl l t p) : chain_Since.f k l t = some (decide (0 < p)) := by
  unfold chain_Since.f
  rw [Check_t hl hk h, Option.bind_some, if_pos rfl, place_is hl h hp, Option.bind_some]
  congr 1
  simp
theorem Since_f (h : ¬ Rt l) (t : Int) : chain_Since.f k l t = some false := by
  unfold chain_Since.f
  rw [Check_f hl hk h, Option.bind_some, if_neg (by decide)]
theorem Vacuum_t (h : Rt l) {t : Int} {p : Nat} (hp : Pl l t p) : chain_Vacuum.f k l t = some (l.take (cut l p)) := by
  unfold chain_Vacuum.f chain_Vacuum.cut
  rw [if_pos (by omega), Check_t hl hk h, Option.bind_some, if_pos rfl, bs_is h hp]
  rfl
theorem Vacuum_f (h : ¬ Rt l) (t : Int) : chain_Vacuum.f k l t = some [] := by
  unfold chain_Vacuum.f
  rw [if_pos (by omega), Check_f hl hk h, Option.bind_some, if_neg (by decide)]
theorem Rewind_t (h : Rt l) {t : Int} {p : Nat} (hp : Pl l t p) : chain_Rewind.f k l t = some (l.drop p) := by
  unfold chain_Rewind.f
  have := hp.le
  rw [Check_t hl hk h, Option.bind_some, if_pos rfl, place_is hl h hp, Option.bind_some, if_pos (by omega), if_pos (by omega), Int.toNat_natCast]
  unfold api_Version_27.f
  rw [if_pos (by rw [List.length_drop]; omega)]
  rfl
theorem Rewind_f (h : ¬ Rt l) (t : Int) : chain_Rewind.f k l t = some [] := by
  unfold chain_Rewind.f
  rw [Check_f hl hk h, Option.bind_some, if_neg (by decide)]
end
theorem same_loop (l : List S34) (hl : l.length ≤ 4000) : ∀ (d i k : Nat), d + i = l.length → d < k → ambryref13_Same.l0 k l l (i : Int) = some true := by
  intro d
  induction d with
  | zero =>
    intro i k hd hk
    obtain ⟨k, rfl⟩ : ∃ k', k = k' + 1 := ⟨k - 1, by omega⟩
    simp only [ambryref13_Same.l0]
    rw [if_neg (by omega)]
  | succ d ih =>
    intro i k hd hk
    obtain ⟨k, rfl⟩ : ∃ k', k = k' + 1 := ⟨k - 1, by omega⟩
    simp only [ambryref13_Same.l0]
    rw [if_pos (by omega), if_pos (by omega), if_pos (by omega), wsucc i (by omega), if_neg (by simp)]
    exact ih (i + 1) k (by omega) (by omega)
theorem Same_refl {l : List S34} {k : Nat} (hl : l.length ≤ 4000) (hk : l.length < k) : ambryref13_Same.f k l l = some true := by
  unfold ambryref13_Same.f
  rw [if_pos rfl]
  exact same_loop l hl l.length 0 k rfl hk
theorem lives_some : ambrylaw13_lives.f 10 = some true := by decide +kernel
theorem lives (k : Nat) (h : 10 ≤ k) : ambrylaw13_lives.f k = some true := by
  obtain ⟨d, rfl⟩ : ∃ d, k = 10 + d := ⟨k - 10, by omega⟩
  clear h
  induction d with
  | zero => exact lives_some
  | succ d ih => exact ambrylaw13_lives.mono _ _ ih
end Go.Proofs.Ytimkcfjncobgjaa.Pure
