-- Printed by a program of this session (wip/tools): not by hand, and not by the kit's print.sh
import Derived.Test.YtimkcfjncobgjaaQCx0
import Derived.Test.YtimkcfjncobgjaaQCx1
import Derived.Test.YtimkcfjncobgjaaQCx2
import Derived.Test.YtimkcfjncobgjaaQCx3
namespace Go.Proofs.Ytimkcfjncobgjaa.QC
open Go.RowKit Go.Proofs.YtimkcfjncobgjaaW.PrintWords Go.Proofs.YtimkcfjncobgjaaW.PrintLast Go.Proofs.YtimkcfjncobgjaaW.PrintMore
attribute [local go_sem] max2_int min2_int max_two min_two max_three min_three max_four min_four   -- for this text's walks alone
set_option linter.unusedVariables false
set_option linter.unusedSimpArgs false

attribute [local go_sem high] eqA34
/-! ### chain_place: function 24 (given) -/
/-- The search: the half is asked, and goes on on one side. -/
def chain_place.bs (l0 : List S34) (t : Int) : Nat → Nat → Nat → Nat
  | 0, i, _ => i
  | d + 1, i, j => if i < j then (if (rd_T34 l0 (((i + j) / 2 : Nat) : Int)).f0 ≤ t then chain_place.bs l0 t d i ((i + j) / 2) else chain_place.bs l0 t d ((i + j) / 2 + 1) j) else i
def chain_place.f (l0 : List S34) (a1 : Int) : Option Int := if l0.length ≤ 4611686018427387903 then some (chain_place.bs l0 a1 l0.length 0 l0.length : Nat) else none
theorem chain_place.bs_eq (l0 : List S34) (t : Int) : ∀ (d i j : Nat), j ≤ i + d → chain_place.bs l0 t d i j = if i < j then (if (rd_T34 l0 (((i + j) / 2 : Nat) : Int)).f0 ≤ t then chain_place.bs l0 t (d - 1) i ((i + j) / 2) else chain_place.bs l0 t (d - 1) ((i + j) / 2 + 1) j) else i
  | 0, i, j, h => by rw [if_neg (by omega), chain_place.bs]
  | d + 1, i, j, h => by rw [chain_place.bs]; rfl
theorem chain_place.bs_more (l0 : List S34) (t : Int) : ∀ (d d' i j : Nat), j ≤ i + d → j ≤ i + d' → chain_place.bs l0 t d i j = chain_place.bs l0 t d' i j := by
  intro d
  induction d with
  | zero =>
    intro d' i j h h'
    rw [chain_place.bs_eq l0 t d' i j h', if_neg (by omega), chain_place.bs]
  | succ d ih =>
    intro d' i j h h'
    rw [chain_place.bs_eq l0 t (d + 1) i j h, chain_place.bs_eq l0 t d' i j h']
    by_cases hlt : i < j
    · rw [if_pos hlt, if_pos hlt]
      by_cases hq : (rd_T34 l0 (((i + j) / 2 : Nat) : Int)).f0 ≤ t
      · rw [if_pos hq, if_pos hq]
        exact ih (d' - 1) _ _ (by omega) (by omega)
      · rw [if_neg hq, if_neg hq]
        exact ih (d' - 1) _ _ (by omega) (by omega)
    · rw [if_neg hlt, if_neg hlt]
/-- The closure that is handed to the search: is the version's time not above one? -/
theorem chain_place.ask (b2 b3 : Nat) (A0 : Option Addr) (c0 : Nat) (l0 : List S34) (t z : Int) (w : World) (hr0 : Kd.C k34 w A0 l0.length l0) (h2 : w.heap[b2]? = some (.cells #[.slice A0 l0.length c0] 22 (0, 0))) (h3 : w.heap[b3]? = some (.cells #[.int .i64 t] 3 (0, 0))) (hz : 0 ≤ z) (hi : z < l0.length) (v : Bool) (hv : decide ((rd_T34 l0 z).f0 ≤ t) = v) :
    Calls Try.prog 31 #[.int .i64 z, .pointer (some ⟨b2, 0, none⟩), .pointer (some ⟨b3, 0, none⟩)] w fun e w' => e = .returned (.bool v) ∧ ∃ n, w' = w.drewN n := by
  obtain ⟨i, rfl⟩ := Int.eq_ofNat_of_zero_le hz
  obtain ⟨ad, rfl, hc, _, _⟩ := at_T34 hr0 (i : Int) (by omega) (by omega)
  rw [Int.toNat_natCast] at hc
  have c2 := (blk_cell h2 0).trans rfl
  have c3 := (blk_cell h3 0).trans rfl
  have hb1 : i < l0.length := by omega
  clear hr0 h2 h3
  go_enter Try.func31, Try.ntmps31
  go_wp2_with fail
  go_quiet (fail)
  go_wp2
  go_ret
  exact ⟨rfl, _, rfl⟩
theorem chain_place.val {a b : Nat} {z : Int} (h : z = ((a : Nat) : Int)) : Value.int .i64 z = .int .i64 (a : Int) := by rw [h]
set_option maxHeartbeats 2000000 in
theorem chain_place.walk (A0 : Option Addr) (c0 : Nat) (l0 : List S34) (a1 : Int) (w : World) (hr0 : Kd.C k34 w A0 l0.length l0) (hl : l0.length ≤ 4611686018427387903) :
    Calls Try.prog 24 #[.slice A0 l0.length c0, .int .i64 a1] w fun e w' => e = .returned (.int .i64 (chain_place.bs l0 a1 l0.length 0 l0.length : Nat)) ∧ Below w.heap.size w w' := by
  have HR0 := Aside0.mk hr0
  clear hr0
  go_enter Try.func24, Try.ntmps24
  go_wp2_with (first | go_in)
  have hb0 : Below w.heap.size w ((w.alloc (.cells #[.slice A0 l0.length c0] 22)).alloc (.cells #[.int .i64 a1] 3)) := below_alloc (below_alloc (Below.refl _ _) _) _
  have h2 : ((w.alloc (.cells #[.slice A0 l0.length c0] 22)).alloc (.cells #[.int .i64 a1] 3)).heap[w.heap.size]? = some (.cells #[.slice A0 l0.length c0] 22 (0, 0)) := blk_alloc (blk_new w _) _
  have h3 : ((w.alloc (.cells #[.slice A0 l0.length c0] 22)).alloc (.cells #[.int .i64 a1] 3)).heap[w.heap.size + 1]? = some (.cells #[.int .i64 a1] 3 (0, 0)) := by
    have := blk_new (w.alloc (.cells #[.slice A0 l0.length c0] 22)) (.cells #[.int .i64 a1] 3)
    simpa using this
  have hr1 := Kd.C_below HR0.out hb0
  obtain ⟨W, hW⟩ : ∃ W, W = ((w.alloc (.cells #[.slice A0 l0.length c0] 22)).alloc (.cells #[.int .i64 a1] 3)) := ⟨_, rfl⟩
  rw [← hW] at hb0 h2 h3 hr1 ⊢
  have HB0 := Aside0.mk hb0
  have H2 := Aside0.mk h2
  have H3 := Aside0.mk h3
  have HR1 := Aside0.mk hr1
  clear hb0 h2 h3 hr1 hW HR0
  go_loopw [5, 6] (fun vi vj w' => ∃ (i j d n : Nat), i ≤ j ∧ j ≤ l0.length ∧ j ≤ i + d ∧ vi = .int .i64 i ∧ vj = .int .i64 j ∧ w' = W.drewN n ∧ Aside0 (chain_place.bs l0 a1 d i j = chain_place.bs l0 a1 l0.length 0 l0.length)) (fun vi vj _ => (intOf vj - intOf vi).toNat)
  case atStart => exact ⟨0, l0.length, l0.length, 0, Nat.zero_le _, Nat.le_refl _, by omega, rfl, rfl, rfl, ⟨rfl⟩⟩
  case round =>
    obtain ⟨i, j, d, n, hij, hjl, hd, rfl, rfl, rfl, HE⟩ := hrel
    by_cases hlt : i < j
    · have hz : (((i + j) / 2 : Nat) : Int) = ((i : Int) + j) / 2 := by omega
      have hz0 : 0 ≤ ((i : Int) + j) / 2 := by omega
      have hz1 : ((i : Int) + j) / 2 < l0.length := by omega
      have HZ := Aside0.mk hz
      have HS := chain_place.bs_eq l0 a1 d i j hd
      rw [if_pos hlt, hz] at HS
      by_cases hq : (rd_T34 l0 (((i : Int) + j) / 2)).f0 ≤ a1
      · rw [if_pos hq] at HS
        have HQ := Aside0.mk (chain_place.ask w.heap.size (w.heap.size + 1) A0 c0 l0 a1 (((i : Int) + j) / 2) (W.drewN n) (Kd.C_drewN HR1.out n) H2.out H3.out hz0 hz1 true (decide_eq_true hq))
        have HS' := Aside0.mk HS
        clear HS hq hz hz0 hz1
        go_wp2_with (first | (go_at_call 31; refine HQ.out.mono ?_; rintro e w' ⟨rfl, m, rfl⟩))
        go_roundw
        case rel => exact ⟨i, (i + j) / 2, d - 1, n + m, by omega, by omega, by omega, rfl, by rw [HZ.out], rfl, ⟨HS'.out.symm.trans HE.out⟩⟩
        case measure => simp [intOf]; omega
      · rw [if_neg hq] at HS
        have HQ := Aside0.mk (chain_place.ask w.heap.size (w.heap.size + 1) A0 c0 l0 a1 (((i : Int) + j) / 2) (W.drewN n) (Kd.C_drewN HR1.out n) H2.out H3.out hz0 hz1 false (decide_eq_false hq))
        have HS' := Aside0.mk HS
        clear HS hq hz
        go_wp2_with (first | (go_at_call 31; refine HQ.out.mono ?_; rintro e w' ⟨rfl, m, rfl⟩))
        go_roundw
        case rel => exact ⟨(i + j) / 2 + 1, j, d - 1, n + m, by omega, by omega, by omega, by rw [← HZ.out]; rfl, rfl, rfl, ⟨HS'.out.symm.trans HE.out⟩⟩
        case measure => simp [intOf]; omega
    · have HS := chain_place.bs_eq l0 a1 d i j hd
      rw [if_neg hlt] at HS
      have HS' := Aside0.mk (HS.symm.trans HE.out)
      clear HS HE
      go_wp2
      go_ret
      rw [← HS'.out]
      exact ⟨rfl, pw_below_drewN HB0.out n⟩
theorem chain_place.calls (A0 : Option Addr) (c0 : Nat) (l0 : List S34) (a1 : Int) (r : Int) (w : World) (hr0 : Kd.C k34 w A0 l0.length l0) (hc0 : l0.length ≤ c0) (h : chain_place.f l0 a1 = some r) :
    Calls Try.prog 24 #[.slice A0 l0.length c0, .int .i64 a1] w fun e w' => e = .returned (.int .i64 r) ∧ Below w.heap.size w w' := by
  unfold chain_place.f at h
  split at h
  · obtain rfl := Option.some.inj h
    exact chain_place.walk A0 c0 l0 a1 w hr0 (by assumption)
  · cases h

/-! ### chain_At: function 9 -/
def chain_At.f (k : Nat) (l0 : List (S34)) (a1 : Int) : Option (ByteArray × Bool) := (chain_Check.f k l0).bind fun t106 => (if t106 = 0 then ((chain_place.f l0 a1).bind fun t107 => (if t107 = (l0.length : Int) then (some ((⟨#[]⟩ : ByteArray), false)) else (if 0 ≤ t107 then (if t107 < (l0.length : Int) then (some ((rd_T34 l0 t107).f1, !((rd_T34 l0 t107).f2))) else (none)) else (none)))) else (some ((⟨#[]⟩ : ByteArray), false)))
theorem chain_At.mono : ∀ a0 a1 k, LeO (chain_At.f k a0 a1) (chain_At.f (k + 1) a0 a1) := by
  intro a0 a1 k
  unfold chain_At.f
  repeat' first
      | (with_reducible exact chain_Check.mono _ _)
      | (with_reducible exact LeO.refl _)
      | (with_reducible exact LeO.none _)
      | (with_reducible refine LeO.ite ?_ ?_)
      | (with_reducible refine LeO.bind ?_ (fun _ => ?_))
      | exact chain_Check.mono _ _
      | exact LeO.none _
      | refine LeO.ite ?_ ?_
      | refine LeO.bind ?_ (fun _ => ?_)
set_option maxHeartbeats 8000000 in
set_option maxRecDepth 100000 in
theorem chain_At.calls (k : Nat) (A0 : Option Addr) (c0 : Nat) (l0 : List (S34)) (a1 : Int) (r1 : ByteArray) (r2 : Bool) (w : World) (hr0 : Kd.C k34 w A0 l0.length l0) (hc0 : l0.length ≤ c0) (h : chain_At.f k l0 a1 = some (r1, r2)) :
    Calls Try.prog 9 #[.slice A0 l0.length c0, .int .i64 a1] w fun e w' => e = .returned (.tuple #[.string r1, .bool r2]) ∧ Below w.heap.size w w' := by
  have HR0 := Aside0.mk hr0
  have HC0 := Aside0.mk hc0
  clear hr0 hc0
  have HB := Aside0.mk (Below.refl w.heap.size w)
  have H : ((chain_Check.f k l0).bind fun t106 => (if t106 = 0 then ((chain_place.f l0 a1).bind fun t107 => (if t107 = (l0.length : Int) then (some ((⟨#[]⟩ : ByteArray), false)) else (if 0 ≤ t107 then (if t107 < (l0.length : Int) then (some ((rd_T34 l0 t107).f1, !((rd_T34 l0 t107).f2))) else (none)) else (none)))) else (some ((⟨#[]⟩ : ByteArray), false)))) = some (r1, r2) := h
  clear h
  replace H := Option.bind_eq_some_iff.mp H
  obtain ⟨t106, A30, H⟩ := H
  replace H : (if t106 = 0 then ((chain_place.f l0 a1).bind fun t107 => (if t107 = (l0.length : Int) then (some ((⟨#[]⟩ : ByteArray), false)) else (if 0 ≤ t107 then (if t107 < (l0.length : Int) then (some ((rd_T34 l0 t107).f1, !((rd_T34 l0 t107).f2))) else (none)) else (none)))) else (some ((⟨#[]⟩ : ByteArray), false))) = some (r1, r2) := H
  have A3 := Aside0.mk A30
  clear A30
  by_cases c4 : t106 = 0
  · rw [if_pos c4] at H
    have c4b0 : (t106 == 0) = true := beq_iff_eq.mpr c4
    have c4b1 : (t106 != 0) = false := bne_eq_false_iff_eq.mpr c4
    clear c4
    replace H := Option.bind_eq_some_iff.mp H
    obtain ⟨t107, A50, H⟩ := H
    replace H : (if t107 = (l0.length : Int) then (some ((⟨#[]⟩ : ByteArray), false)) else (if 0 ≤ t107 then (if t107 < (l0.length : Int) then (some ((rd_T34 l0 t107).f1, !((rd_T34 l0 t107).f2))) else (none)) else (none))) = some (r1, r2) := H
    have A5 := Aside0.mk A50
    clear A50
    by_cases c6 : t107 = (l0.length : Int)
    · rw [if_pos c6] at H
      have c6b0 : (t107 == (l0.length : Int)) = true := beq_iff_eq.mpr c6
      have c6b1 : (t107 != (l0.length : Int)) = false := bne_eq_false_iff_eq.mpr c6
      clear c6
      simp only [Option.some.injEq, Prod.mk.injEq] at H
      obtain ⟨rfl, rfl⟩ := H
      go_enter Try.func9, Try.ntmps9
      go_wp2_with (first | (go_at_call 11; (with_reducible refine (chain_Check.calls k _ _ l0 t106 _ ?side1 ?side2 A3.out).mono ?_); (case side1 => repeat (first | exact HR0.out | (with_reducible refine Kd.C_alloc ?_ _) | (with_reducible refine Kd.C_drewN ?_ _) | (with_reducible refine Kd.C_drew ?_))); (case side2 => exact HC0.out); rintro e w7 ⟨rfl, hb⟩; have n0_ := Aside0.mk (below_step (by repeat (first | (with_reducible first | exact HB.out | apply below_alloc | apply pw_below_drewN | apply below_drew1) | exact HB.out)) hb); clear HB; have HB := n0_; clear n0_; (try clear hb); (try clear hb2); (try clear hk); (try clear hi)) | (go_at_call 24; (with_reducible refine (chain_place.calls _ _ l0 a1 t107 _ ?side1 ?side2 A5.out).mono ?_); (case side1 => repeat (first | exact (Kd.C_below HR0.out HB.out) | (with_reducible refine Kd.C_alloc ?_ _) | (with_reducible refine Kd.C_drewN ?_ _) | (with_reducible refine Kd.C_drew ?_))); (case side2 => exact HC0.out); rintro e w8 ⟨rfl, hb⟩; have n0_ := Aside0.mk (below_step (by repeat (first | (with_reducible first | exact HB.out | apply below_alloc | apply pw_below_drewN | apply below_drew1) | exact HB.out)) hb); clear HB; have HB := n0_; clear n0_; (try clear hb); (try clear hb2); (try clear hk); (try clear hi)))
      repeat (go_quiet (first | (go_at_call 11; (with_reducible refine (chain_Check.calls k _ _ l0 t106 _ ?side1 ?side2 A3.out).mono ?_); (case side1 => repeat (first | exact HR0.out | (with_reducible refine Kd.C_alloc ?_ _) | (with_reducible refine Kd.C_drewN ?_ _) | (with_reducible refine Kd.C_drew ?_))); (case side2 => exact HC0.out); rintro e w7 ⟨rfl, hb⟩; have n0_ := Aside0.mk (below_step (by repeat (first | (with_reducible first | exact HB.out | apply below_alloc | apply pw_below_drewN | apply below_drew1) | exact HB.out)) hb); clear HB; have HB := n0_; clear n0_; (try clear hb); (try clear hb2); (try clear hk); (try clear hi)) | (go_at_call 24; (with_reducible refine (chain_place.calls _ _ l0 a1 t107 _ ?side1 ?side2 A5.out).mono ?_); (case side1 => repeat (first | exact (Kd.C_below HR0.out HB.out) | (with_reducible refine Kd.C_alloc ?_ _) | (with_reducible refine Kd.C_drewN ?_ _) | (with_reducible refine Kd.C_drew ?_))); (case side2 => exact HC0.out); rintro e w8 ⟨rfl, hb⟩; have n0_ := Aside0.mk (below_step (by repeat (first | (with_reducible first | exact HB.out | apply below_alloc | apply pw_below_drewN | apply below_drew1) | exact HB.out)) hb); clear HB; have HB := n0_; clear n0_; (try clear hb); (try clear hb2); (try clear hk); (try clear hi))); try go_wp2_with (first | (go_at_call 11; (with_reducible refine (chain_Check.calls k _ _ l0 t106 _ ?side1 ?side2 A3.out).mono ?_); (case side1 => repeat (first | exact HR0.out | (with_reducible refine Kd.C_alloc ?_ _) | (with_reducible refine Kd.C_drewN ?_ _) | (with_reducible refine Kd.C_drew ?_))); (case side2 => exact HC0.out); rintro e w7 ⟨rfl, hb⟩; have n0_ := Aside0.mk (below_step (by repeat (first | (with_reducible first | exact HB.out | apply below_alloc | apply pw_below_drewN | apply below_drew1) | exact HB.out)) hb); clear HB; have HB := n0_; clear n0_; (try clear hb); (try clear hb2); (try clear hk); (try clear hi)) | (go_at_call 24; (with_reducible refine (chain_place.calls _ _ l0 a1 t107 _ ?side1 ?side2 A5.out).mono ?_); (case side1 => repeat (first | exact (Kd.C_below HR0.out HB.out) | (with_reducible refine Kd.C_alloc ?_ _) | (with_reducible refine Kd.C_drewN ?_ _) | (with_reducible refine Kd.C_drew ?_))); (case side2 => exact HC0.out); rintro e w8 ⟨rfl, hb⟩; have n0_ := Aside0.mk (below_step (by repeat (first | (with_reducible first | exact HB.out | apply below_alloc | apply pw_below_drewN | apply below_drew1) | exact HB.out)) hb); clear HB; have HB := n0_; clear n0_; (try clear hb); (try clear hb2); (try clear hk); (try clear hi))))
      go_ret2
      exact ⟨by first | rfl | (simp [errW_none, errW_some] <;> rfl) | (simp [*, errW_none, errW_some] <;> rfl), by repeat (first | (with_reducible first | exact HB.out | apply below_alloc | apply pw_below_drewN | apply below_drew1) | exact HB.out)⟩
    · rw [if_neg c6] at H
      have c6b0 : (t107 == (l0.length : Int)) = false := beq_eq_false_iff_ne.mpr c6
      have c6b1 : (t107 != (l0.length : Int)) = true := bne_iff_ne.mpr c6
      by_cases c9 : 0 ≤ t107
      · rw [if_pos c9] at H
        have c9b0 : decide (0 ≤ t107) = true := decide_eq_true c9
        clear c9
        by_cases c10 : t107 < (l0.length : Int)
        · rw [if_pos c10] at H
          have c10b0 : decide (t107 < (l0.length : Int)) = true := decide_eq_true c10
          clear c10
          simp only [Option.some.injEq, Prod.mk.injEq] at H
          obtain ⟨rfl, rfl⟩ := H
          go_enter Try.func9, Try.ntmps9
          go_wp2_with (first | (go_at_call 11; (with_reducible refine (chain_Check.calls k _ _ l0 t106 _ ?side1 ?side2 A3.out).mono ?_); (case side1 => repeat (first | exact HR0.out | (with_reducible refine Kd.C_alloc ?_ _) | (with_reducible refine Kd.C_drewN ?_ _) | (with_reducible refine Kd.C_drew ?_))); (case side2 => exact HC0.out); rintro e w11 ⟨rfl, hb⟩; have n0_ := Aside0.mk (below_step (by repeat (first | (with_reducible first | exact HB.out | apply below_alloc | apply pw_below_drewN | apply below_drew1) | exact HB.out)) hb); clear HB; have HB := n0_; clear n0_; (try clear hb); (try clear hb2); (try clear hk); (try clear hi)) | (go_at_call 24; (with_reducible refine (chain_place.calls _ _ l0 a1 t107 _ ?side1 ?side2 A5.out).mono ?_); (case side1 => repeat (first | exact (Kd.C_below HR0.out HB.out) | (with_reducible refine Kd.C_alloc ?_ _) | (with_reducible refine Kd.C_drewN ?_ _) | (with_reducible refine Kd.C_drew ?_))); (case side2 => exact HC0.out); rintro e w12 ⟨rfl, hb⟩; have n0_ := Aside0.mk (below_step (by repeat (first | (with_reducible first | exact HB.out | apply below_alloc | apply pw_below_drewN | apply below_drew1) | exact HB.out)) hb); clear HB; have HB := n0_; clear n0_; (try clear hb); (try clear hb2); (try clear hk); (try clear hi); have p108 : 0 ≤ (t107 : Int) := of_decide_eq_true (by first | (with_reducible assumption) | assumption); have q108 : t107 < (l0.length : Int) := of_decide_eq_true (by first | (with_reducible assumption) | assumption); obtain ⟨ad108, e108, hx108_0, hx108_1, hx108_2⟩ := at_T34 HR0.out t107 p108 q108; cases e108; replace hx108_0 := (HB.out.cell (World.block_lt_of_cell? w _ hx108_0)).trans hx108_0; replace hx108_1 := (HB.out.cell (World.block_lt_of_cell? w _ hx108_1)).trans hx108_1; replace hx108_2 := (HB.out.cell (World.block_lt_of_cell? w _ hx108_2)).trans hx108_2; replace p108 := eq_true p108; replace q108 := eq_true q108; have p109 : 0 ≤ (t107 : Int) := of_decide_eq_true (by first | (with_reducible assumption) | assumption); have q109 : t107 < (l0.length : Int) := of_decide_eq_true (by first | (with_reducible assumption) | assumption); obtain ⟨ad109, e109, hx109_0, hx109_1, hx109_2⟩ := at_T34 HR0.out t107 p109 q109; obtain rfl : ad108 = ad109 := (by injection e109); replace hx109_0 := (HB.out.cell (World.block_lt_of_cell? w _ hx109_0)).trans hx109_0; replace hx109_1 := (HB.out.cell (World.block_lt_of_cell? w _ hx109_1)).trans hx109_1; replace hx109_2 := (HB.out.cell (World.block_lt_of_cell? w _ hx109_2)).trans hx109_2; replace p109 := eq_true p109; replace q109 := eq_true q109))
          repeat (go_quiet (first | (go_at_call 11; (with_reducible refine (chain_Check.calls k _ _ l0 t106 _ ?side1 ?side2 A3.out).mono ?_); (case side1 => repeat (first | exact HR0.out | (with_reducible refine Kd.C_alloc ?_ _) | (with_reducible refine Kd.C_drewN ?_ _) | (with_reducible refine Kd.C_drew ?_))); (case side2 => exact HC0.out); rintro e w11 ⟨rfl, hb⟩; have n0_ := Aside0.mk (below_step (by repeat (first | (with_reducible first | exact HB.out | apply below_alloc | apply pw_below_drewN | apply below_drew1) | exact HB.out)) hb); clear HB; have HB := n0_; clear n0_; (try clear hb); (try clear hb2); (try clear hk); (try clear hi)) | (go_at_call 24; (with_reducible refine (chain_place.calls _ _ l0 a1 t107 _ ?side1 ?side2 A5.out).mono ?_); (case side1 => repeat (first | exact (Kd.C_below HR0.out HB.out) | (with_reducible refine Kd.C_alloc ?_ _) | (with_reducible refine Kd.C_drewN ?_ _) | (with_reducible refine Kd.C_drew ?_))); (case side2 => exact HC0.out); rintro e w12 ⟨rfl, hb⟩; have n0_ := Aside0.mk (below_step (by repeat (first | (with_reducible first | exact HB.out | apply below_alloc | apply pw_below_drewN | apply below_drew1) | exact HB.out)) hb); clear HB; have HB := n0_; clear n0_; (try clear hb); (try clear hb2); (try clear hk); (try clear hi); have p108 : 0 ≤ (t107 : Int) := of_decide_eq_true (by first | (with_reducible assumption) | assumption); have q108 : t107 < (l0.length : Int) := of_decide_eq_true (by first | (with_reducible assumption) | assumption); obtain ⟨ad108, e108, hx108_0, hx108_1, hx108_2⟩ := at_T34 HR0.out t107 p108 q108; cases e108; replace hx108_0 := (HB.out.cell (World.block_lt_of_cell? w _ hx108_0)).trans hx108_0; replace hx108_1 := (HB.out.cell (World.block_lt_of_cell? w _ hx108_1)).trans hx108_1; replace hx108_2 := (HB.out.cell (World.block_lt_of_cell? w _ hx108_2)).trans hx108_2; replace p108 := eq_true p108; replace q108 := eq_true q108; have p109 : 0 ≤ (t107 : Int) := of_decide_eq_true (by first | (with_reducible assumption) | assumption); have q109 : t107 < (l0.length : Int) := of_decide_eq_true (by first | (with_reducible assumption) | assumption); obtain ⟨ad109, e109, hx109_0, hx109_1, hx109_2⟩ := at_T34 HR0.out t107 p109 q109; obtain rfl : ad108 = ad109 := (by injection e109); replace hx109_0 := (HB.out.cell (World.block_lt_of_cell? w _ hx109_0)).trans hx109_0; replace hx109_1 := (HB.out.cell (World.block_lt_of_cell? w _ hx109_1)).trans hx109_1; replace hx109_2 := (HB.out.cell (World.block_lt_of_cell? w _ hx109_2)).trans hx109_2; replace p109 := eq_true p109; replace q109 := eq_true q109)); try go_wp2_with (first | (go_at_call 11; (with_reducible refine (chain_Check.calls k _ _ l0 t106 _ ?side1 ?side2 A3.out).mono ?_); (case side1 => repeat (first | exact HR0.out | (with_reducible refine Kd.C_alloc ?_ _) | (with_reducible refine Kd.C_drewN ?_ _) | (with_reducible refine Kd.C_drew ?_))); (case side2 => exact HC0.out); rintro e w11 ⟨rfl, hb⟩; have n0_ := Aside0.mk (below_step (by repeat (first | (with_reducible first | exact HB.out | apply below_alloc | apply pw_below_drewN | apply below_drew1) | exact HB.out)) hb); clear HB; have HB := n0_; clear n0_; (try clear hb); (try clear hb2); (try clear hk); (try clear hi)) | (go_at_call 24; (with_reducible refine (chain_place.calls _ _ l0 a1 t107 _ ?side1 ?side2 A5.out).mono ?_); (case side1 => repeat (first | exact (Kd.C_below HR0.out HB.out) | (with_reducible refine Kd.C_alloc ?_ _) | (with_reducible refine Kd.C_drewN ?_ _) | (with_reducible refine Kd.C_drew ?_))); (case side2 => exact HC0.out); rintro e w12 ⟨rfl, hb⟩; have n0_ := Aside0.mk (below_step (by repeat (first | (with_reducible first | exact HB.out | apply below_alloc | apply pw_below_drewN | apply below_drew1) | exact HB.out)) hb); clear HB; have HB := n0_; clear n0_; (try clear hb); (try clear hb2); (try clear hk); (try clear hi); have p108 : 0 ≤ (t107 : Int) := of_decide_eq_true (by first | (with_reducible assumption) | assumption); have q108 : t107 < (l0.length : Int) := of_decide_eq_true (by first | (with_reducible assumption) | assumption); obtain ⟨ad108, e108, hx108_0, hx108_1, hx108_2⟩ := at_T34 HR0.out t107 p108 q108; cases e108; replace hx108_0 := (HB.out.cell (World.block_lt_of_cell? w _ hx108_0)).trans hx108_0; replace hx108_1 := (HB.out.cell (World.block_lt_of_cell? w _ hx108_1)).trans hx108_1; replace hx108_2 := (HB.out.cell (World.block_lt_of_cell? w _ hx108_2)).trans hx108_2; replace p108 := eq_true p108; replace q108 := eq_true q108; have p109 : 0 ≤ (t107 : Int) := of_decide_eq_true (by first | (with_reducible assumption) | assumption); have q109 : t107 < (l0.length : Int) := of_decide_eq_true (by first | (with_reducible assumption) | assumption); obtain ⟨ad109, e109, hx109_0, hx109_1, hx109_2⟩ := at_T34 HR0.out t107 p109 q109; obtain rfl : ad108 = ad109 := (by injection e109); replace hx109_0 := (HB.out.cell (World.block_lt_of_cell? w _ hx109_0)).trans hx109_0; replace hx109_1 := (HB.out.cell (World.block_lt_of_cell? w _ hx109_1)).trans hx109_1; replace hx109_2 := (HB.out.cell (World.block_lt_of_cell? w _ hx109_2)).trans hx109_2; replace p109 := eq_true p109; replace q109 := eq_true q109)))
          go_ret2
          exact ⟨by first | rfl | (simp [errW_none, errW_some] <;> rfl) | (simp [*, errW_none, errW_some] <;> rfl), by repeat (first | (with_reducible first | exact HB.out | apply below_alloc | apply pw_below_drewN | apply below_drew1) | exact HB.out)⟩
        · rw [if_neg c10] at H
          exact absurd H (by simp)
      · rw [if_neg c9] at H
        exact absurd H (by simp)
  · rw [if_neg c4] at H
    have c4b0 : (t106 == 0) = false := beq_eq_false_iff_ne.mpr c4
    have c4b1 : (t106 != 0) = true := bne_iff_ne.mpr c4
    simp only [Option.some.injEq, Prod.mk.injEq] at H
    obtain ⟨rfl, rfl⟩ := H
    go_enter Try.func9, Try.ntmps9
    go_wp2_with (first | (go_at_call 11; (with_reducible refine (chain_Check.calls k _ _ l0 t106 _ ?side1 ?side2 A3.out).mono ?_); (case side1 => repeat (first | exact HR0.out | (with_reducible refine Kd.C_alloc ?_ _) | (with_reducible refine Kd.C_drewN ?_ _) | (with_reducible refine Kd.C_drew ?_))); (case side2 => exact HC0.out); rintro e w13 ⟨rfl, hb⟩; have n0_ := Aside0.mk (below_step (by repeat (first | (with_reducible first | exact HB.out | apply below_alloc | apply pw_below_drewN | apply below_drew1) | exact HB.out)) hb); clear HB; have HB := n0_; clear n0_; (try clear hb); (try clear hb2); (try clear hk); (try clear hi)))
    repeat (go_quiet (first | (go_at_call 11; (with_reducible refine (chain_Check.calls k _ _ l0 t106 _ ?side1 ?side2 A3.out).mono ?_); (case side1 => repeat (first | exact HR0.out | (with_reducible refine Kd.C_alloc ?_ _) | (with_reducible refine Kd.C_drewN ?_ _) | (with_reducible refine Kd.C_drew ?_))); (case side2 => exact HC0.out); rintro e w13 ⟨rfl, hb⟩; have n0_ := Aside0.mk (below_step (by repeat (first | (with_reducible first | exact HB.out | apply below_alloc | apply pw_below_drewN | apply below_drew1) | exact HB.out)) hb); clear HB; have HB := n0_; clear n0_; (try clear hb); (try clear hb2); (try clear hk); (try clear hi))); try go_wp2_with (first | (go_at_call 11; (with_reducible refine (chain_Check.calls k _ _ l0 t106 _ ?side1 ?side2 A3.out).mono ?_); (case side1 => repeat (first | exact HR0.out | (with_reducible refine Kd.C_alloc ?_ _) | (with_reducible refine Kd.C_drewN ?_ _) | (with_reducible refine Kd.C_drew ?_))); (case side2 => exact HC0.out); rintro e w13 ⟨rfl, hb⟩; have n0_ := Aside0.mk (below_step (by repeat (first | (with_reducible first | exact HB.out | apply below_alloc | apply pw_below_drewN | apply below_drew1) | exact HB.out)) hb); clear HB; have HB := n0_; clear n0_; (try clear hb); (try clear hb2); (try clear hk); (try clear hi))))
    go_ret2
    exact ⟨by first | rfl | (simp [errW_none, errW_some] <;> rfl) | (simp [*, errW_none, errW_some] <;> rfl), by repeat (first | (with_reducible first | exact HB.out | apply below_alloc | apply pw_below_drewN | apply below_drew1) | exact HB.out)⟩

/-! ### chain_Since: function 13 -/
def chain_Since.f (k : Nat) (l0 : List (S34)) (a1 : Int) : Option (Bool) := (chain_Check.f k l0).bind fun t110 => (if t110 = 0 then ((chain_place.f l0 a1).bind fun t111 => (some (decide (t111 > 0)))) else (some false))
theorem chain_Since.mono : ∀ a0 a1 k, LeO (chain_Since.f k a0 a1) (chain_Since.f (k + 1) a0 a1) := by
  intro a0 a1 k
  unfold chain_Since.f
  repeat' first
      | (with_reducible exact chain_Check.mono _ _)
      | (with_reducible exact LeO.refl _)
      | (with_reducible exact LeO.none _)
      | (with_reducible refine LeO.ite ?_ ?_)
      | (with_reducible refine LeO.bind ?_ (fun _ => ?_))
      | exact chain_Check.mono _ _
      | exact LeO.none _
      | refine LeO.ite ?_ ?_
      | refine LeO.bind ?_ (fun _ => ?_)
set_option maxHeartbeats 8000000 in
set_option maxRecDepth 100000 in
theorem chain_Since.calls (k : Nat) (A0 : Option Addr) (c0 : Nat) (l0 : List (S34)) (a1 : Int) (r : Bool) (w : World) (hr0 : Kd.C k34 w A0 l0.length l0) (hc0 : l0.length ≤ c0) (h : chain_Since.f k l0 a1 = some r) :
    Calls Try.prog 13 #[.slice A0 l0.length c0, .int .i64 a1] w fun e w' => e = .returned (.bool r) ∧ Below w.heap.size w w' := by
  have HR0 := Aside0.mk hr0
  have HC0 := Aside0.mk hc0
  clear hr0 hc0
  have HB := Aside0.mk (Below.refl w.heap.size w)
  have H : ((chain_Check.f k l0).bind fun t110 => (if t110 = 0 then ((chain_place.f l0 a1).bind fun t111 => (some (decide (t111 > 0)))) else (some false))) = some r := h
  clear h
  replace H := Option.bind_eq_some_iff.mp H
  obtain ⟨t110, A30, H⟩ := H
  replace H : (if t110 = 0 then ((chain_place.f l0 a1).bind fun t111 => (some (decide (t111 > 0)))) else (some false)) = some r := H
  have A3 := Aside0.mk A30
  clear A30
  by_cases c4 : t110 = 0
  · rw [if_pos c4] at H
    have c4b0 : (t110 == 0) = true := beq_iff_eq.mpr c4
    have c4b1 : (t110 != 0) = false := bne_eq_false_iff_eq.mpr c4
    clear c4
    replace H := Option.bind_eq_some_iff.mp H
    obtain ⟨t111, A50, H⟩ := H
    replace H : (some (decide (t111 > 0))) = some r := H
    have A5 := Aside0.mk A50
    clear A50
    obtain rfl := Option.some.inj H
    go_enter Try.func13, Try.ntmps13
    go_wp2_with (first | ((with_reducible refine gate_callee (f := 11) rfl ?_); refine goesL_ (some 6) rfl rfl Try.func11 (by kernel_rfl) rfl #[.slice A0 l0.length c0] rfl (by (try simp only [List.map_toArray, List.map_cons, List.map_nil]); first | done | rfl | (simp only [List.length_drop, List.length_take]; rfl)) ?_; (with_reducible refine (chain_Check.calls k _ _ l0 t110 _ ?side1 ?side2 A3.out).mono ?_); (case side1 => repeat (first | exact HR0.out | (with_reducible refine Kd.C_alloc ?_ _) | (with_reducible refine Kd.C_drewN ?_ _) | (with_reducible refine Kd.C_drew ?_))); (case side2 => exact HC0.out); rintro e w6 ⟨rfl, hb⟩; refine ⟨_, rfl, ?_⟩; have n0_ := Aside0.mk (below_step (by repeat (first | (with_reducible first | exact HB.out | apply below_alloc | apply pw_below_drewN | apply below_drew1) | exact HB.out)) hb); clear HB; have HB := n0_; clear n0_; (try clear hb); (try clear hb2); (try clear hk); (try clear hi)) | (go_at_call 24; (with_reducible refine (chain_place.calls _ _ l0 a1 t111 _ ?side1 ?side2 A5.out).mono ?_); (case side1 => repeat (first | exact (Kd.C_below HR0.out HB.out) | (with_reducible refine Kd.C_alloc ?_ _) | (with_reducible refine Kd.C_drewN ?_ _) | (with_reducible refine Kd.C_drew ?_))); (case side2 => exact HC0.out); rintro e w7 ⟨rfl, hb⟩; have n0_ := Aside0.mk (below_step (by repeat (first | (with_reducible first | exact HB.out | apply below_alloc | apply pw_below_drewN | apply below_drew1) | exact HB.out)) hb); clear HB; have HB := n0_; clear n0_; (try clear hb); (try clear hb2); (try clear hk); (try clear hi)))
    go_ret
    exact ⟨by first | rfl | (simp [errW_none, errW_some] <;> rfl) | (simp [*, errW_none, errW_some] <;> rfl), by repeat (first | (with_reducible first | exact HB.out | apply below_alloc | apply pw_below_drewN | apply below_drew1) | exact HB.out)⟩
  · rw [if_neg c4] at H
    have c4b0 : (t110 == 0) = false := beq_eq_false_iff_ne.mpr c4
    have c4b1 : (t110 != 0) = true := bne_iff_ne.mpr c4
    obtain rfl := Option.some.inj H
    go_enter Try.func13, Try.ntmps13
    go_wp2_with (first | ((with_reducible refine gate_callee (f := 11) rfl ?_); refine goesL_ (some 6) rfl rfl Try.func11 (by kernel_rfl) rfl #[.slice A0 l0.length c0] rfl (by (try simp only [List.map_toArray, List.map_cons, List.map_nil]); first | done | rfl | (simp only [List.length_drop, List.length_take]; rfl)) ?_; (with_reducible refine (chain_Check.calls k _ _ l0 t110 _ ?side1 ?side2 A3.out).mono ?_); (case side1 => repeat (first | exact HR0.out | (with_reducible refine Kd.C_alloc ?_ _) | (with_reducible refine Kd.C_drewN ?_ _) | (with_reducible refine Kd.C_drew ?_))); (case side2 => exact HC0.out); rintro e w8 ⟨rfl, hb⟩; refine ⟨_, rfl, ?_⟩; have n0_ := Aside0.mk (below_step (by repeat (first | (with_reducible first | exact HB.out | apply below_alloc | apply pw_below_drewN | apply below_drew1) | exact HB.out)) hb); clear HB; have HB := n0_; clear n0_; (try clear hb); (try clear hb2); (try clear hk); (try clear hi)))
    go_ret
    exact ⟨by first | rfl | (simp [errW_none, errW_some] <;> rfl) | (simp [*, errW_none, errW_some] <;> rfl), by repeat (first | (with_reducible first | exact HB.out | apply below_alloc | apply pw_below_drewN | apply below_drew1) | exact HB.out)⟩

/-! ### api_Version_27: function 27 (given) -/
def api_Version_27.f (l0 : List S34) : Option (List S34) := if l0.length * 32 ≤ 140737488351232 then some l0 else none
set_option maxHeartbeats 2000000 in
theorem api_Version_27.some_ (a : Addr) (c0 : Nat) (l0 : List S34) (w : World) (hr0 : Kd.C k34 w (some a) l0.length l0) (hl : l0.length * 32 ≤ 140737488351232) :
    Calls Try.prog 27 #[.slice (some a) l0.length c0] w fun e w' => ∃ v0_ : Value, e = .returned (v0_) ∧ Kd.R k34 34 w' w.heap.size (fun _ => True) v0_ l0 ∧ Below w.heap.size w w' := by
  have HR0 := Aside0.mk hr0
  clear hr0
  have heq := fun w : World => Lib.run_eql_slice_nil (P := Try.prog) w 22 34 (some a) l0.length c0 0 0 Try.underlying22
  go_enter Try.func27, Try.ntmps27
  go_wp2_with (first
    | ((with_reducible refine gate_dst (N := 5) rfl ?_); refine Kd.R_lit k34 _ 34 ?hg (N := 5) ?hd (xs := ([] : List S34)) (inner := []) (ok := fun _ => True) (okp := fun _ => True) ?hr ?hp (fun _ hk => hk) trivial (Below.refl _ _) (Nat.le_refl _) (by simp) ?_; (case hd => rfl); (case hg => rfl); (case hr => first | (go_simp; done) | (go_simp; rfl)); (case hp => exact (Reps.none _ _)); intro v1 w1 ho1 hb1 hg_ hnew_; clear hg_ hnew_; have HO1 := Aside0.mk ho1; have HB1 := Aside0.mk hb1; clear ho1 hb1)
    | ((with_reducible refine gate_builtin (b := .append) (xs := #[.tmp 5, .tmp 6]) rfl ?_); at_builtin; refine Kd.R_append_rows k34 (w0 := w) w.heap.size rfl (.tmp 5) (.tmp 6) 22 34 (.agg #[(.int .i64 0), (.string ⟨#[]⟩), (.bool false)]) 32 rfl Try.underlying22 info34 rfl (by decide) (by omega) v1 [] l0 _ _ _ (fun _ => True) (fun _ => False) rfl rfl HO1.out (Kd.C_below HR0.out HB1.out) (fun _ _ h => h) (fun _ h => h.elim) (fun _ _ => trivial) HB1.out HB1.out.size (by simp; omega) ?_; intro v2 w2 ho2 hb2 hg hat; rw [List.nil_append] at ho2; have HO2 := Aside0.mk ho2; have HB2 := Aside0.mk hb2; clear ho2 hb2 hg hat HO1 HB1))
  go_ret
  exact ⟨_, rfl, HO2.out, HB2.out⟩
theorem api_Version_27.calls (A0 : Option Addr) (c0 : Nat) (l0 : List S34) (r : List S34) (w : World) (hr0 : Kd.C k34 w A0 l0.length l0) (hc0 : l0.length ≤ c0) (h : api_Version_27.f l0 = some r) :
    Calls Try.prog 27 #[.slice A0 l0.length c0] w fun e w' => ∃ v0_ : Value, e = .returned (v0_) ∧ Kd.R k34 34 w' w.heap.size (fun _ => True) v0_ r ∧ Below w.heap.size w w' := by
  unfold api_Version_27.f at h
  split at h
  · rename_i hl
    obtain rfl := Option.some.inj h
    clear h
    rcases A0 with _ | a
    · have h0 : l0 = [] := by
        rcases Nat.eq_zero_or_pos l0.length with h0 | h0
        · exact List.eq_nil_of_length_eq_zero h0
        · obtain ⟨ad, h', _⟩ := hr0.2.2 h0
          cases h'
      subst h0
      have heq := fun w : World => Lib.run_eql_slice_nil (P := Try.prog) w 22 34 none 0 c0 0 0 Try.underlying22
      clear hr0 hc0 hl
      go_enter Try.func27, Try.ntmps27
      go_wp2
      go_ret
      exact ⟨_, rfl, Kd.R_nil _ _ _ _ _, Below.refl _ _⟩
    · exact api_Version_27.some_ a c0 l0 w hr0 hl
  · cases h

/-! ### chain_Vacuum: function 15 (given) -/
def chain_Vacuum.cut (l0 : List S34) (t : Int) : Nat := if chain_place.bs l0 t l0.length 0 l0.length < l0.length then (if (rd_T34 l0 (chain_place.bs l0 t l0.length 0 l0.length : Nat)).f2 = true then chain_place.bs l0 t l0.length 0 l0.length else chain_place.bs l0 t l0.length 0 l0.length + 1) else chain_place.bs l0 t l0.length 0 l0.length
def chain_Vacuum.f (k : Nat) (l0 : List S34) (a1 : Int) : Option (List S34) :=
  if l0.length * 32 ≤ 140737488351232 then (chain_Check.f k l0).bind fun t => if t = 0 then some (l0.take (chain_Vacuum.cut l0 a1)) else some [] else none
theorem chain_Vacuum.mono : ∀ a0 a1 k, LeO (chain_Vacuum.f k a0 a1) (chain_Vacuum.f (k + 1) a0 a1) := by
  intro a0 a1 k
  unfold chain_Vacuum.f
  refine LeO.ite ?_ (LeO.none _)
  exact LeO.bind (chain_Check.mono a0 k) (fun _ => LeO.refl _)
theorem chain_place.bs_le (l0 : List S34) (t : Int) : ∀ (d i j : Nat), i ≤ j → i ≤ chain_place.bs l0 t d i j ∧ chain_place.bs l0 t d i j ≤ j := by
  intro d
  induction d with
  | zero => intro i j h; rw [chain_place.bs]; omega
  | succ d ih =>
    intro i j h
    rw [chain_place.bs]
    split
    · split
      · have := ih i ((i + j) / 2) (by omega); omega
      · have := ih ((i + j) / 2 + 1) j (by omega); omega
    · omega
theorem chain_Vacuum.clone (A : Option Addr) (c n : Nat) (xs : List S34) (hn : xs.length = n) (w : World) (hr : Kd.C k34 w A n xs) (hc : n ≤ c) (hl : n * 32 ≤ 140737488351232) :
    Calls Try.prog 27 #[.slice A n c] w fun e w' => ∃ v0_ : Value, e = .returned (v0_) ∧ Kd.R k34 34 w' w.heap.size (fun _ => True) v0_ xs ∧ Below w.heap.size w w' := by
  subst hn
  exact api_Version_27.calls A c xs xs w hr hc (by unfold api_Version_27.f; rw [if_pos hl])
theorem chain_Vacuum.ctake {w : World} {A : Option Addr} {n m : Nat} {xs : List S34} (h : Kd.C k34 w A n xs) (hm : m ≤ n) : Kd.C k34 w A m (xs.take m) := by
  have hx := Kd.C_len h
  subst hx
  have h2 := Kd.C_take h hm
  have e : (xs.take m).length = m := by rw [List.length_take]; omega
  first
  | exact h2
  | (rw [e] at h2; exact h2)
set_option maxHeartbeats 2000000 in
theorem chain_Vacuum.walk (k : Nat) (A0 : Option Addr) (c0 : Nat) (l0 : List (S34)) (a1 : Int) (w : World) (hr0 : Kd.C k34 w A0 l0.length l0) (hc0 : l0.length ≤ c0) (hl : l0.length * 32 ≤ 140737488351232) (hC : chain_Check.f k l0 = some 0) :
    Calls Try.prog 15 #[.slice A0 l0.length c0, .int .i64 a1] w fun e w' => ∃ v0_ : Value, e = .returned (v0_) ∧ Kd.R k34 34 w' w.heap.size (fun _ => True) v0_ (l0.take (chain_Vacuum.cut l0 a1)) ∧ Below w.heap.size w w' := by
  have HR0 := Aside0.mk hr0
  have HC := Aside0.mk hC
  obtain ⟨b, hb⟩ : ∃ b, b = chain_place.bs l0 a1 l0.length 0 l0.length := ⟨_, rfl⟩
  have hbl : b ≤ l0.length := by rw [hb]; exact (chain_place.bs_le l0 a1 _ _ _ (Nat.zero_le _)).2
  have HP := Aside0.mk (show chain_place.f l0 a1 = some (b : Int) from by unfold chain_place.f; rw [if_pos (by omega), ← hb])
  have HV := Aside0.mk (show chain_Vacuum.cut l0 a1 = if b < l0.length then (if (rd_T34 l0 (b : Nat)).f2 = true then b else b + 1) else b from by unfold chain_Vacuum.cut; rw [← hb])
  clear hr0 hC hb
  by_cases hlt : b < l0.length
  · obtain ⟨d, hd⟩ : ∃ d, (rd_T34 l0 (b : Int)).f2 = d := ⟨_, rfl⟩
    have HD := Aside0.mk hd
    have hbi : (b : Int) < (l0.length : Int) := by omega
    clear hd
    cases d
    · go_enter Try.func15, Try.ntmps15
      go_wp2_with (first
        | (go_at_call 11; refine (chain_Check.calls k A0 c0 l0 0 w HR0.out hc0 HC.out).mono ?_; rintro e w1 ⟨rfl, hb1⟩; have HB1 := Aside0.mk hb1; have HR1 := Aside0.mk (Kd.C_below HR0.out hb1); clear hb1)
        | (go_at_call 24; refine (chain_place.calls A0 c0 l0 a1 b _ HR1.out hc0 HP.out).mono ?_; rintro e w2 ⟨rfl, hb2⟩; have HB2 := Aside0.mk (below_step HB1.out hb2); have HR2 := Aside0.mk (Kd.C_below HR1.out hb2); obtain ⟨ad, rfl, _, _, hcd⟩ := at_T34 HR2.out (b : Int) (by omega) (by omega); rw [Int.toNat_natCast, HD.out] at hcd; clear hb2)
        | (go_at_call 27; refine (chain_Vacuum.clone _ (b + 1) (b + 1) (l0.take (b + 1)) (by rw [List.length_take]; omega) _ (chain_Vacuum.ctake HR2.out (by omega)) (Nat.le_refl _) (by omega)).mono ?_; rintro e w3 ⟨v, rfl, ho3, hb3⟩; have HO3 := Aside0.mk (Kd.R_lower ho3 HB2.out.size); have HB3 := Aside0.mk (below_step HB2.out hb3); clear ho3 hb3))
      go_ret
      rw [HV.out, if_pos hlt, if_neg (by rw [HD.out]; decide)]
      exact ⟨_, rfl, HO3.out, HB3.out⟩
    · go_enter Try.func15, Try.ntmps15
      go_wp2_with (first
        | (go_at_call 11; refine (chain_Check.calls k A0 c0 l0 0 w HR0.out hc0 HC.out).mono ?_; rintro e w1 ⟨rfl, hb1⟩; have HB1 := Aside0.mk hb1; have HR1 := Aside0.mk (Kd.C_below HR0.out hb1); clear hb1)
        | (go_at_call 24; refine (chain_place.calls A0 c0 l0 a1 b _ HR1.out hc0 HP.out).mono ?_; rintro e w2 ⟨rfl, hb2⟩; have HB2 := Aside0.mk (below_step HB1.out hb2); have HR2 := Aside0.mk (Kd.C_below HR1.out hb2); obtain ⟨ad, rfl, _, _, hcd⟩ := at_T34 HR2.out (b : Int) (by omega) (by omega); rw [Int.toNat_natCast, HD.out] at hcd; clear hb2)
        | (go_at_call 27; refine (chain_Vacuum.clone _ b b (l0.take b) (by rw [List.length_take]; omega) _ (chain_Vacuum.ctake HR2.out (by omega)) (Nat.le_refl _) (by omega)).mono ?_; rintro e w3 ⟨v, rfl, ho3, hb3⟩; have HO3 := Aside0.mk (Kd.R_lower ho3 HB2.out.size); have HB3 := Aside0.mk (below_step HB2.out hb3); clear ho3 hb3))
      go_ret
      rw [HV.out, if_pos hlt, if_pos HD.out]
      exact ⟨_, rfl, HO3.out, HB3.out⟩
  · have hbi : decide ((b : Int) < (l0.length : Int)) = false := decide_eq_false (by omega)
    go_enter Try.func15, Try.ntmps15
    go_wp2_with (first
      | (go_at_call 11; refine (chain_Check.calls k A0 c0 l0 0 w HR0.out hc0 HC.out).mono ?_; rintro e w1 ⟨rfl, hb1⟩; have HB1 := Aside0.mk hb1; have HR1 := Aside0.mk (Kd.C_below HR0.out hb1); clear hb1)
      | (go_at_call 24; refine (chain_place.calls A0 c0 l0 a1 b _ HR1.out hc0 HP.out).mono ?_; rintro e w2 ⟨rfl, hb2⟩; have HB2 := Aside0.mk (below_step HB1.out hb2); have HR2 := Aside0.mk (Kd.C_below HR1.out hb2); clear hb2)
      | (go_at_call 27; refine (chain_Vacuum.clone _ b b (l0.take b) (by rw [List.length_take]; omega) _ (chain_Vacuum.ctake HR2.out (by omega)) (Nat.le_refl _) (by omega)).mono ?_; rintro e w3 ⟨v, rfl, ho3, hb3⟩; have HO3 := Aside0.mk (Kd.R_lower ho3 HB2.out.size); have HB3 := Aside0.mk (below_step HB2.out hb3); clear ho3 hb3))
    go_ret
    rw [HV.out, if_neg hlt]
    exact ⟨_, rfl, HO3.out, HB3.out⟩
theorem chain_Vacuum.calls (k : Nat) (A0 : Option Addr) (c0 : Nat) (l0 : List (S34)) (a1 : Int) (r : List (S34)) (w : World) (hr0 : Kd.C k34 w A0 l0.length l0) (hc0 : l0.length ≤ c0) (h : chain_Vacuum.f k l0 a1 = some r) :
    Calls Try.prog 15 #[.slice A0 l0.length c0, .int .i64 a1] w fun e w' => ∃ v0_ : Value, e = .returned (v0_) ∧ Kd.R k34 34 w' w.heap.size (fun _ => True) v0_ r ∧ Below w.heap.size w w' := by
  unfold chain_Vacuum.f at h
  split at h
  · rename_i hl
    obtain ⟨t, ht, h⟩ := Option.bind_eq_some_iff.mp h
    by_cases h0 : t = 0
    · subst h0
      rw [if_pos rfl] at h
      obtain rfl := Option.some.inj h
      exact chain_Vacuum.walk k A0 c0 l0 a1 w hr0 hc0 hl ht
    · rw [if_neg h0] at h
      obtain rfl := Option.some.inj h
      have HR0 := Aside0.mk hr0
      have HC := Aside0.mk ht
      have h0' : (t != 0) = true := by simpa using h0
      clear hr0 ht h h0
      go_enter Try.func15, Try.ntmps15
      go_wp2_with (first
        | (go_at_call 11; refine (chain_Check.calls k A0 c0 l0 t w HR0.out hc0 HC.out).mono ?_; rintro e w1 ⟨rfl, hb1⟩; have HB1 := Aside0.mk hb1; clear hb1))
      go_ret
      exact ⟨_, rfl, Kd.R_nil _ _ _ _ _, HB1.out⟩
  · cases h

/-! ### ambryref13_Same: function 16 -/
def ambryref13_Same.l0 : Nat → List (S34) → List (S34) → Int → Option (Bool)
  | 0, _, _, _ => none
  | k + 1, x0, x1, x5 => if x5 < (x0.length : Int) then (if 0 ≤ x5 then (if x5 < (x1.length : Int) then (if (!(((rd_T34 x0 x5).f0) == ((rd_T34 x1 x5).f0)) || (!((((rd_T34 x0 x5).f1).toList) == (((rd_T34 x1 x5).f1).toList)) || (!(((rd_T34 x0 x5).f2) == ((rd_T34 x1 x5).f2))))) = true then (some false) else (ambryref13_Same.l0 k x0 x1 (wrap64 (x5 + 1)))) else (none)) else (none)) else (some true)
def ambryref13_Same.f (k : Nat) (l0 : List (S34)) (l1 : List (S34)) : Option (Bool) := if (l0.length : Int) = (l1.length : Int) then (ambryref13_Same.l0 k l0 l1 0) else (some false)
theorem ambryref13_Same.mono_l : ∀ k, (∀ y0 y1 y2, LeO (ambryref13_Same.l0 k y0 y1 y2) (ambryref13_Same.l0 (k + 1) y0 y1 y2))
  | 0 => fun _ _ _ r h => by simp [ambryref13_Same.l0] at h
  | k + 1 => by
    have ih0 := ambryref13_Same.mono_l k
    · intro y0 y1 y2
      unfold ambryref13_Same.l0
      repeat' first
      | (with_reducible exact ih0 _ _ _)
      | (with_reducible exact LeO.refl _)
      | (with_reducible exact LeO.none _)
      | (with_reducible refine LeO.ite ?_ ?_)
      | (with_reducible refine LeO.bind ?_ (fun _ => ?_))
      | exact ih0 _ _ _
      | exact LeO.none _
      | refine LeO.ite ?_ ?_
      | refine LeO.bind ?_ (fun _ => ?_)
theorem ambryref13_Same.mono : ∀ a0 a1 k, LeO (ambryref13_Same.f k a0 a1) (ambryref13_Same.f (k + 1) a0 a1) := by
  intro a0 a1 k
  have ih0 := ambryref13_Same.mono_l k
  unfold ambryref13_Same.f
  repeat' first
      | (with_reducible exact ih0 _ _ _)
      | (with_reducible exact LeO.refl _)
      | (with_reducible exact LeO.none _)
      | (with_reducible refine LeO.ite ?_ ?_)
      | (with_reducible refine LeO.bind ?_ (fun _ => ?_))
      | exact ih0 _ _ _
      | exact LeO.none _
      | refine LeO.ite ?_ ?_
      | refine LeO.bind ?_ (fun _ => ?_)
set_option maxHeartbeats 8000000 in
set_option maxRecDepth 100000 in
theorem ambryref13_Same.calls (k : Nat) (A0 : Option Addr) (c0 : Nat) (l0 : List (S34)) (A1 : Option Addr) (c1 : Nat) (l1 : List (S34)) (r : Bool) (w : World) (hr0 : Kd.C k34 w A0 l0.length l0) (hc0 : l0.length ≤ c0) (hr1 : Kd.C k34 w A1 l1.length l1) (hc1 : l1.length ≤ c1) (h : ambryref13_Same.f k l0 l1 = some r) :
    Calls Try.prog 16 #[.slice A0 l0.length c0, .slice A1 l1.length c1] w fun e w' => e = .returned (.bool r) ∧ Drawn0 w w' := by
  have hu34 := Try.underlying34
  have HR0 := Aside0.mk hr0
  have HC0 := Aside0.mk hc0
  clear hr0 hc0
  have HR1 := Aside0.mk hr1
  have HC1 := Aside0.mk hc1
  clear hr1 hc1
  have H : (if (l0.length : Int) = (l1.length : Int) then (ambryref13_Same.l0 k l0 l1 0) else (some false)) = some r := h
  clear h
  by_cases c3 : (l0.length : Int) = (l1.length : Int)
  · rw [if_pos c3] at H
    have c3b0 : ((l0.length : Int) == (l1.length : Int)) = true := beq_iff_eq.mpr c3
    have c3b1 : ((l0.length : Int) != (l1.length : Int)) = false := bne_eq_false_iff_eq.mpr c3
    have c3b2 : (l0.length == l1.length) = true := by first | simpa using c3 | (simp at c3 ⊢; omega)
    clear c3
    have H' := Aside0.mk H
    clear H
    go_enter Try.func16, Try.ntmps16
    go_wp2
    repeat (go_quiet (fail); try go_wp2)
    go_loopg [5] k (fun kq v5 w' => ∃ (x5_1 : Int), v5 = .int .i64 x5_1 ∧ Aside0 (ambryref13_Same.l0 kq l0 l1 x5_1 = some r) ∧ Aside0 (kq ≤ k) ∧ Drawn0 w w')
    case atStart => exact ⟨(0), (by first | rfl | (simp; done) | (simp [*]; done)), H', ⟨Nat.le_refl _⟩, by repeat (first | exact Drawn0.refl _ | apply Drawn0.step)⟩
    case round =>
      clear H'
      try clear c1
      try clear p2
      try clear c3
      try clear c3b0
      try clear c3b1
      try clear c3b2
      obtain ⟨x5_1, rfl, HA, HK1, ⟨m1, rfl⟩⟩ := hrel
      cases gk with
      | zero => exact absurd HA.out (by simp [ambryref13_Same.l0])
      | succ k1 =>
        have H := HA.out
        clear HA
        simp only [ambryref13_Same.l0] at H
        by_cases c4 : x5_1 < (l0.length : Int)
        · rw [if_pos c4] at H
          have c4b0 : decide (x5_1 < (l0.length : Int)) = true := decide_eq_true c4
          clear c4
          by_cases c5 : 0 ≤ x5_1
          · rw [if_pos c5] at H
            have c5b0 : decide (0 ≤ x5_1) = true := decide_eq_true c5
            clear c5
            by_cases c6 : x5_1 < (l1.length : Int)
            · rw [if_pos c6] at H
              have c6b0 : decide (x5_1 < (l1.length : Int)) = true := decide_eq_true c6
              clear c6
              by_cases c7 : (!(((rd_T34 l0 x5_1).f0) == ((rd_T34 l1 x5_1).f0)) || (!((((rd_T34 l0 x5_1).f1).toList) == (((rd_T34 l1 x5_1).f1).toList)) || (!(((rd_T34 l0 x5_1).f2) == ((rd_T34 l1 x5_1).f2))))) = true
              · rw [if_pos c7] at H
                have c7b0 : (!(((rd_T34 l0 x5_1).f0) == ((rd_T34 l1 x5_1).f0)) || (!((((rd_T34 l0 x5_1).f1).toList) == (((rd_T34 l1 x5_1).f1).toList)) || (!(((rd_T34 l0 x5_1).f2) == ((rd_T34 l1 x5_1).f2))))) = true := c7
                clear c7
                obtain rfl := Option.some.inj H
                have p112 : 0 ≤ (x5_1 : Int) := of_decide_eq_true (by first | (with_reducible assumption) | assumption)
                have q112 : x5_1 < (l0.length : Int) := of_decide_eq_true (by first | (with_reducible assumption) | assumption)
                obtain ⟨ad112, e112, hx112_0, hx112_1, hx112_2⟩ := at_T34 HR0.out x5_1 p112 q112
                cases e112
                replace p112 := eq_true p112
                replace q112 := eq_true q112
                have p113 : 0 ≤ (x5_1 : Int) := of_decide_eq_true (by first | (with_reducible assumption) | assumption)
                have q113 : x5_1 < (l1.length : Int) := of_decide_eq_true (by first | (with_reducible assumption) | assumption)
                obtain ⟨ad113, e113, hx113_0, hx113_1, hx113_2⟩ := at_T34 HR1.out x5_1 p113 q113
                cases e113
                replace p113 := eq_true p113
                replace q113 := eq_true q113
                go_wp2
                repeat (go_quiet (fail); try go_wp2)
                go_ret
                exact ⟨by first | rfl | (simp; done) | (simp [*]; done), by repeat (first | exact Drawn0.refl _ | apply Drawn0.step)⟩
              · rw [if_neg c7] at H
                have c7b0 : (!(((rd_T34 l0 x5_1).f0) == ((rd_T34 l1 x5_1).f0)) || (!((((rd_T34 l0 x5_1).f1).toList) == (((rd_T34 l1 x5_1).f1).toList)) || (!(((rd_T34 l0 x5_1).f2) == ((rd_T34 l1 x5_1).f2))))) = false := by simpa using c7
                clear c7
                have H' := Aside0.mk H
                clear H
                have p112 : 0 ≤ (x5_1 : Int) := of_decide_eq_true (by first | (with_reducible assumption) | assumption)
                have q112 : x5_1 < (l0.length : Int) := of_decide_eq_true (by first | (with_reducible assumption) | assumption)
                obtain ⟨ad112, e112, hx112_0, hx112_1, hx112_2⟩ := at_T34 HR0.out x5_1 p112 q112
                cases e112
                replace p112 := eq_true p112
                replace q112 := eq_true q112
                have p113 : 0 ≤ (x5_1 : Int) := of_decide_eq_true (by first | (with_reducible assumption) | assumption)
                have q113 : x5_1 < (l1.length : Int) := of_decide_eq_true (by first | (with_reducible assumption) | assumption)
                obtain ⟨ad113, e113, hx113_0, hx113_1, hx113_2⟩ := at_T34 HR1.out x5_1 p113 q113
                cases e113
                replace p113 := eq_true p113
                replace q113 := eq_true q113
                go_wp2
                repeat (go_quiet (fail); try go_wp2)
                go_roundg k1
                case measure => have := HK1.out; omega
                case rel => exact ⟨(wrap64 (x5_1 + 1)), (by first | rfl | (simp; done) | (simp [*]; done)), H', ⟨by have := HK1.out; omega⟩, by repeat (first | exact Drawn0.refl _ | apply Drawn0.step)⟩
            · rw [if_neg c6] at H
              exact absurd H (by simp)
          · rw [if_neg c5] at H
            exact absurd H (by simp)
        · rw [if_neg c4] at H
          have c4b0 : decide (x5_1 < (l0.length : Int)) = false := decide_eq_false c4
          clear c4
          obtain rfl := Option.some.inj H
          go_wp2
          repeat (go_quiet (fail); try go_wp2)
          go_ret
          exact ⟨by first | rfl | (simp; done) | (simp [*]; done), by repeat (first | exact Drawn0.refl _ | apply Drawn0.step)⟩
  · rw [if_neg c3] at H
    have c3b0 : ((l0.length : Int) == (l1.length : Int)) = false := beq_eq_false_iff_ne.mpr c3
    have c3b1 : ((l0.length : Int) != (l1.length : Int)) = true := bne_iff_ne.mpr c3
    have c3b2 : (l0.length == l1.length) = false := by first | simpa using c3 | (simp at c3 ⊢; omega)
    obtain rfl := Option.some.inj H
    go_enter Try.func16, Try.ntmps16
    go_wp2
    repeat (go_quiet (fail); try go_wp2)
    go_ret
    exact ⟨by first | rfl | (simp; done) | (simp [*]; done), by repeat (first | exact Drawn0.refl _ | apply Drawn0.step)⟩

-- NOT PRINTED: function 32 (api_Version_32)

-- NOT PRINTED: function 28 (api_Version_28)

/-! ### chain_Add: function 18 (given) -/
def chain_Add.f (k : Nat) (l0 : List S34) (a1_0 : Int) (a1_1 : ByteArray) (a1_2 : Bool) : Option (List S34 × Int) :=
  if l0.length * 32 ≤ 140737488351232 then
    (chain_Check.f k l0).bind fun t => if t = 0 then
      (chain_right.f a1_0 a1_1 a1_2).bind fun u => if u = true then
        (if 0 < l0.length then (if a1_0 ≤ (rd_T34 l0 0).f0 then some ([], 18) else some ((⟨a1_0, a1_1, a1_2⟩ : S34) :: l0, 0)) else some ((⟨a1_0, a1_1, a1_2⟩ : S34) :: l0, 0))
        else some ([], 2)
      else some ([], 4)
  else none
theorem chain_Add.mono : ∀ a0 a1 a2 a3 k, LeO (chain_Add.f k a0 a1 a2 a3) (chain_Add.f (k + 1) a0 a1 a2 a3) := by
  intro a0 a1 a2 a3 k
  unfold chain_Add.f
  refine LeO.ite ?_ (LeO.none _)
  exact LeO.bind (chain_Check.mono a0 k) (fun _ => LeO.refl _)
namespace Cat
theorem zero34 (w : World) (base : Nat) : k34.M w base (fun _ => False) z34 (Value.agg #[(.int .i64 0), (.string ⟨#[]⟩), (.bool false)]).cells.toList := k34_mkM _ _ _ z34
set_option maxHeartbeats 2000000 in
theorem grow (n : Nat) (w : World) (h0 : 0 < n) (hn : n * 32 ≤ 140737488355328) :
    Calls Try.prog 32 #[.slice none 0 0, .int .i64 (n : Int)] w fun e w' => ∃ A c, e = .returned (.slice A 0 c) ∧ Kd.R k34 34 w' w.heap.size (fun _ => True) (.slice A 0 c) [] ∧ Below w.heap.size w w' := by
  go_enter Try.func32, Try.ntmps32
  go_wp2_with (first
    | ((with_reducible refine gate_builtin (b := .append) (xs := #[.tmp 20, .tmp 21]) rfl ?_); at_builtin; refine Kd.R_append_zeros k34 (w0 := w) w.heap.size rfl (.tmp 20) (.tmp 21) 22 3 34 (.agg #[(.int .i64 0), (.string ⟨#[]⟩), (.bool false)]) 32 rfl Try.underlying22 Try.underlying3 info34 rfl (by decide) (by omega) (.slice none 0 0) [] z34 (n : Int) (fun _ => True) rfl rfl (zero34 _ _) (fun _ _ => trivial) (Kd.R_nil _ _ _ _ _) (by omega) (Below.refl _ _) (Nat.le_refl _) (by simp; omega) ?_; intro v1 w1 ho hb hg hat; obtain ⟨A, c, rfl⟩ := Kd.R_slice ho; have HO := Aside0.mk (Kd.R_take (m := 0) ho (Nat.zero_le _)); have HB := Aside0.mk hb; have hle := (Kd.R_reads' ho).2.1; clear ho hb hg hat))
  go_ret
  exact ⟨A, c, rfl, HO.out, HB.out⟩
set_option maxHeartbeats 2000000 in
theorem two (g : Nat) (A1 : Option Addr) (n1 c1 : Nat) (A2 : Option Addr) (n2 c2 : Nat) (xs ys : List S34) (w : World) (hg : w.heap[g]? = some (.cells #[.slice A1 n1 c1, .slice A2 n2 c2] 22 (0, 0))) (hr1 : Kd.C k34 w A1 n1 xs) (hr2 : Kd.C k34 w A2 n2 ys) (h0 : 0 < n1) (hn : (n1 + n2) * 32 ≤ 140737488355328) :
    Calls Try.prog 28 #[.slice (some ⟨g, 0, none⟩) 2 2] w fun e w' => ∃ v : Value, e = .returned v ∧ Kd.R k34 34 w' w.heap.size (fun _ => True) v (xs ++ ys) ∧ Below w.heap.size w w' := by
  have HR1 := Aside0.mk hr1
  have HR2 := Aside0.mk hr2
  have HG := Aside0.mk hg
  have c0 := (blk_cell hg 0).trans rfl
  have c1' := (blk_cell hg 1).trans rfl
  have hx := Aside0.mk hr1.1
  have hy := Aside0.mk hr2.1
  clear hr1 hr2 hg
  go_enter Try.func28, Try.ntmps28
  go_wp2
  refine wp_loop_rounds 3 ?_
  rw [rounds_succ]
  go_wp2
  rw [rounds_succ]
  go_wp2
  rw [rounds_succ]
  go_wp2_with (first | (go_at_call 32; refine (grow (n1 + n2) w (by omega) hn).mono ?_; rintro e w1 ⟨A3, c3, rfl, ho, hb⟩; have HO := Aside0.mk ho; have HB := Aside0.mk hb; clear ho hb))
  have hlt : g < w.heap.size := (Array.getElem?_eq_some_iff.mp HG.out).1
  have e0 := (blk_cell ((HB.out.block g hlt).trans HG.out) 0).trans rfl
  have e1 := (blk_cell ((HB.out.block g hlt).trans HG.out) 1).trans rfl
  refine wp_loop_rounds 3 ?_
  rw [rounds_succ]
  go_wp2_with (first | ((with_reducible refine gate_builtin (b := .append) (xs := #[.tmp 31, .tmp 32]) rfl ?_); at_builtin; refine Kd.R_append_rows k34 (w0 := w) w.heap.size rfl (.tmp 31) (.tmp 32) 22 34 (.agg #[(.int .i64 0), (.string ⟨#[]⟩), (.bool false)]) 32 rfl Try.underlying22 info34 rfl (by decide) (by omega) (.slice A3 0 c3) ([]) (xs) _ _ _ (fun _ => True) (fun _ => False) rfl rfl HO.out (Kd.C_below HR1.out HB.out) (fun _ _ h => h) (fun _ h => h.elim) (fun _ _ => trivial) HB.out HB.out.size (by have := hx.out; have := hy.out; simp; omega) ?_; intro v2 w2 ho_2 hb_2 hg_2 hat_2; have HO2 := Aside0.mk ho_2; have HB2 := Aside0.mk hb_2; have d0 := (blk_cell ((hb_2.block g hlt).trans HG.out) 0).trans rfl; have d1 := (blk_cell ((hb_2.block g hlt).trans HG.out) 1).trans rfl; clear ho_2 hb_2 hg_2 hat_2))
  rw [List.nil_append] at HO2
  rw [rounds_succ]
  go_wp2_with (first | ((with_reducible refine gate_builtin (b := .append) (xs := #[.tmp 31, .tmp 32]) rfl ?_); at_builtin; refine Kd.R_append_rows k34 (w0 := w) w.heap.size rfl (.tmp 31) (.tmp 32) 22 34 (.agg #[(.int .i64 0), (.string ⟨#[]⟩), (.bool false)]) 32 rfl Try.underlying22 info34 rfl (by decide) (by omega) (v2) (xs) (ys) _ _ _ (fun _ => True) (fun _ => False) rfl rfl HO2.out (Kd.C_below HR2.out HB2.out) (fun _ _ h => h) (fun _ h => h.elim) (fun _ _ => trivial) HB2.out HB2.out.size (by have := hx.out; have := hy.out; simp; omega) ?_; intro v3 w3 ho_3 hb_3 hg_3 hat_3; have HO3 := Aside0.mk ho_3; have HB3 := Aside0.mk hb_3; clear ho_3 hb_3 hg_3 hat_3))
  rw [rounds_succ]
  go_wp2
  go_ret
  exact ⟨_, rfl, HO3.out, HB3.out⟩
end Cat
set_option maxHeartbeats 4000000 in
set_option maxRecDepth 100000 in
theorem chain_Add.bad1 (k : Nat) (A0 : Option Addr) (c0 : Nat) (l0 : List (S34)) (a1_0 : Int) (a1_1 : ByteArray) (a1_2 : Bool) (t : Int) (ht : t ≠ 0) (w : World) (hr0 : Kd.C k34 w A0 l0.length l0) (hc0 : l0.length ≤ c0) (hC : chain_Check.f k l0 = some t) :
    Calls Try.prog 18 #[.slice A0 l0.length c0, .agg #[.int .i64 a1_0, .string a1_1, .bool a1_2]] w fun e w' => ∃ v0_ : Value, e = .returned (.tuple #[v0_, .int .i64 4]) ∧ Kd.R k34 34 w' w.heap.size (fun _ => True) v0_ [] ∧ Below w.heap.size w w' := by
  have HR0 := Aside0.mk hr0
  have HC := Aside0.mk hC
  have h0' : (t != 0) = true := by simpa using ht
  clear hr0 hC ht
  go_enter Try.func18, Try.ntmps18
  go_wp2_with (first
    | ((with_reducible refine gate_dst (N := 3) rfl ?_); refine box_event ?hg (N := 3) ?hd (cs := #[.int .i64 a1_0, .string a1_1, .bool a1_2]) (t := 34) ?hr ?_; (case hd => rfl); (case hg => rfl); (case hr => first | (go_simp; done) | (go_simp; rfl)); intro gb hg w1 hbox hb; have BK := Aside0.mk hbox; have HB := Aside0.mk hb; have GE := Aside0.mk (show w.heap.size ≤ gb by rw [hg]; exact Nat.le_refl _); have HR1 := Aside0.mk (Kd.C_below HR0.out hb); clear hg hbox hb)
    | (go_at_call 11; refine (chain_Check.calls k A0 c0 l0 t w1 HR1.out hc0 HC.out).mono ?_; rintro e w2 ⟨rfl, hb2⟩; have HB2 := Aside0.mk (below_step HB.out hb2); have HR2 := Aside0.mk (Kd.C_below HR1.out hb2); have BK2 := Aside0.mk (blk_below (g := gb) (o := .cells #[.int .i64 a1_0, .string a1_1, .bool a1_2] 34 (0, 0)) BK.out hb2); clear hb2; have hcz2_0 : w2.cell? ⟨gb, 0, none⟩ = some (.int .i64 a1_0) := (blk_cell BK2.out 0).trans rfl; have hcz2_1 : w2.cell? ⟨gb, 1, none⟩ = some (.string a1_1) := (blk_cell BK2.out 1).trans rfl; have hcz2_2 : w2.cell? ⟨gb, 2, none⟩ = some (.bool a1_2) := (blk_cell BK2.out 2).trans rfl; have hfz2_0 := blk_frozen BK2.out 0; have hfz2_1 := blk_frozen BK2.out 1; have hfz2_2 := blk_frozen BK2.out 2)
    )
  go_ret2
  exact ⟨_, rfl, Kd.R_nil _ _ _ _ _, HB2.out⟩
set_option maxHeartbeats 4000000 in
set_option maxRecDepth 100000 in
theorem chain_Add.bad2 (k : Nat) (A0 : Option Addr) (c0 : Nat) (l0 : List (S34)) (a1_0 : Int) (a1_1 : ByteArray) (a1_2 : Bool) (w : World) (hr0 : Kd.C k34 w A0 l0.length l0) (hc0 : l0.length ≤ c0) (hC : chain_Check.f k l0 = some 0) (hT : chain_right.f a1_0 a1_1 a1_2 = some false) :
    Calls Try.prog 18 #[.slice A0 l0.length c0, .agg #[.int .i64 a1_0, .string a1_1, .bool a1_2]] w fun e w' => ∃ v0_ : Value, e = .returned (.tuple #[v0_, .int .i64 2]) ∧ Kd.R k34 34 w' w.heap.size (fun _ => True) v0_ [] ∧ Below w.heap.size w w' := by
  have HR0 := Aside0.mk hr0
  have HC := Aside0.mk hC
  have HT := Aside0.mk hT
  clear hr0 hC hT
  go_enter Try.func18, Try.ntmps18
  go_wp2_with (first
    | ((with_reducible refine gate_dst (N := 3) rfl ?_); refine box_event ?hg (N := 3) ?hd (cs := #[.int .i64 a1_0, .string a1_1, .bool a1_2]) (t := 34) ?hr ?_; (case hd => rfl); (case hg => rfl); (case hr => first | (go_simp; done) | (go_simp; rfl)); intro gb hg w1 hbox hb; have BK := Aside0.mk hbox; have HB := Aside0.mk hb; have GE := Aside0.mk (show w.heap.size ≤ gb by rw [hg]; exact Nat.le_refl _); have HR1 := Aside0.mk (Kd.C_below HR0.out hb); clear hg hbox hb)
    | (go_at_call 11; refine (chain_Check.calls k A0 c0 l0 0 w1 HR1.out hc0 HC.out).mono ?_; rintro e w2 ⟨rfl, hb2⟩; have HB2 := Aside0.mk (below_step HB.out hb2); have HR2 := Aside0.mk (Kd.C_below HR1.out hb2); have BK2 := Aside0.mk (blk_below (g := gb) (o := .cells #[.int .i64 a1_0, .string a1_1, .bool a1_2] 34 (0, 0)) BK.out hb2); clear hb2; have hcz2_0 : w2.cell? ⟨gb, 0, none⟩ = some (.int .i64 a1_0) := (blk_cell BK2.out 0).trans rfl; have hcz2_1 : w2.cell? ⟨gb, 1, none⟩ = some (.string a1_1) := (blk_cell BK2.out 1).trans rfl; have hcz2_2 : w2.cell? ⟨gb, 2, none⟩ = some (.bool a1_2) := (blk_cell BK2.out 2).trans rfl; have hfz2_0 := blk_frozen BK2.out 0; have hfz2_1 := blk_frozen BK2.out 1; have hfz2_2 := blk_frozen BK2.out 2)
    | (go_at_call 26; refine (chain_right.calls a1_0 a1_1 a1_2 false w2 HT.out).mono ?_; rintro e w3 ⟨rfl, hb3⟩; have HB3 := Aside0.mk (below_step HB2.out hb3); have HR3 := Aside0.mk (Kd.C_below HR2.out hb3); have BK3 := Aside0.mk (blk_below (g := gb) (o := .cells #[.int .i64 a1_0, .string a1_1, .bool a1_2] 34 (0, 0)) BK2.out hb3); clear hb3; have hcz3_0 : w3.cell? ⟨gb, 0, none⟩ = some (.int .i64 a1_0) := (blk_cell BK3.out 0).trans rfl; have hcz3_1 : w3.cell? ⟨gb, 1, none⟩ = some (.string a1_1) := (blk_cell BK3.out 1).trans rfl; have hcz3_2 : w3.cell? ⟨gb, 2, none⟩ = some (.bool a1_2) := (blk_cell BK3.out 2).trans rfl; have hfz3_0 := blk_frozen BK3.out 0; have hfz3_1 := blk_frozen BK3.out 1; have hfz3_2 := blk_frozen BK3.out 2; skip)
    )
  go_ret2
  exact ⟨_, rfl, Kd.R_nil _ _ _ _ _, HB3.out⟩
set_option maxHeartbeats 4000000 in
set_option maxRecDepth 100000 in
theorem chain_Add.bad3 (k : Nat) (A0 : Option Addr) (c0 : Nat) (l0 : List (S34)) (a1_0 : Int) (a1_1 : ByteArray) (a1_2 : Bool) (w : World) (hr0 : Kd.C k34 w A0 l0.length l0) (hc0 : l0.length ≤ c0) (hC : chain_Check.f k l0 = some 0) (hT : chain_right.f a1_0 a1_1 a1_2 = some true) (hl : 0 < l0.length) (hle : a1_0 ≤ (rd_T34 l0 0).f0) :
    Calls Try.prog 18 #[.slice A0 l0.length c0, .agg #[.int .i64 a1_0, .string a1_1, .bool a1_2]] w fun e w' => ∃ v0_ : Value, e = .returned (.tuple #[v0_, .int .i64 18]) ∧ Kd.R k34 34 w' w.heap.size (fun _ => True) v0_ [] ∧ Below w.heap.size w w' := by
  have HR0 := Aside0.mk hr0
  have HC := Aside0.mk hC
  have HT := Aside0.mk hT
  have c8b0 : decide (0 < (l0.length : Int)) = true := decide_eq_true (by omega)
  have qi : (0 < l0.length) = True := eq_true (by omega)
  have c8b1 : decide (0 < l0.length) = true := decide_eq_true (by omega)
  have c9b0 : decide (a1_0 ≤ (rd_T34 l0 0).f0) = true := decide_eq_true hle
  clear hr0 hC hT
  go_enter Try.func18, Try.ntmps18
  go_wp2_with (first
    | ((with_reducible refine gate_dst (N := 3) rfl ?_); refine box_event ?hg (N := 3) ?hd (cs := #[.int .i64 a1_0, .string a1_1, .bool a1_2]) (t := 34) ?hr ?_; (case hd => rfl); (case hg => rfl); (case hr => first | (go_simp; done) | (go_simp; rfl)); intro gb hg w1 hbox hb; have BK := Aside0.mk hbox; have HB := Aside0.mk hb; have GE := Aside0.mk (show w.heap.size ≤ gb by rw [hg]; exact Nat.le_refl _); have HR1 := Aside0.mk (Kd.C_below HR0.out hb); clear hg hbox hb)
    | (go_at_call 11; refine (chain_Check.calls k A0 c0 l0 0 w1 HR1.out hc0 HC.out).mono ?_; rintro e w2 ⟨rfl, hb2⟩; have HB2 := Aside0.mk (below_step HB.out hb2); have HR2 := Aside0.mk (Kd.C_below HR1.out hb2); have BK2 := Aside0.mk (blk_below (g := gb) (o := .cells #[.int .i64 a1_0, .string a1_1, .bool a1_2] 34 (0, 0)) BK.out hb2); clear hb2; have hcz2_0 : w2.cell? ⟨gb, 0, none⟩ = some (.int .i64 a1_0) := (blk_cell BK2.out 0).trans rfl; have hcz2_1 : w2.cell? ⟨gb, 1, none⟩ = some (.string a1_1) := (blk_cell BK2.out 1).trans rfl; have hcz2_2 : w2.cell? ⟨gb, 2, none⟩ = some (.bool a1_2) := (blk_cell BK2.out 2).trans rfl; have hfz2_0 := blk_frozen BK2.out 0; have hfz2_1 := blk_frozen BK2.out 1; have hfz2_2 := blk_frozen BK2.out 2)
    | (go_at_call 26; refine (chain_right.calls a1_0 a1_1 a1_2 true w2 HT.out).mono ?_; rintro e w3 ⟨rfl, hb3⟩; have HB3 := Aside0.mk (below_step HB2.out hb3); have HR3 := Aside0.mk (Kd.C_below HR2.out hb3); have BK3 := Aside0.mk (blk_below (g := gb) (o := .cells #[.int .i64 a1_0, .string a1_1, .bool a1_2] 34 (0, 0)) BK2.out hb3); clear hb3; have hcz3_0 : w3.cell? ⟨gb, 0, none⟩ = some (.int .i64 a1_0) := (blk_cell BK3.out 0).trans rfl; have hcz3_1 : w3.cell? ⟨gb, 1, none⟩ = some (.string a1_1) := (blk_cell BK3.out 1).trans rfl; have hcz3_2 : w3.cell? ⟨gb, 2, none⟩ = some (.bool a1_2) := (blk_cell BK3.out 2).trans rfl; have hfz3_0 := blk_frozen BK3.out 0; have hfz3_1 := blk_frozen BK3.out 1; have hfz3_2 := blk_frozen BK3.out 2; (obtain ⟨ad, rfl, hcd1, hcd2, hcd3⟩ := at_T34 HR3.out (0 : Int) (by omega) (by omega); (try rw [show ((0 : Int)).toNat = 0 from rfl] at hcd1); (try rw [show 0 * 3 = 0 from rfl] at hcd1); (try rw [Addr.add_zero'] at hcd1)))
    )
  go_quiet (first
    | ((with_reducible refine gate_dst (N := 3) rfl ?_); refine box_event ?hg (N := 3) ?hd (cs := #[.int .i64 a1_0, .string a1_1, .bool a1_2]) (t := 34) ?hr ?_; (case hd => rfl); (case hg => rfl); (case hr => first | (go_simp; done) | (go_simp; rfl)); intro gb hg w1 hbox hb; have BK := Aside0.mk hbox; have HB := Aside0.mk hb; have GE := Aside0.mk (show w.heap.size ≤ gb by rw [hg]; exact Nat.le_refl _); have HR1 := Aside0.mk (Kd.C_below HR0.out hb); clear hg hbox hb)
    | (go_at_call 11; refine (chain_Check.calls k A0 c0 l0 0 w1 HR1.out hc0 HC.out).mono ?_; rintro e w2 ⟨rfl, hb2⟩; have HB2 := Aside0.mk (below_step HB.out hb2); have HR2 := Aside0.mk (Kd.C_below HR1.out hb2); have BK2 := Aside0.mk (blk_below (g := gb) (o := .cells #[.int .i64 a1_0, .string a1_1, .bool a1_2] 34 (0, 0)) BK.out hb2); clear hb2; have hcz2_0 : w2.cell? ⟨gb, 0, none⟩ = some (.int .i64 a1_0) := (blk_cell BK2.out 0).trans rfl; have hcz2_1 : w2.cell? ⟨gb, 1, none⟩ = some (.string a1_1) := (blk_cell BK2.out 1).trans rfl; have hcz2_2 : w2.cell? ⟨gb, 2, none⟩ = some (.bool a1_2) := (blk_cell BK2.out 2).trans rfl; have hfz2_0 := blk_frozen BK2.out 0; have hfz2_1 := blk_frozen BK2.out 1; have hfz2_2 := blk_frozen BK2.out 2)
    | (go_at_call 26; refine (chain_right.calls a1_0 a1_1 a1_2 true w2 HT.out).mono ?_; rintro e w3 ⟨rfl, hb3⟩; have HB3 := Aside0.mk (below_step HB2.out hb3); have HR3 := Aside0.mk (Kd.C_below HR2.out hb3); have BK3 := Aside0.mk (blk_below (g := gb) (o := .cells #[.int .i64 a1_0, .string a1_1, .bool a1_2] 34 (0, 0)) BK2.out hb3); clear hb3; have hcz3_0 : w3.cell? ⟨gb, 0, none⟩ = some (.int .i64 a1_0) := (blk_cell BK3.out 0).trans rfl; have hcz3_1 : w3.cell? ⟨gb, 1, none⟩ = some (.string a1_1) := (blk_cell BK3.out 1).trans rfl; have hcz3_2 : w3.cell? ⟨gb, 2, none⟩ = some (.bool a1_2) := (blk_cell BK3.out 2).trans rfl; have hfz3_0 := blk_frozen BK3.out 0; have hfz3_1 := blk_frozen BK3.out 1; have hfz3_2 := blk_frozen BK3.out 2; (obtain ⟨ad, rfl, hcd1, hcd2, hcd3⟩ := at_T34 HR3.out (0 : Int) (by omega) (by omega); (try rw [show ((0 : Int)).toNat = 0 from rfl] at hcd1); (try rw [show 0 * 3 = 0 from rfl] at hcd1); (try rw [Addr.add_zero'] at hcd1)))
    )
  go_wp2_with (first
    | ((with_reducible refine gate_dst (N := 3) rfl ?_); refine box_event ?hg (N := 3) ?hd (cs := #[.int .i64 a1_0, .string a1_1, .bool a1_2]) (t := 34) ?hr ?_; (case hd => rfl); (case hg => rfl); (case hr => first | (go_simp; done) | (go_simp; rfl)); intro gb hg w1 hbox hb; have BK := Aside0.mk hbox; have HB := Aside0.mk hb; have GE := Aside0.mk (show w.heap.size ≤ gb by rw [hg]; exact Nat.le_refl _); have HR1 := Aside0.mk (Kd.C_below HR0.out hb); clear hg hbox hb)
    | (go_at_call 11; refine (chain_Check.calls k A0 c0 l0 0 w1 HR1.out hc0 HC.out).mono ?_; rintro e w2 ⟨rfl, hb2⟩; have HB2 := Aside0.mk (below_step HB.out hb2); have HR2 := Aside0.mk (Kd.C_below HR1.out hb2); have BK2 := Aside0.mk (blk_below (g := gb) (o := .cells #[.int .i64 a1_0, .string a1_1, .bool a1_2] 34 (0, 0)) BK.out hb2); clear hb2; have hcz2_0 : w2.cell? ⟨gb, 0, none⟩ = some (.int .i64 a1_0) := (blk_cell BK2.out 0).trans rfl; have hcz2_1 : w2.cell? ⟨gb, 1, none⟩ = some (.string a1_1) := (blk_cell BK2.out 1).trans rfl; have hcz2_2 : w2.cell? ⟨gb, 2, none⟩ = some (.bool a1_2) := (blk_cell BK2.out 2).trans rfl; have hfz2_0 := blk_frozen BK2.out 0; have hfz2_1 := blk_frozen BK2.out 1; have hfz2_2 := blk_frozen BK2.out 2)
    | (go_at_call 26; refine (chain_right.calls a1_0 a1_1 a1_2 true w2 HT.out).mono ?_; rintro e w3 ⟨rfl, hb3⟩; have HB3 := Aside0.mk (below_step HB2.out hb3); have HR3 := Aside0.mk (Kd.C_below HR2.out hb3); have BK3 := Aside0.mk (blk_below (g := gb) (o := .cells #[.int .i64 a1_0, .string a1_1, .bool a1_2] 34 (0, 0)) BK2.out hb3); clear hb3; have hcz3_0 : w3.cell? ⟨gb, 0, none⟩ = some (.int .i64 a1_0) := (blk_cell BK3.out 0).trans rfl; have hcz3_1 : w3.cell? ⟨gb, 1, none⟩ = some (.string a1_1) := (blk_cell BK3.out 1).trans rfl; have hcz3_2 : w3.cell? ⟨gb, 2, none⟩ = some (.bool a1_2) := (blk_cell BK3.out 2).trans rfl; have hfz3_0 := blk_frozen BK3.out 0; have hfz3_1 := blk_frozen BK3.out 1; have hfz3_2 := blk_frozen BK3.out 2; (obtain ⟨ad, rfl, hcd1, hcd2, hcd3⟩ := at_T34 HR3.out (0 : Int) (by omega) (by omega); (try rw [show ((0 : Int)).toNat = 0 from rfl] at hcd1); (try rw [show 0 * 3 = 0 from rfl] at hcd1); (try rw [Addr.add_zero'] at hcd1)))
    )
  go_ret2
  exact ⟨_, rfl, Kd.R_nil _ _ _ _ _, by repeat (first | (with_reducible first | exact HB3.out | apply below_alloc | apply pw_below_drewN | apply below_drew1) | exact HB3.out)⟩
set_option maxHeartbeats 4000000 in
set_option maxRecDepth 100000 in
theorem chain_Add.good1 (k : Nat) (A0 : Option Addr) (c0 : Nat) (l0 : List (S34)) (a1_0 : Int) (a1_1 : ByteArray) (a1_2 : Bool) (w : World) (hr0 : Kd.C k34 w A0 l0.length l0) (hc0 : l0.length ≤ c0) (hC : chain_Check.f k l0 = some 0) (hT : chain_right.f a1_0 a1_1 a1_2 = some true) (hl : l0.length = 0) (hz : (1 + l0.length) * 32 ≤ 140737488355328) :
    Calls Try.prog 18 #[.slice A0 l0.length c0, .agg #[.int .i64 a1_0, .string a1_1, .bool a1_2]] w fun e w' => ∃ v0_ : Value, e = .returned (.tuple #[v0_, .int .i64 0]) ∧ Kd.R k34 34 w' w.heap.size (fun _ => True) v0_ ((⟨a1_0, a1_1, a1_2⟩ : S34) :: l0) ∧ Below w.heap.size w w' := by
  have HR0 := Aside0.mk hr0
  have HC := Aside0.mk hC
  have HT := Aside0.mk hT
  have c8b1 : decide (0 < l0.length) = false := decide_eq_false (by omega)
  have c8b0 : decide (0 < (l0.length : Int)) = false := decide_eq_false (by omega)
  have HL := Aside0.mk hl
  clear hr0 hC hT hl
  go_enter Try.func18, Try.ntmps18
  go_wp2_with (first
    | ((with_reducible refine gate_dst (N := 3) rfl ?_); refine box_event ?hg (N := 3) ?hd (cs := #[.int .i64 a1_0, .string a1_1, .bool a1_2]) (t := 34) ?hr ?_; (case hd => rfl); (case hg => rfl); (case hr => first | (go_simp; done) | (go_simp; rfl)); intro gb hg w1 hbox hb; have BK := Aside0.mk hbox; have HB := Aside0.mk hb; have GE := Aside0.mk (show w.heap.size ≤ gb by rw [hg]; exact Nat.le_refl _); have HR1 := Aside0.mk (Kd.C_below HR0.out hb); clear hg hbox hb)
    | (go_at_call 11; refine (chain_Check.calls k A0 c0 l0 0 w1 HR1.out hc0 HC.out).mono ?_; rintro e w2 ⟨rfl, hb2⟩; have HB2 := Aside0.mk (below_step HB.out hb2); have HR2 := Aside0.mk (Kd.C_below HR1.out hb2); have BK2 := Aside0.mk (blk_below (g := gb) (o := .cells #[.int .i64 a1_0, .string a1_1, .bool a1_2] 34 (0, 0)) BK.out hb2); clear hb2; have hcz2_0 : w2.cell? ⟨gb, 0, none⟩ = some (.int .i64 a1_0) := (blk_cell BK2.out 0).trans rfl; have hcz2_1 : w2.cell? ⟨gb, 1, none⟩ = some (.string a1_1) := (blk_cell BK2.out 1).trans rfl; have hcz2_2 : w2.cell? ⟨gb, 2, none⟩ = some (.bool a1_2) := (blk_cell BK2.out 2).trans rfl; have hfz2_0 := blk_frozen BK2.out 0; have hfz2_1 := blk_frozen BK2.out 1; have hfz2_2 := blk_frozen BK2.out 2)
    | (go_at_call 26; refine (chain_right.calls a1_0 a1_1 a1_2 true w2 HT.out).mono ?_; rintro e w3 ⟨rfl, hb3⟩; have HB3 := Aside0.mk (below_step HB2.out hb3); have HR3 := Aside0.mk (Kd.C_below HR2.out hb3); have BK3 := Aside0.mk (blk_below (g := gb) (o := .cells #[.int .i64 a1_0, .string a1_1, .bool a1_2] 34 (0, 0)) BK2.out hb3); clear hb3; have hcz3_0 : w3.cell? ⟨gb, 0, none⟩ = some (.int .i64 a1_0) := (blk_cell BK3.out 0).trans rfl; have hcz3_1 : w3.cell? ⟨gb, 1, none⟩ = some (.string a1_1) := (blk_cell BK3.out 1).trans rfl; have hcz3_2 : w3.cell? ⟨gb, 2, none⟩ = some (.bool a1_2) := (blk_cell BK3.out 2).trans rfl; have hfz3_0 := blk_frozen BK3.out 0; have hfz3_1 := blk_frozen BK3.out 1; have hfz3_2 := blk_frozen BK3.out 2; skip)
    | ((with_reducible refine gate_dst (N := 28) rfl ?_); refine Kd.R_lit k34 _ 34 ?hg (N := 28) ?hd (xs := ([(⟨a1_0, a1_1, a1_2⟩ : S34)] : List (S34))) (inner := [.int .i64 a1_0, .string a1_1, .bool a1_2]) (ok := fun _ => True) (okp := fun _ => True) ?hr ?hp (fun _ hk => hk) trivial (Below.refl _ _) (Nat.le_refl _) (by simp) ?_; (case hd => rfl); (case hg => rfl); (case hr => first | (go_simp; done) | (go_simp; rfl)); (case hp => exact (Reps.c3 (show Kd.M k34 _ _ _ (⟨a1_0, a1_1, a1_2⟩ : S34) [.int .i64 a1_0, .string a1_1, .bool a1_2] from (k34_mkM _ _ _ (⟨a1_0, a1_1, a1_2⟩ : S34) )) (Reps.none _ _))); intro v4 w4 ho4 hb4 hg_ hnew_; clear hg_ hnew_; obtain ⟨A4, c4, rfl⟩ := Kd.R_slice ho4; have HO4 := Aside0.mk (Kd.R_reads' ho4); have HB4 := Aside0.mk (below_step (by repeat (first | (with_reducible first | exact HB3.out | apply below_alloc | apply pw_below_drewN | apply below_drew1) | exact HB3.out)) hb4); have HR4 := Aside0.mk (Kd.C_below HR0.out HB4.out); clear hb4 ho4)
    | (go_at_call 28; refine (Cat.two w4.heap.size A4 1 c4 A0 l0.length c0 [(⟨a1_0, a1_1, a1_2⟩ : S34)] l0 _ (show (w4.heap.push _)[w4.heap.size]? = _ from Array.getElem?_push_size) (Kd.C_alloc HO4.out.2.2 _) (Kd.C_alloc HR4.out _) (by omega) (by omega)).mono ?_; rintro e w5 ⟨v5, rfl, ho5, hb5⟩; have HB5 := Aside0.mk (below_step (below_alloc HB4.out _) hb5); have HO5 := Aside0.mk (Kd.R_lower ho5 (below_alloc HB4.out _).size); clear ho5 hb5)
    )
  go_quiet (first
    | ((with_reducible refine gate_dst (N := 3) rfl ?_); refine box_event ?hg (N := 3) ?hd (cs := #[.int .i64 a1_0, .string a1_1, .bool a1_2]) (t := 34) ?hr ?_; (case hd => rfl); (case hg => rfl); (case hr => first | (go_simp; done) | (go_simp; rfl)); intro gb hg w1 hbox hb; have BK := Aside0.mk hbox; have HB := Aside0.mk hb; have GE := Aside0.mk (show w.heap.size ≤ gb by rw [hg]; exact Nat.le_refl _); have HR1 := Aside0.mk (Kd.C_below HR0.out hb); clear hg hbox hb)
    | (go_at_call 11; refine (chain_Check.calls k A0 c0 l0 0 w1 HR1.out hc0 HC.out).mono ?_; rintro e w2 ⟨rfl, hb2⟩; have HB2 := Aside0.mk (below_step HB.out hb2); have HR2 := Aside0.mk (Kd.C_below HR1.out hb2); have BK2 := Aside0.mk (blk_below (g := gb) (o := .cells #[.int .i64 a1_0, .string a1_1, .bool a1_2] 34 (0, 0)) BK.out hb2); clear hb2; have hcz2_0 : w2.cell? ⟨gb, 0, none⟩ = some (.int .i64 a1_0) := (blk_cell BK2.out 0).trans rfl; have hcz2_1 : w2.cell? ⟨gb, 1, none⟩ = some (.string a1_1) := (blk_cell BK2.out 1).trans rfl; have hcz2_2 : w2.cell? ⟨gb, 2, none⟩ = some (.bool a1_2) := (blk_cell BK2.out 2).trans rfl; have hfz2_0 := blk_frozen BK2.out 0; have hfz2_1 := blk_frozen BK2.out 1; have hfz2_2 := blk_frozen BK2.out 2)
    | (go_at_call 26; refine (chain_right.calls a1_0 a1_1 a1_2 true w2 HT.out).mono ?_; rintro e w3 ⟨rfl, hb3⟩; have HB3 := Aside0.mk (below_step HB2.out hb3); have HR3 := Aside0.mk (Kd.C_below HR2.out hb3); have BK3 := Aside0.mk (blk_below (g := gb) (o := .cells #[.int .i64 a1_0, .string a1_1, .bool a1_2] 34 (0, 0)) BK2.out hb3); clear hb3; have hcz3_0 : w3.cell? ⟨gb, 0, none⟩ = some (.int .i64 a1_0) := (blk_cell BK3.out 0).trans rfl; have hcz3_1 : w3.cell? ⟨gb, 1, none⟩ = some (.string a1_1) := (blk_cell BK3.out 1).trans rfl; have hcz3_2 : w3.cell? ⟨gb, 2, none⟩ = some (.bool a1_2) := (blk_cell BK3.out 2).trans rfl; have hfz3_0 := blk_frozen BK3.out 0; have hfz3_1 := blk_frozen BK3.out 1; have hfz3_2 := blk_frozen BK3.out 2; skip)
    | ((with_reducible refine gate_dst (N := 28) rfl ?_); refine Kd.R_lit k34 _ 34 ?hg (N := 28) ?hd (xs := ([(⟨a1_0, a1_1, a1_2⟩ : S34)] : List (S34))) (inner := [.int .i64 a1_0, .string a1_1, .bool a1_2]) (ok := fun _ => True) (okp := fun _ => True) ?hr ?hp (fun _ hk => hk) trivial (Below.refl _ _) (Nat.le_refl _) (by simp) ?_; (case hd => rfl); (case hg => rfl); (case hr => first | (go_simp; done) | (go_simp; rfl)); (case hp => exact (Reps.c3 (show Kd.M k34 _ _ _ (⟨a1_0, a1_1, a1_2⟩ : S34) [.int .i64 a1_0, .string a1_1, .bool a1_2] from (k34_mkM _ _ _ (⟨a1_0, a1_1, a1_2⟩ : S34) )) (Reps.none _ _))); intro v4 w4 ho4 hb4 hg_ hnew_; clear hg_ hnew_; obtain ⟨A4, c4, rfl⟩ := Kd.R_slice ho4; have HO4 := Aside0.mk (Kd.R_reads' ho4); have HB4 := Aside0.mk (below_step (by repeat (first | (with_reducible first | exact HB3.out | apply below_alloc | apply pw_below_drewN | apply below_drew1) | exact HB3.out)) hb4); have HR4 := Aside0.mk (Kd.C_below HR0.out HB4.out); clear hb4 ho4)
    | (go_at_call 28; refine (Cat.two w4.heap.size A4 1 c4 A0 l0.length c0 [(⟨a1_0, a1_1, a1_2⟩ : S34)] l0 _ (show (w4.heap.push _)[w4.heap.size]? = _ from Array.getElem?_push_size) (Kd.C_alloc HO4.out.2.2 _) (Kd.C_alloc HR4.out _) (by omega) (by omega)).mono ?_; rintro e w5 ⟨v5, rfl, ho5, hb5⟩; have HB5 := Aside0.mk (below_step (below_alloc HB4.out _) hb5); have HO5 := Aside0.mk (Kd.R_lower ho5 (below_alloc HB4.out _).size); clear ho5 hb5)
    )
  go_wp2_with (first
    | ((with_reducible refine gate_dst (N := 3) rfl ?_); refine box_event ?hg (N := 3) ?hd (cs := #[.int .i64 a1_0, .string a1_1, .bool a1_2]) (t := 34) ?hr ?_; (case hd => rfl); (case hg => rfl); (case hr => first | (go_simp; done) | (go_simp; rfl)); intro gb hg w1 hbox hb; have BK := Aside0.mk hbox; have HB := Aside0.mk hb; have GE := Aside0.mk (show w.heap.size ≤ gb by rw [hg]; exact Nat.le_refl _); have HR1 := Aside0.mk (Kd.C_below HR0.out hb); clear hg hbox hb)
    | (go_at_call 11; refine (chain_Check.calls k A0 c0 l0 0 w1 HR1.out hc0 HC.out).mono ?_; rintro e w2 ⟨rfl, hb2⟩; have HB2 := Aside0.mk (below_step HB.out hb2); have HR2 := Aside0.mk (Kd.C_below HR1.out hb2); have BK2 := Aside0.mk (blk_below (g := gb) (o := .cells #[.int .i64 a1_0, .string a1_1, .bool a1_2] 34 (0, 0)) BK.out hb2); clear hb2; have hcz2_0 : w2.cell? ⟨gb, 0, none⟩ = some (.int .i64 a1_0) := (blk_cell BK2.out 0).trans rfl; have hcz2_1 : w2.cell? ⟨gb, 1, none⟩ = some (.string a1_1) := (blk_cell BK2.out 1).trans rfl; have hcz2_2 : w2.cell? ⟨gb, 2, none⟩ = some (.bool a1_2) := (blk_cell BK2.out 2).trans rfl; have hfz2_0 := blk_frozen BK2.out 0; have hfz2_1 := blk_frozen BK2.out 1; have hfz2_2 := blk_frozen BK2.out 2)
    | (go_at_call 26; refine (chain_right.calls a1_0 a1_1 a1_2 true w2 HT.out).mono ?_; rintro e w3 ⟨rfl, hb3⟩; have HB3 := Aside0.mk (below_step HB2.out hb3); have HR3 := Aside0.mk (Kd.C_below HR2.out hb3); have BK3 := Aside0.mk (blk_below (g := gb) (o := .cells #[.int .i64 a1_0, .string a1_1, .bool a1_2] 34 (0, 0)) BK2.out hb3); clear hb3; have hcz3_0 : w3.cell? ⟨gb, 0, none⟩ = some (.int .i64 a1_0) := (blk_cell BK3.out 0).trans rfl; have hcz3_1 : w3.cell? ⟨gb, 1, none⟩ = some (.string a1_1) := (blk_cell BK3.out 1).trans rfl; have hcz3_2 : w3.cell? ⟨gb, 2, none⟩ = some (.bool a1_2) := (blk_cell BK3.out 2).trans rfl; have hfz3_0 := blk_frozen BK3.out 0; have hfz3_1 := blk_frozen BK3.out 1; have hfz3_2 := blk_frozen BK3.out 2; skip)
    | ((with_reducible refine gate_dst (N := 28) rfl ?_); refine Kd.R_lit k34 _ 34 ?hg (N := 28) ?hd (xs := ([(⟨a1_0, a1_1, a1_2⟩ : S34)] : List (S34))) (inner := [.int .i64 a1_0, .string a1_1, .bool a1_2]) (ok := fun _ => True) (okp := fun _ => True) ?hr ?hp (fun _ hk => hk) trivial (Below.refl _ _) (Nat.le_refl _) (by simp) ?_; (case hd => rfl); (case hg => rfl); (case hr => first | (go_simp; done) | (go_simp; rfl)); (case hp => exact (Reps.c3 (show Kd.M k34 _ _ _ (⟨a1_0, a1_1, a1_2⟩ : S34) [.int .i64 a1_0, .string a1_1, .bool a1_2] from (k34_mkM _ _ _ (⟨a1_0, a1_1, a1_2⟩ : S34) )) (Reps.none _ _))); intro v4 w4 ho4 hb4 hg_ hnew_; clear hg_ hnew_; obtain ⟨A4, c4, rfl⟩ := Kd.R_slice ho4; have HO4 := Aside0.mk (Kd.R_reads' ho4); have HB4 := Aside0.mk (below_step (by repeat (first | (with_reducible first | exact HB3.out | apply below_alloc | apply pw_below_drewN | apply below_drew1) | exact HB3.out)) hb4); have HR4 := Aside0.mk (Kd.C_below HR0.out HB4.out); clear hb4 ho4)
    | (go_at_call 28; refine (Cat.two w4.heap.size A4 1 c4 A0 l0.length c0 [(⟨a1_0, a1_1, a1_2⟩ : S34)] l0 _ (show (w4.heap.push _)[w4.heap.size]? = _ from Array.getElem?_push_size) (Kd.C_alloc HO4.out.2.2 _) (Kd.C_alloc HR4.out _) (by omega) (by omega)).mono ?_; rintro e w5 ⟨v5, rfl, ho5, hb5⟩; have HB5 := Aside0.mk (below_step (below_alloc HB4.out _) hb5); have HO5 := Aside0.mk (Kd.R_lower ho5 (below_alloc HB4.out _).size); clear ho5 hb5)
    )
  go_ret2
  exact ⟨_, rfl, HO5.out, HB5.out⟩
set_option maxHeartbeats 4000000 in
set_option maxRecDepth 100000 in
theorem chain_Add.good2 (k : Nat) (A0 : Option Addr) (c0 : Nat) (l0 : List (S34)) (a1_0 : Int) (a1_1 : ByteArray) (a1_2 : Bool) (w : World) (hr0 : Kd.C k34 w A0 l0.length l0) (hc0 : l0.length ≤ c0) (hC : chain_Check.f k l0 = some 0) (hT : chain_right.f a1_0 a1_1 a1_2 = some true) (hl : 0 < l0.length) (hle : ¬ a1_0 ≤ (rd_T34 l0 0).f0) (hz : (1 + l0.length) * 32 ≤ 140737488355328) :
    Calls Try.prog 18 #[.slice A0 l0.length c0, .agg #[.int .i64 a1_0, .string a1_1, .bool a1_2]] w fun e w' => ∃ v0_ : Value, e = .returned (.tuple #[v0_, .int .i64 0]) ∧ Kd.R k34 34 w' w.heap.size (fun _ => True) v0_ ((⟨a1_0, a1_1, a1_2⟩ : S34) :: l0) ∧ Below w.heap.size w w' := by
  have HR0 := Aside0.mk hr0
  have HC := Aside0.mk hC
  have HT := Aside0.mk hT
  have qi : (0 < l0.length) = True := eq_true (by omega)
  have c8b1 : decide (0 < l0.length) = true := decide_eq_true (by omega)
  have c8b0 : decide (0 < (l0.length : Int)) = true := decide_eq_true (by omega)
  have c9b0 : decide (a1_0 ≤ (rd_T34 l0 0).f0) = false := decide_eq_false hle
  clear hr0 hC hT
  go_enter Try.func18, Try.ntmps18
  go_wp2_with (first
    | ((with_reducible refine gate_dst (N := 3) rfl ?_); refine box_event ?hg (N := 3) ?hd (cs := #[.int .i64 a1_0, .string a1_1, .bool a1_2]) (t := 34) ?hr ?_; (case hd => rfl); (case hg => rfl); (case hr => first | (go_simp; done) | (go_simp; rfl)); intro gb hg w1 hbox hb; have BK := Aside0.mk hbox; have HB := Aside0.mk hb; have GE := Aside0.mk (show w.heap.size ≤ gb by rw [hg]; exact Nat.le_refl _); have HR1 := Aside0.mk (Kd.C_below HR0.out hb); clear hg hbox hb)
    | (go_at_call 11; refine (chain_Check.calls k A0 c0 l0 0 w1 HR1.out hc0 HC.out).mono ?_; rintro e w2 ⟨rfl, hb2⟩; have HB2 := Aside0.mk (below_step HB.out hb2); have HR2 := Aside0.mk (Kd.C_below HR1.out hb2); have BK2 := Aside0.mk (blk_below (g := gb) (o := .cells #[.int .i64 a1_0, .string a1_1, .bool a1_2] 34 (0, 0)) BK.out hb2); clear hb2; have hcz2_0 : w2.cell? ⟨gb, 0, none⟩ = some (.int .i64 a1_0) := (blk_cell BK2.out 0).trans rfl; have hcz2_1 : w2.cell? ⟨gb, 1, none⟩ = some (.string a1_1) := (blk_cell BK2.out 1).trans rfl; have hcz2_2 : w2.cell? ⟨gb, 2, none⟩ = some (.bool a1_2) := (blk_cell BK2.out 2).trans rfl; have hfz2_0 := blk_frozen BK2.out 0; have hfz2_1 := blk_frozen BK2.out 1; have hfz2_2 := blk_frozen BK2.out 2)
    | (go_at_call 26; refine (chain_right.calls a1_0 a1_1 a1_2 true w2 HT.out).mono ?_; rintro e w3 ⟨rfl, hb3⟩; have HB3 := Aside0.mk (below_step HB2.out hb3); have HR3 := Aside0.mk (Kd.C_below HR2.out hb3); have BK3 := Aside0.mk (blk_below (g := gb) (o := .cells #[.int .i64 a1_0, .string a1_1, .bool a1_2] 34 (0, 0)) BK2.out hb3); clear hb3; have hcz3_0 : w3.cell? ⟨gb, 0, none⟩ = some (.int .i64 a1_0) := (blk_cell BK3.out 0).trans rfl; have hcz3_1 : w3.cell? ⟨gb, 1, none⟩ = some (.string a1_1) := (blk_cell BK3.out 1).trans rfl; have hcz3_2 : w3.cell? ⟨gb, 2, none⟩ = some (.bool a1_2) := (blk_cell BK3.out 2).trans rfl; have hfz3_0 := blk_frozen BK3.out 0; have hfz3_1 := blk_frozen BK3.out 1; have hfz3_2 := blk_frozen BK3.out 2; (obtain ⟨ad, rfl, hcd1, hcd2, hcd3⟩ := at_T34 HR3.out (0 : Int) (by omega) (by omega); (try rw [show ((0 : Int)).toNat = 0 from rfl] at hcd1); (try rw [show 0 * 3 = 0 from rfl] at hcd1); (try rw [Addr.add_zero'] at hcd1)))
    | ((with_reducible refine gate_dst (N := 28) rfl ?_); refine Kd.R_lit k34 _ 34 ?hg (N := 28) ?hd (xs := ([(⟨a1_0, a1_1, a1_2⟩ : S34)] : List (S34))) (inner := [.int .i64 a1_0, .string a1_1, .bool a1_2]) (ok := fun _ => True) (okp := fun _ => True) ?hr ?hp (fun _ hk => hk) trivial (Below.refl _ _) (Nat.le_refl _) (by simp) ?_; (case hd => rfl); (case hg => rfl); (case hr => first | (go_simp; done) | (go_simp; rfl)); (case hp => exact (Reps.c3 (show Kd.M k34 _ _ _ (⟨a1_0, a1_1, a1_2⟩ : S34) [.int .i64 a1_0, .string a1_1, .bool a1_2] from (k34_mkM _ _ _ (⟨a1_0, a1_1, a1_2⟩ : S34) )) (Reps.none _ _))); intro v4 w4 ho4 hb4 hg_ hnew_; clear hg_ hnew_; obtain ⟨A4, c4, rfl⟩ := Kd.R_slice ho4; have HO4 := Aside0.mk (Kd.R_reads' ho4); have HB4 := Aside0.mk (below_step (by repeat (first | (with_reducible first | exact HB3.out | apply below_alloc | apply pw_below_drewN | apply below_drew1) | exact HB3.out)) hb4); have HR4 := Aside0.mk (Kd.C_below HR0.out HB4.out); clear hb4 ho4)
    | (go_at_call 28; refine (Cat.two w4.heap.size A4 1 c4 (some ad) l0.length c0 [(⟨a1_0, a1_1, a1_2⟩ : S34)] l0 _ (show (w4.heap.push _)[w4.heap.size]? = _ from Array.getElem?_push_size) (Kd.C_alloc HO4.out.2.2 _) (Kd.C_alloc HR4.out _) (by omega) (by omega)).mono ?_; rintro e w5 ⟨v5, rfl, ho5, hb5⟩; have HB5 := Aside0.mk (below_step (below_alloc HB4.out _) hb5); have HO5 := Aside0.mk (Kd.R_lower ho5 (below_alloc HB4.out _).size); clear ho5 hb5)
    )
  go_quiet (first
    | ((with_reducible refine gate_dst (N := 3) rfl ?_); refine box_event ?hg (N := 3) ?hd (cs := #[.int .i64 a1_0, .string a1_1, .bool a1_2]) (t := 34) ?hr ?_; (case hd => rfl); (case hg => rfl); (case hr => first | (go_simp; done) | (go_simp; rfl)); intro gb hg w1 hbox hb; have BK := Aside0.mk hbox; have HB := Aside0.mk hb; have GE := Aside0.mk (show w.heap.size ≤ gb by rw [hg]; exact Nat.le_refl _); have HR1 := Aside0.mk (Kd.C_below HR0.out hb); clear hg hbox hb)
    | (go_at_call 11; refine (chain_Check.calls k A0 c0 l0 0 w1 HR1.out hc0 HC.out).mono ?_; rintro e w2 ⟨rfl, hb2⟩; have HB2 := Aside0.mk (below_step HB.out hb2); have HR2 := Aside0.mk (Kd.C_below HR1.out hb2); have BK2 := Aside0.mk (blk_below (g := gb) (o := .cells #[.int .i64 a1_0, .string a1_1, .bool a1_2] 34 (0, 0)) BK.out hb2); clear hb2; have hcz2_0 : w2.cell? ⟨gb, 0, none⟩ = some (.int .i64 a1_0) := (blk_cell BK2.out 0).trans rfl; have hcz2_1 : w2.cell? ⟨gb, 1, none⟩ = some (.string a1_1) := (blk_cell BK2.out 1).trans rfl; have hcz2_2 : w2.cell? ⟨gb, 2, none⟩ = some (.bool a1_2) := (blk_cell BK2.out 2).trans rfl; have hfz2_0 := blk_frozen BK2.out 0; have hfz2_1 := blk_frozen BK2.out 1; have hfz2_2 := blk_frozen BK2.out 2)
    | (go_at_call 26; refine (chain_right.calls a1_0 a1_1 a1_2 true w2 HT.out).mono ?_; rintro e w3 ⟨rfl, hb3⟩; have HB3 := Aside0.mk (below_step HB2.out hb3); have HR3 := Aside0.mk (Kd.C_below HR2.out hb3); have BK3 := Aside0.mk (blk_below (g := gb) (o := .cells #[.int .i64 a1_0, .string a1_1, .bool a1_2] 34 (0, 0)) BK2.out hb3); clear hb3; have hcz3_0 : w3.cell? ⟨gb, 0, none⟩ = some (.int .i64 a1_0) := (blk_cell BK3.out 0).trans rfl; have hcz3_1 : w3.cell? ⟨gb, 1, none⟩ = some (.string a1_1) := (blk_cell BK3.out 1).trans rfl; have hcz3_2 : w3.cell? ⟨gb, 2, none⟩ = some (.bool a1_2) := (blk_cell BK3.out 2).trans rfl; have hfz3_0 := blk_frozen BK3.out 0; have hfz3_1 := blk_frozen BK3.out 1; have hfz3_2 := blk_frozen BK3.out 2; (obtain ⟨ad, rfl, hcd1, hcd2, hcd3⟩ := at_T34 HR3.out (0 : Int) (by omega) (by omega); (try rw [show ((0 : Int)).toNat = 0 from rfl] at hcd1); (try rw [show 0 * 3 = 0 from rfl] at hcd1); (try rw [Addr.add_zero'] at hcd1)))
    | ((with_reducible refine gate_dst (N := 28) rfl ?_); refine Kd.R_lit k34 _ 34 ?hg (N := 28) ?hd (xs := ([(⟨a1_0, a1_1, a1_2⟩ : S34)] : List (S34))) (inner := [.int .i64 a1_0, .string a1_1, .bool a1_2]) (ok := fun _ => True) (okp := fun _ => True) ?hr ?hp (fun _ hk => hk) trivial (Below.refl _ _) (Nat.le_refl _) (by simp) ?_; (case hd => rfl); (case hg => rfl); (case hr => first | (go_simp; done) | (go_simp; rfl)); (case hp => exact (Reps.c3 (show Kd.M k34 _ _ _ (⟨a1_0, a1_1, a1_2⟩ : S34) [.int .i64 a1_0, .string a1_1, .bool a1_2] from (k34_mkM _ _ _ (⟨a1_0, a1_1, a1_2⟩ : S34) )) (Reps.none _ _))); intro v4 w4 ho4 hb4 hg_ hnew_; clear hg_ hnew_; obtain ⟨A4, c4, rfl⟩ := Kd.R_slice ho4; have HO4 := Aside0.mk (Kd.R_reads' ho4); have HB4 := Aside0.mk (below_step (by repeat (first | (with_reducible first | exact HB3.out | apply below_alloc | apply pw_below_drewN | apply below_drew1) | exact HB3.out)) hb4); have HR4 := Aside0.mk (Kd.C_below HR0.out HB4.out); clear hb4 ho4)
    | (go_at_call 28; refine (Cat.two w4.heap.size A4 1 c4 (some ad) l0.length c0 [(⟨a1_0, a1_1, a1_2⟩ : S34)] l0 _ (show (w4.heap.push _)[w4.heap.size]? = _ from Array.getElem?_push_size) (Kd.C_alloc HO4.out.2.2 _) (Kd.C_alloc HR4.out _) (by omega) (by omega)).mono ?_; rintro e w5 ⟨v5, rfl, ho5, hb5⟩; have HB5 := Aside0.mk (below_step (below_alloc HB4.out _) hb5); have HO5 := Aside0.mk (Kd.R_lower ho5 (below_alloc HB4.out _).size); clear ho5 hb5)
    )
  go_wp2_with (first
    | ((with_reducible refine gate_dst (N := 3) rfl ?_); refine box_event ?hg (N := 3) ?hd (cs := #[.int .i64 a1_0, .string a1_1, .bool a1_2]) (t := 34) ?hr ?_; (case hd => rfl); (case hg => rfl); (case hr => first | (go_simp; done) | (go_simp; rfl)); intro gb hg w1 hbox hb; have BK := Aside0.mk hbox; have HB := Aside0.mk hb; have GE := Aside0.mk (show w.heap.size ≤ gb by rw [hg]; exact Nat.le_refl _); have HR1 := Aside0.mk (Kd.C_below HR0.out hb); clear hg hbox hb)
    | (go_at_call 11; refine (chain_Check.calls k A0 c0 l0 0 w1 HR1.out hc0 HC.out).mono ?_; rintro e w2 ⟨rfl, hb2⟩; have HB2 := Aside0.mk (below_step HB.out hb2); have HR2 := Aside0.mk (Kd.C_below HR1.out hb2); have BK2 := Aside0.mk (blk_below (g := gb) (o := .cells #[.int .i64 a1_0, .string a1_1, .bool a1_2] 34 (0, 0)) BK.out hb2); clear hb2; have hcz2_0 : w2.cell? ⟨gb, 0, none⟩ = some (.int .i64 a1_0) := (blk_cell BK2.out 0).trans rfl; have hcz2_1 : w2.cell? ⟨gb, 1, none⟩ = some (.string a1_1) := (blk_cell BK2.out 1).trans rfl; have hcz2_2 : w2.cell? ⟨gb, 2, none⟩ = some (.bool a1_2) := (blk_cell BK2.out 2).trans rfl; have hfz2_0 := blk_frozen BK2.out 0; have hfz2_1 := blk_frozen BK2.out 1; have hfz2_2 := blk_frozen BK2.out 2)
    | (go_at_call 26; refine (chain_right.calls a1_0 a1_1 a1_2 true w2 HT.out).mono ?_; rintro e w3 ⟨rfl, hb3⟩; have HB3 := Aside0.mk (below_step HB2.out hb3); have HR3 := Aside0.mk (Kd.C_below HR2.out hb3); have BK3 := Aside0.mk (blk_below (g := gb) (o := .cells #[.int .i64 a1_0, .string a1_1, .bool a1_2] 34 (0, 0)) BK2.out hb3); clear hb3; have hcz3_0 : w3.cell? ⟨gb, 0, none⟩ = some (.int .i64 a1_0) := (blk_cell BK3.out 0).trans rfl; have hcz3_1 : w3.cell? ⟨gb, 1, none⟩ = some (.string a1_1) := (blk_cell BK3.out 1).trans rfl; have hcz3_2 : w3.cell? ⟨gb, 2, none⟩ = some (.bool a1_2) := (blk_cell BK3.out 2).trans rfl; have hfz3_0 := blk_frozen BK3.out 0; have hfz3_1 := blk_frozen BK3.out 1; have hfz3_2 := blk_frozen BK3.out 2; (obtain ⟨ad, rfl, hcd1, hcd2, hcd3⟩ := at_T34 HR3.out (0 : Int) (by omega) (by omega); (try rw [show ((0 : Int)).toNat = 0 from rfl] at hcd1); (try rw [show 0 * 3 = 0 from rfl] at hcd1); (try rw [Addr.add_zero'] at hcd1)))
    | ((with_reducible refine gate_dst (N := 28) rfl ?_); refine Kd.R_lit k34 _ 34 ?hg (N := 28) ?hd (xs := ([(⟨a1_0, a1_1, a1_2⟩ : S34)] : List (S34))) (inner := [.int .i64 a1_0, .string a1_1, .bool a1_2]) (ok := fun _ => True) (okp := fun _ => True) ?hr ?hp (fun _ hk => hk) trivial (Below.refl _ _) (Nat.le_refl _) (by simp) ?_; (case hd => rfl); (case hg => rfl); (case hr => first | (go_simp; done) | (go_simp; rfl)); (case hp => exact (Reps.c3 (show Kd.M k34 _ _ _ (⟨a1_0, a1_1, a1_2⟩ : S34) [.int .i64 a1_0, .string a1_1, .bool a1_2] from (k34_mkM _ _ _ (⟨a1_0, a1_1, a1_2⟩ : S34) )) (Reps.none _ _))); intro v4 w4 ho4 hb4 hg_ hnew_; clear hg_ hnew_; obtain ⟨A4, c4, rfl⟩ := Kd.R_slice ho4; have HO4 := Aside0.mk (Kd.R_reads' ho4); have HB4 := Aside0.mk (below_step (by repeat (first | (with_reducible first | exact HB3.out | apply below_alloc | apply pw_below_drewN | apply below_drew1) | exact HB3.out)) hb4); have HR4 := Aside0.mk (Kd.C_below HR0.out HB4.out); clear hb4 ho4)
    | (go_at_call 28; refine (Cat.two w4.heap.size A4 1 c4 (some ad) l0.length c0 [(⟨a1_0, a1_1, a1_2⟩ : S34)] l0 _ (show (w4.heap.push _)[w4.heap.size]? = _ from Array.getElem?_push_size) (Kd.C_alloc HO4.out.2.2 _) (Kd.C_alloc HR4.out _) (by omega) (by omega)).mono ?_; rintro e w5 ⟨v5, rfl, ho5, hb5⟩; have HB5 := Aside0.mk (below_step (below_alloc HB4.out _) hb5); have HO5 := Aside0.mk (Kd.R_lower ho5 (below_alloc HB4.out _).size); clear ho5 hb5)
    )
  go_ret2
  exact ⟨_, rfl, HO5.out, HB5.out⟩
theorem chain_Add.calls (k : Nat) (A0 : Option Addr) (c0 : Nat) (l0 : List (S34)) (a1_0 : Int) (a1_1 : ByteArray) (a1_2 : Bool) (r1 : List (S34)) (r2 : Int) (w : World) (hr0 : Kd.C k34 w A0 l0.length l0) (hc0 : l0.length ≤ c0) (h : chain_Add.f k l0 a1_0 a1_1 a1_2 = some (r1, r2)) :
    Calls Try.prog 18 #[.slice A0 l0.length c0, .agg #[.int .i64 a1_0, .string a1_1, .bool a1_2]] w fun e w' => ∃ v0_ : Value, e = .returned (.tuple #[v0_, .int .i64 r2]) ∧ Kd.R k34 34 w' w.heap.size (fun _ => True) v0_ r1 ∧ Below w.heap.size w w' := by
  unfold chain_Add.f at h
  by_cases hl : l0.length * 32 ≤ 140737488351232
  · rw [if_pos hl] at h
    obtain ⟨t, ht, h⟩ := Option.bind_eq_some_iff.mp h
    by_cases h0 : t = 0
    · subst h0
      rw [if_pos rfl] at h
      obtain ⟨u, hu, h⟩ := Option.bind_eq_some_iff.mp h
      cases u
      · rw [if_neg (by decide)] at h
        cases h
        exact chain_Add.bad2 k A0 c0 l0 a1_0 a1_1 a1_2 w hr0 hc0 ht hu
      · rw [if_pos rfl] at h
        by_cases hp : 0 < l0.length
        · rw [if_pos hp] at h
          by_cases hle : a1_0 ≤ (rd_T34 l0 0).f0
          · rw [if_pos hle] at h
            cases h
            exact chain_Add.bad3 k A0 c0 l0 a1_0 a1_1 a1_2 w hr0 hc0 ht hu hp hle
          · rw [if_neg hle] at h
            cases h
            exact chain_Add.good2 k A0 c0 l0 a1_0 a1_1 a1_2 w hr0 hc0 ht hu hp hle (by omega)
        · rw [if_neg hp] at h
          cases h
          exact chain_Add.good1 k A0 c0 l0 a1_0 a1_1 a1_2 w hr0 hc0 ht hu (by omega) (by omega)
    · rw [if_neg h0] at h
      cases h
      exact chain_Add.bad1 k A0 c0 l0 a1_0 a1_1 a1_2 t h0 w hr0 hc0 ht
  · rw [if_neg hl] at h
    cases h

/-! ### ambrylaw13_example: function 23 -/
def ambrylaw13_example.f  : Option ((List (S34))) := some (([(⟨7, (⟨#[]⟩ : ByteArray), true⟩ : S34), (⟨5, (⟨#[98]⟩ : ByteArray), false⟩ : S34), (⟨2, (⟨#[97]⟩ : ByteArray), false⟩ : S34)] : List (S34)))
set_option maxHeartbeats 8000000 in
set_option maxRecDepth 100000 in
theorem ambrylaw13_example.calls  (r : List (S34)) (w : World) (h : ambrylaw13_example.f  = some r) :
    Calls Try.prog 23 #[] w fun e w' => ∃ v0_ : Value, e = .returned (v0_) ∧ Kd.R k34 34 w' w.heap.size (fun _ => True) v0_ r ∧ Below w.heap.size w w' := by
  have hu34 := Try.underlying34
  have HB := Aside0.mk (Below.refl w.heap.size w)
  have H : (some (([(⟨7, (⟨#[]⟩ : ByteArray), true⟩ : S34), (⟨5, (⟨#[98]⟩ : ByteArray), false⟩ : S34), (⟨2, (⟨#[97]⟩ : ByteArray), false⟩ : S34)] : List (S34)))) = some r := h
  clear h
  obtain ⟨y115, hy115⟩ : ∃ y_ : List (S34), y_ = (([(⟨7, (⟨#[]⟩ : ByteArray), true⟩ : S34), (⟨5, (⟨#[98]⟩ : ByteArray), false⟩ : S34), (⟨2, (⟨#[97]⟩ : ByteArray), false⟩ : S34)] : List (S34))) := ⟨_, rfl⟩
  replace H : (some y115) = some r := by first | (rw [hy115]; with_reducible exact H) | (have H2_ := (Option.bind_some _ _).symm.trans H; rw [hy115]; with_reducible exact H2_) | (have H2_ := (Option.bind_some _ _).symm.trans H; with_reducible exact H2_) | with_reducible exact H | (rw [hy115]; exact H) | exact H
  have Ny115 := Aside0.mk hy115
  clear hy115
  obtain rfl := Option.some.inj H
  go_enter Try.func23, Try.ntmps23
  go_wp2_with (first | ((with_reducible refine gate_dst (N := 4) rfl ?_); refine Kd.R_lit k34 _ 34 ?hg (N := 4) ?hd (xs := ([(⟨7, (⟨#[]⟩ : ByteArray), true⟩ : S34), (⟨5, (⟨#[98]⟩ : ByteArray), false⟩ : S34), (⟨2, (⟨#[97]⟩ : ByteArray), false⟩ : S34)] : List (S34))) (inner := [.int .i64 7, .string (⟨#[]⟩ : ByteArray), .bool true, .int .i64 5, .string (⟨#[98]⟩ : ByteArray), .bool false, .int .i64 2, .string (⟨#[97]⟩ : ByteArray), .bool false]) (ok := fun _ => True) (okp := fun _ => True) ?hr ?hp (fun _ hk => hk) trivial (Below.refl _ _) (Nat.le_refl _) (by simp) ?_; (case hd => rfl); (case hg => rfl); (case hr => first | (go_simp; done) | (go_simp; rfl)); (case hp => exact (Reps.c3 (show Kd.M k34 _ _ _ (⟨7, (⟨#[]⟩ : ByteArray), true⟩ : S34) [.int .i64 7, .string (⟨#[]⟩ : ByteArray), .bool true] from (k34_mkM _ _ _ (⟨7, (⟨#[]⟩ : ByteArray), true⟩ : S34) )) (Reps.c3 (show Kd.M k34 _ _ _ (⟨5, (⟨#[98]⟩ : ByteArray), false⟩ : S34) [.int .i64 5, .string (⟨#[98]⟩ : ByteArray), .bool false] from (k34_mkM _ _ _ (⟨5, (⟨#[98]⟩ : ByteArray), false⟩ : S34) )) (Reps.c3 (show Kd.M k34 _ _ _ (⟨2, (⟨#[97]⟩ : ByteArray), false⟩ : S34) [.int .i64 2, .string (⟨#[97]⟩ : ByteArray), .bool false] from (k34_mkM _ _ _ (⟨2, (⟨#[97]⟩ : ByteArray), false⟩ : S34) )) (Reps.none _ _))))); intro v116 w1 ho2 hb hg_ hnew_; clear hg_ hnew_; (first | rw [← Ny115.out] at ho2 | (simp only [Int.reduceToNat] at ho2; rw [← Ny115.out] at ho2)); have n0_ := Aside0.mk (Kd.R_lower ho2 (below_size (by repeat (first | (with_reducible first | exact HB.out | apply below_alloc | apply pw_below_drewN | apply below_drew1) | exact HB.out)))); have n1_ := Aside0.mk (below_step (by repeat (first | (with_reducible first | exact HB.out | apply below_alloc | apply pw_below_drewN | apply below_drew1) | exact HB.out)) hb); clear HB; have HO117 := n0_; have HB := n1_; clear n0_ n1_; clear hb ho2))
  go_ret
  exact ⟨_, by first | rfl | (simp [errW_none, errW_some] <;> rfl) | (simp [*, errW_none, errW_some] <;> rfl), by (with_reducible repeat (first | apply Kd.R_alloc | apply Kd.R_drewN | apply Kd.R_drew)); exact HO117.out, by repeat (first | (with_reducible first | exact HB.out | apply below_alloc | apply pw_below_drewN | apply below_drew1) | exact HB.out)⟩

end Go.Proofs.Ytimkcfjncobgjaa.QC
