-- Printed by a program of this session (wip/tools): not by hand, and not by the kit's print.sh
import Derived.Test.YtfnenbkmbfbeaaaQCx0
namespace Go.Proofs.Ytfnenbkmbfbeaaa.QC
open Go.RowKit Go.Proofs.YtfnenbkmbfbeaaaW.PrintWords Go.Proofs.YtfnenbkmbfbeaaaW.PrintLast Go.Proofs.YtfnenbkmbfbeaaaW.PrintMore
attribute [local go_sem] max2_int min2_int max_two min_two max_three min_three max_four min_four   -- for this text's walks alone
set_option linter.unusedVariables false
set_option linter.unusedSimpArgs false

/-! ### retain_Check: function 15 -/
def retain_Check.f (a0_0 : Int) (a0_1 : Int) (a0_2 : Int) : Option (Int) := if a0_0 < 1 then (some 2) else (if a0_0 > 1000 then (some 2) else (if a0_1 < 1 then (some 2) else (if a0_1 > 1152921504606846976 then (some 2) else (if a0_2 < 0 then (some 2) else (if a0_2 > 1000 then (some 2) else (some 0))))))
set_option maxHeartbeats 8000000 in
set_option maxRecDepth 100000 in
theorem retain_Check.calls (a0_0 : Int) (a0_1 : Int) (a0_2 : Int) (r : Int) (w : World) (h : retain_Check.f a0_0 a0_1 a0_2 = some r) :
    Calls Try.prog 15 #[.agg #[.int .i64 a0_0, .int .i64 a0_1, .int .i64 a0_2]] w fun e w' => e = .returned (.int .i64 r) ∧ Below w.heap.size w w' := by
  have hu24 := Try.underlying24
  have HB := Aside0.mk (Below.refl w.heap.size w)
  have H : (if a0_0 < 1 then (some 2) else (if a0_0 > 1000 then (some 2) else (if a0_1 < 1 then (some 2) else (if a0_1 > 1152921504606846976 then (some 2) else (if a0_2 < 0 then (some 2) else (if a0_2 > 1000 then (some 2) else (some 0))))))) = some r := h
  clear h
  by_cases c2 : a0_0 < 1
  · rw [if_pos c2] at H
    have c2b0 : decide (a0_0 < 1) = true := decide_eq_true c2
    clear c2
    obtain rfl := Option.some.inj H
    go_enter Try.func15, Try.ntmps15
    go_wp2_with (first | ((with_reducible refine gate_dst (N := 1) rfl ?_); refine box_event ?hg (N := 1) ?hd (cs := #[.int .i64 a0_0, .int .i64 a0_1, .int .i64 a0_2]) (t := 24) ?hr ?_; (case hd => rfl); (case hg => rfl); (case hr => first | (go_simp; done) | (go_simp; rfl)); intro gb101 hg w3 hbox hb; have n0_ := Aside0.mk (below_step (by repeat (first | (with_reducible first | exact HB.out | apply below_alloc | apply pw_below_drewN | apply below_drew1) | exact HB.out)) hb); have n1_ := Aside0.mk (hbox); have n2_ := Aside0.mk ((by rw [hg]; exact (below_size (by repeat (first | (with_reducible first | exact HB.out | apply below_alloc | apply pw_below_drewN | apply below_drew1) | exact HB.out))) : w.heap.size ≤ gb101)); have n3_ := Aside0.mk ((by rw [hg]; exact (below_size (by repeat (first | (with_reducible first | exact HB.out | apply below_alloc | apply pw_below_drewN | apply below_drew1) | exact HB.out))) : w.heap.size ≤ gb101)); clear HB; have HB := n0_; have BK101 := n1_; have GW101 := n2_; have GE101 := n3_; clear n0_ n1_ n2_ n3_; clear hb hbox hg; have hcz4_0 : w3.cell? ⟨gb101, 0, none⟩ = some (.int .i64 a0_0) := (blk_cell BK101.out 0).trans rfl; have hcz4_1 : w3.cell? ⟨gb101, 1, none⟩ = some (.int .i64 a0_1) := (blk_cell BK101.out 1).trans rfl; have hcz4_2 : w3.cell? ⟨gb101, 2, none⟩ = some (.int .i64 a0_2) := (blk_cell BK101.out 2).trans rfl; have hfz4_0 := blk_frozen BK101.out 0; have hfz4_1 := blk_frozen BK101.out 1; have hfz4_2 := blk_frozen BK101.out 2))
    go_ret
    exact ⟨by first | rfl | (simp [errW_none, errW_some] <;> rfl) | (simp [*, errW_none, errW_some] <;> rfl), by repeat (first | (with_reducible first | exact HB.out | apply below_alloc | apply pw_below_drewN | apply below_drew1 | refine below_set ?_ GE101.out) | exact HB.out)⟩
  · rw [if_neg c2] at H
    have c2b0 : decide (a0_0 < 1) = false := decide_eq_false c2
    clear c2
    by_cases c5 : a0_0 > 1000
    · rw [if_pos c5] at H
      have c5b0 : decide (1000 < a0_0) = true := decide_eq_true c5
      clear c5
      obtain rfl := Option.some.inj H
      go_enter Try.func15, Try.ntmps15
      go_wp2_with (first | ((with_reducible refine gate_dst (N := 1) rfl ?_); refine box_event ?hg (N := 1) ?hd (cs := #[.int .i64 a0_0, .int .i64 a0_1, .int .i64 a0_2]) (t := 24) ?hr ?_; (case hd => rfl); (case hg => rfl); (case hr => first | (go_simp; done) | (go_simp; rfl)); intro gb101 hg w6 hbox hb; have n0_ := Aside0.mk (below_step (by repeat (first | (with_reducible first | exact HB.out | apply below_alloc | apply pw_below_drewN | apply below_drew1) | exact HB.out)) hb); have n1_ := Aside0.mk (hbox); have n2_ := Aside0.mk ((by rw [hg]; exact (below_size (by repeat (first | (with_reducible first | exact HB.out | apply below_alloc | apply pw_below_drewN | apply below_drew1) | exact HB.out))) : w.heap.size ≤ gb101)); have n3_ := Aside0.mk ((by rw [hg]; exact (below_size (by repeat (first | (with_reducible first | exact HB.out | apply below_alloc | apply pw_below_drewN | apply below_drew1) | exact HB.out))) : w.heap.size ≤ gb101)); clear HB; have HB := n0_; have BK101 := n1_; have GW101 := n2_; have GE101 := n3_; clear n0_ n1_ n2_ n3_; clear hb hbox hg; have hcz7_0 : w6.cell? ⟨gb101, 0, none⟩ = some (.int .i64 a0_0) := (blk_cell BK101.out 0).trans rfl; have hcz7_1 : w6.cell? ⟨gb101, 1, none⟩ = some (.int .i64 a0_1) := (blk_cell BK101.out 1).trans rfl; have hcz7_2 : w6.cell? ⟨gb101, 2, none⟩ = some (.int .i64 a0_2) := (blk_cell BK101.out 2).trans rfl; have hfz7_0 := blk_frozen BK101.out 0; have hfz7_1 := blk_frozen BK101.out 1; have hfz7_2 := blk_frozen BK101.out 2))
      go_ret
      exact ⟨by first | rfl | (simp [errW_none, errW_some] <;> rfl) | (simp [*, errW_none, errW_some] <;> rfl), by repeat (first | (with_reducible first | exact HB.out | apply below_alloc | apply pw_below_drewN | apply below_drew1 | refine below_set ?_ GE101.out) | exact HB.out)⟩
    · rw [if_neg c5] at H
      have c5b0 : decide (1000 < a0_0) = false := decide_eq_false c5
      clear c5
      by_cases c8 : a0_1 < 1
      · rw [if_pos c8] at H
        have c8b0 : decide (a0_1 < 1) = true := decide_eq_true c8
        clear c8
        obtain rfl := Option.some.inj H
        go_enter Try.func15, Try.ntmps15
        go_wp2_with (first | ((with_reducible refine gate_dst (N := 1) rfl ?_); refine box_event ?hg (N := 1) ?hd (cs := #[.int .i64 a0_0, .int .i64 a0_1, .int .i64 a0_2]) (t := 24) ?hr ?_; (case hd => rfl); (case hg => rfl); (case hr => first | (go_simp; done) | (go_simp; rfl)); intro gb101 hg w9 hbox hb; have n0_ := Aside0.mk (below_step (by repeat (first | (with_reducible first | exact HB.out | apply below_alloc | apply pw_below_drewN | apply below_drew1) | exact HB.out)) hb); have n1_ := Aside0.mk (hbox); have n2_ := Aside0.mk ((by rw [hg]; exact (below_size (by repeat (first | (with_reducible first | exact HB.out | apply below_alloc | apply pw_below_drewN | apply below_drew1) | exact HB.out))) : w.heap.size ≤ gb101)); have n3_ := Aside0.mk ((by rw [hg]; exact (below_size (by repeat (first | (with_reducible first | exact HB.out | apply below_alloc | apply pw_below_drewN | apply below_drew1) | exact HB.out))) : w.heap.size ≤ gb101)); clear HB; have HB := n0_; have BK101 := n1_; have GW101 := n2_; have GE101 := n3_; clear n0_ n1_ n2_ n3_; clear hb hbox hg; have hcz10_0 : w9.cell? ⟨gb101, 0, none⟩ = some (.int .i64 a0_0) := (blk_cell BK101.out 0).trans rfl; have hcz10_1 : w9.cell? ⟨gb101, 1, none⟩ = some (.int .i64 a0_1) := (blk_cell BK101.out 1).trans rfl; have hcz10_2 : w9.cell? ⟨gb101, 2, none⟩ = some (.int .i64 a0_2) := (blk_cell BK101.out 2).trans rfl; have hfz10_0 := blk_frozen BK101.out 0; have hfz10_1 := blk_frozen BK101.out 1; have hfz10_2 := blk_frozen BK101.out 2))
        go_ret
        exact ⟨by first | rfl | (simp [errW_none, errW_some] <;> rfl) | (simp [*, errW_none, errW_some] <;> rfl), by repeat (first | (with_reducible first | exact HB.out | apply below_alloc | apply pw_below_drewN | apply below_drew1 | refine below_set ?_ GE101.out) | exact HB.out)⟩
      · rw [if_neg c8] at H
        have c8b0 : decide (a0_1 < 1) = false := decide_eq_false c8
        clear c8
        by_cases c11 : a0_1 > 1152921504606846976
        · rw [if_pos c11] at H
          have c11b0 : decide (1152921504606846976 < a0_1) = true := decide_eq_true c11
          clear c11
          obtain rfl := Option.some.inj H
          go_enter Try.func15, Try.ntmps15
          go_wp2_with (first | ((with_reducible refine gate_dst (N := 1) rfl ?_); refine box_event ?hg (N := 1) ?hd (cs := #[.int .i64 a0_0, .int .i64 a0_1, .int .i64 a0_2]) (t := 24) ?hr ?_; (case hd => rfl); (case hg => rfl); (case hr => first | (go_simp; done) | (go_simp; rfl)); intro gb101 hg w12 hbox hb; have n0_ := Aside0.mk (below_step (by repeat (first | (with_reducible first | exact HB.out | apply below_alloc | apply pw_below_drewN | apply below_drew1) | exact HB.out)) hb); have n1_ := Aside0.mk (hbox); have n2_ := Aside0.mk ((by rw [hg]; exact (below_size (by repeat (first | (with_reducible first | exact HB.out | apply below_alloc | apply pw_below_drewN | apply below_drew1) | exact HB.out))) : w.heap.size ≤ gb101)); have n3_ := Aside0.mk ((by rw [hg]; exact (below_size (by repeat (first | (with_reducible first | exact HB.out | apply below_alloc | apply pw_below_drewN | apply below_drew1) | exact HB.out))) : w.heap.size ≤ gb101)); clear HB; have HB := n0_; have BK101 := n1_; have GW101 := n2_; have GE101 := n3_; clear n0_ n1_ n2_ n3_; clear hb hbox hg; have hcz13_0 : w12.cell? ⟨gb101, 0, none⟩ = some (.int .i64 a0_0) := (blk_cell BK101.out 0).trans rfl; have hcz13_1 : w12.cell? ⟨gb101, 1, none⟩ = some (.int .i64 a0_1) := (blk_cell BK101.out 1).trans rfl; have hcz13_2 : w12.cell? ⟨gb101, 2, none⟩ = some (.int .i64 a0_2) := (blk_cell BK101.out 2).trans rfl; have hfz13_0 := blk_frozen BK101.out 0; have hfz13_1 := blk_frozen BK101.out 1; have hfz13_2 := blk_frozen BK101.out 2))
          go_ret
          exact ⟨by first | rfl | (simp [errW_none, errW_some] <;> rfl) | (simp [*, errW_none, errW_some] <;> rfl), by repeat (first | (with_reducible first | exact HB.out | apply below_alloc | apply pw_below_drewN | apply below_drew1 | refine below_set ?_ GE101.out) | exact HB.out)⟩
        · rw [if_neg c11] at H
          have c11b0 : decide (1152921504606846976 < a0_1) = false := decide_eq_false c11
          clear c11
          by_cases c14 : a0_2 < 0
          · rw [if_pos c14] at H
            have c14b0 : decide (a0_2 < 0) = true := decide_eq_true c14
            clear c14
            obtain rfl := Option.some.inj H
            go_enter Try.func15, Try.ntmps15
            go_wp2_with (first | ((with_reducible refine gate_dst (N := 1) rfl ?_); refine box_event ?hg (N := 1) ?hd (cs := #[.int .i64 a0_0, .int .i64 a0_1, .int .i64 a0_2]) (t := 24) ?hr ?_; (case hd => rfl); (case hg => rfl); (case hr => first | (go_simp; done) | (go_simp; rfl)); intro gb101 hg w15 hbox hb; have n0_ := Aside0.mk (below_step (by repeat (first | (with_reducible first | exact HB.out | apply below_alloc | apply pw_below_drewN | apply below_drew1) | exact HB.out)) hb); have n1_ := Aside0.mk (hbox); have n2_ := Aside0.mk ((by rw [hg]; exact (below_size (by repeat (first | (with_reducible first | exact HB.out | apply below_alloc | apply pw_below_drewN | apply below_drew1) | exact HB.out))) : w.heap.size ≤ gb101)); have n3_ := Aside0.mk ((by rw [hg]; exact (below_size (by repeat (first | (with_reducible first | exact HB.out | apply below_alloc | apply pw_below_drewN | apply below_drew1) | exact HB.out))) : w.heap.size ≤ gb101)); clear HB; have HB := n0_; have BK101 := n1_; have GW101 := n2_; have GE101 := n3_; clear n0_ n1_ n2_ n3_; clear hb hbox hg; have hcz16_0 : w15.cell? ⟨gb101, 0, none⟩ = some (.int .i64 a0_0) := (blk_cell BK101.out 0).trans rfl; have hcz16_1 : w15.cell? ⟨gb101, 1, none⟩ = some (.int .i64 a0_1) := (blk_cell BK101.out 1).trans rfl; have hcz16_2 : w15.cell? ⟨gb101, 2, none⟩ = some (.int .i64 a0_2) := (blk_cell BK101.out 2).trans rfl; have hfz16_0 := blk_frozen BK101.out 0; have hfz16_1 := blk_frozen BK101.out 1; have hfz16_2 := blk_frozen BK101.out 2))
            go_ret
            exact ⟨by first | rfl | (simp [errW_none, errW_some] <;> rfl) | (simp [*, errW_none, errW_some] <;> rfl), by repeat (first | (with_reducible first | exact HB.out | apply below_alloc | apply pw_below_drewN | apply below_drew1 | refine below_set ?_ GE101.out) | exact HB.out)⟩
          · rw [if_neg c14] at H
            have c14b0 : decide (a0_2 < 0) = false := decide_eq_false c14
            clear c14
            by_cases c17 : a0_2 > 1000
            · rw [if_pos c17] at H
              have c17b0 : decide (1000 < a0_2) = true := decide_eq_true c17
              clear c17
              obtain rfl := Option.some.inj H
              go_enter Try.func15, Try.ntmps15
              go_wp2_with (first | ((with_reducible refine gate_dst (N := 1) rfl ?_); refine box_event ?hg (N := 1) ?hd (cs := #[.int .i64 a0_0, .int .i64 a0_1, .int .i64 a0_2]) (t := 24) ?hr ?_; (case hd => rfl); (case hg => rfl); (case hr => first | (go_simp; done) | (go_simp; rfl)); intro gb101 hg w18 hbox hb; have n0_ := Aside0.mk (below_step (by repeat (first | (with_reducible first | exact HB.out | apply below_alloc | apply pw_below_drewN | apply below_drew1) | exact HB.out)) hb); have n1_ := Aside0.mk (hbox); have n2_ := Aside0.mk ((by rw [hg]; exact (below_size (by repeat (first | (with_reducible first | exact HB.out | apply below_alloc | apply pw_below_drewN | apply below_drew1) | exact HB.out))) : w.heap.size ≤ gb101)); have n3_ := Aside0.mk ((by rw [hg]; exact (below_size (by repeat (first | (with_reducible first | exact HB.out | apply below_alloc | apply pw_below_drewN | apply below_drew1) | exact HB.out))) : w.heap.size ≤ gb101)); clear HB; have HB := n0_; have BK101 := n1_; have GW101 := n2_; have GE101 := n3_; clear n0_ n1_ n2_ n3_; clear hb hbox hg; have hcz19_0 : w18.cell? ⟨gb101, 0, none⟩ = some (.int .i64 a0_0) := (blk_cell BK101.out 0).trans rfl; have hcz19_1 : w18.cell? ⟨gb101, 1, none⟩ = some (.int .i64 a0_1) := (blk_cell BK101.out 1).trans rfl; have hcz19_2 : w18.cell? ⟨gb101, 2, none⟩ = some (.int .i64 a0_2) := (blk_cell BK101.out 2).trans rfl; have hfz19_0 := blk_frozen BK101.out 0; have hfz19_1 := blk_frozen BK101.out 1; have hfz19_2 := blk_frozen BK101.out 2))
              go_ret
              exact ⟨by first | rfl | (simp [errW_none, errW_some] <;> rfl) | (simp [*, errW_none, errW_some] <;> rfl), by repeat (first | (with_reducible first | exact HB.out | apply below_alloc | apply pw_below_drewN | apply below_drew1 | refine below_set ?_ GE101.out) | exact HB.out)⟩
            · rw [if_neg c17] at H
              have c17b0 : decide (1000 < a0_2) = false := decide_eq_false c17
              clear c17
              obtain rfl := Option.some.inj H
              go_enter Try.func15, Try.ntmps15
              go_wp2_with (first | ((with_reducible refine gate_dst (N := 1) rfl ?_); refine box_event ?hg (N := 1) ?hd (cs := #[.int .i64 a0_0, .int .i64 a0_1, .int .i64 a0_2]) (t := 24) ?hr ?_; (case hd => rfl); (case hg => rfl); (case hr => first | (go_simp; done) | (go_simp; rfl)); intro gb101 hg w20 hbox hb; have n0_ := Aside0.mk (below_step (by repeat (first | (with_reducible first | exact HB.out | apply below_alloc | apply pw_below_drewN | apply below_drew1) | exact HB.out)) hb); have n1_ := Aside0.mk (hbox); have n2_ := Aside0.mk ((by rw [hg]; exact (below_size (by repeat (first | (with_reducible first | exact HB.out | apply below_alloc | apply pw_below_drewN | apply below_drew1) | exact HB.out))) : w.heap.size ≤ gb101)); have n3_ := Aside0.mk ((by rw [hg]; exact (below_size (by repeat (first | (with_reducible first | exact HB.out | apply below_alloc | apply pw_below_drewN | apply below_drew1) | exact HB.out))) : w.heap.size ≤ gb101)); clear HB; have HB := n0_; have BK101 := n1_; have GW101 := n2_; have GE101 := n3_; clear n0_ n1_ n2_ n3_; clear hb hbox hg; have hcz21_0 : w20.cell? ⟨gb101, 0, none⟩ = some (.int .i64 a0_0) := (blk_cell BK101.out 0).trans rfl; have hcz21_1 : w20.cell? ⟨gb101, 1, none⟩ = some (.int .i64 a0_1) := (blk_cell BK101.out 1).trans rfl; have hcz21_2 : w20.cell? ⟨gb101, 2, none⟩ = some (.int .i64 a0_2) := (blk_cell BK101.out 2).trans rfl; have hfz21_0 := blk_frozen BK101.out 0; have hfz21_1 := blk_frozen BK101.out 1; have hfz21_2 := blk_frozen BK101.out 2))
              go_ret
              exact ⟨by first | rfl | (simp [errW_none, errW_some] <;> rfl) | (simp [*, errW_none, errW_some] <;> rfl), by repeat (first | (with_reducible first | exact HB.out | apply below_alloc | apply pw_below_drewN | apply below_drew1 | refine below_set ?_ GE101.out) | exact HB.out)⟩

/-! ### retain_rise: function 18 -/
def retain_rise.l0 : Nat → List Int → List Int → Int → Int → Option (Bool)
  | 0, _, _, _, _ => none
  | k + 1, x0, x5, x6, x7 => if x7 < x6 then (if 0 ≤ x7 then (if x7 < (x5.length : Int) then (if (rd x5 x7) < 1 then (some false) else (if (rd x5 x7) > 1152921504606846976 then (some false) else (if x7 > 0 then (if 0 ≤ (wrap64 (x7 - 1)) then (if (wrap64 (x7 - 1)) < (x0.length : Int) then (if (rd x5 x7) ≤ (rd x0 (wrap64 (x7 - 1))) then (some false) else (retain_rise.l0 k x0 x5 x6 (wrap64 (x7 + 1)))) else (none)) else (none)) else (retain_rise.l0 k x0 x5 x6 (wrap64 (x7 + 1)))))) else (none)) else (none)) else (some true)
def retain_rise.f (k : Nat) (l0 : List Int) : Option (Bool) := retain_rise.l0 k l0 l0 (l0.length : Int) 0
theorem retain_rise.mono_l : ∀ k, (∀ y0 y1 y2 y3, LeO (retain_rise.l0 k y0 y1 y2 y3) (retain_rise.l0 (k + 1) y0 y1 y2 y3))
  | 0 => fun _ _ _ _ r h => by simp [retain_rise.l0] at h
  | k + 1 => by
    have ih0 := retain_rise.mono_l k
    · intro y0 y1 y2 y3
      unfold retain_rise.l0
      repeat' first
      | (with_reducible exact ih0 _ _ _ _)
      | (with_reducible exact LeO.refl _)
      | (with_reducible exact LeO.none _)
      | (with_reducible refine LeO.ite ?_ ?_)
      | (with_reducible refine LeO.bind ?_ (fun _ => ?_))
      | exact ih0 _ _ _ _
      | exact LeO.none _
      | refine LeO.ite ?_ ?_
      | refine LeO.bind ?_ (fun _ => ?_)
theorem retain_rise.mono : ∀ a0 k, LeO (retain_rise.f k a0) (retain_rise.f (k + 1) a0) := by
  intro a0 k
  have ih0 := retain_rise.mono_l k
  unfold retain_rise.f
  repeat' first
      | (with_reducible exact ih0 _ _ _ _)
      | (with_reducible exact LeO.refl _)
      | (with_reducible exact LeO.none _)
      | (with_reducible refine LeO.ite ?_ ?_)
      | (with_reducible refine LeO.bind ?_ (fun _ => ?_))
      | exact ih0 _ _ _ _
      | exact LeO.none _
      | refine LeO.ite ?_ ?_
      | refine LeO.bind ?_ (fun _ => ?_)
set_option maxHeartbeats 8000000 in
set_option maxRecDepth 100000 in
theorem retain_rise.calls (k : Nat) (A0 : Option Addr) (c0 : Nat) (l0 : List Int) (r : Bool) (w : World) (hr0 : Kd.C (Kd.int .i64) w A0 l0.length l0) (hc0 : l0.length ≤ c0) (h : retain_rise.f k l0 = some r) :
    Calls Try.prog 18 #[.slice A0 l0.length c0] w fun e w' => e = .returned (.bool r) ∧ Drawn0 w w' := by
  have HR0 := Aside0.mk hr0
  have HC0 := Aside0.mk hc0
  clear hr0 hc0
  have H : (retain_rise.l0 k l0 l0 (l0.length : Int) 0) = some r := h
  clear h
  have H' := Aside0.mk H
  clear H
  go_enter Try.func18, Try.ntmps18
  go_wp2
  go_loopg [7] k (fun kq v7 w' => ∃ (x7_1 : Int), v7 = .int .i64 x7_1 ∧ Aside0 (retain_rise.l0 kq l0 l0 (l0.length : Int) x7_1 = some r) ∧ Aside0 (kq ≤ k) ∧ Drawn0 w w')
  case atStart => exact ⟨(0), (by first | rfl | (simp; done) | (simp [*]; done)), H', ⟨Nat.le_refl _⟩, by repeat (first | exact Drawn0.refl _ | apply Drawn0.step)⟩
  case round =>
    clear H'
    try clear c1
    obtain ⟨x7_1, rfl, HA, HK1, ⟨m1, rfl⟩⟩ := hrel
    cases gk with
    | zero => exact absurd HA.out (by simp [retain_rise.l0])
    | succ k1 =>
      have H := HA.out
      clear HA
      simp only [retain_rise.l0] at H
      by_cases c2 : x7_1 < (l0.length : Int)
      · rw [if_pos c2] at H
        have c2b0 : decide (x7_1 < (l0.length : Int)) = true := decide_eq_true c2
        clear c2
        by_cases c3 : 0 ≤ x7_1
        · rw [if_pos c3] at H
          have c3b0 : decide (0 ≤ x7_1) = true := decide_eq_true c3
          clear c3
          by_cases c4 : x7_1 < (l0.length : Int)
          · rw [if_pos c4] at H
            have c4b0 : decide (x7_1 < (l0.length : Int)) = true := decide_eq_true c4
            clear c4
            by_cases c5 : (rd l0 x7_1) < 1
            · rw [if_pos c5] at H
              have c5b0 : decide ((rd l0 x7_1) < 1) = true := decide_eq_true c5
              clear c5
              obtain rfl := Option.some.inj H
              have p102 : 0 ≤ (x7_1 : Int) := of_decide_eq_true (by first | (with_reducible assumption) | assumption)
              have q102 : x7_1 < (l0.length : Int) := of_decide_eq_true (by first | (with_reducible assumption) | assumption)
              obtain ⟨ad102, e102, hx102_0⟩ := Kd.at_int HR0.out x7_1 p102 q102
              cases e102
              replace p102 := eq_true p102
              replace q102 := eq_true q102
              go_wp2
              go_ret
              exact ⟨by first | rfl | (simp; done) | (simp [*]; done), by repeat (first | exact Drawn0.refl _ | apply Drawn0.step)⟩
            · rw [if_neg c5] at H
              have c5b0 : decide ((rd l0 x7_1) < 1) = false := decide_eq_false c5
              clear c5
              by_cases c6 : (rd l0 x7_1) > 1152921504606846976
              · rw [if_pos c6] at H
                have c6b0 : decide (1152921504606846976 < (rd l0 x7_1)) = true := decide_eq_true c6
                clear c6
                obtain rfl := Option.some.inj H
                have p102 : 0 ≤ (x7_1 : Int) := of_decide_eq_true (by first | (with_reducible assumption) | assumption)
                have q102 : x7_1 < (l0.length : Int) := of_decide_eq_true (by first | (with_reducible assumption) | assumption)
                obtain ⟨ad102, e102, hx102_0⟩ := Kd.at_int HR0.out x7_1 p102 q102
                cases e102
                replace p102 := eq_true p102
                replace q102 := eq_true q102
                go_wp2
                go_ret
                exact ⟨by first | rfl | (simp; done) | (simp [*]; done), by repeat (first | exact Drawn0.refl _ | apply Drawn0.step)⟩
              · rw [if_neg c6] at H
                have c6b0 : decide (1152921504606846976 < (rd l0 x7_1)) = false := decide_eq_false c6
                clear c6
                by_cases c7 : x7_1 > 0
                · rw [if_pos c7] at H
                  have c7b0 : decide (0 < x7_1) = true := decide_eq_true c7
                  clear c7
                  obtain ⟨ji8, hji8⟩ : ∃ j_ : Int, (wrap64 (x7_1 - 1)) = j_ := ⟨_, rfl⟩
                  replace H : (if 0 ≤ (ji8) then (if (ji8) < (l0.length : Int) then (if (rd l0 x7_1) ≤ (rd l0 (ji8)) then (some false) else (retain_rise.l0 k1 l0 l0 (l0.length : Int) (wrap64 (x7_1 + 1)))) else (none)) else (none)) = some r := by first | (rw [hji8] at H; exact H) | (simp only [hji8] at H ⊢; exact H)
                  have hji8w : (IntKind.i64.wrap (x7_1 - 1)) = ji8 := (i64_w _).trans hji8
                  by_cases c9 : 0 ≤ (ji8)
                  · rw [if_pos c9] at H
                    have c9b0 : decide (0 ≤ (ji8)) = true := decide_eq_true c9
                    clear c9
                    by_cases c10 : (ji8) < (l0.length : Int)
                    · rw [if_pos c10] at H
                      have c10b0 : decide ((ji8) < (l0.length : Int)) = true := decide_eq_true c10
                      clear c10
                      by_cases c11 : (rd l0 x7_1) ≤ (rd l0 (ji8))
                      · rw [if_pos c11] at H
                        have c11b0 : decide ((rd l0 x7_1) ≤ (rd l0 (ji8))) = true := decide_eq_true c11
                        clear c11
                        obtain rfl := Option.some.inj H
                        have p102 : 0 ≤ (x7_1 : Int) := of_decide_eq_true (by first | (with_reducible assumption) | assumption)
                        have q102 : x7_1 < (l0.length : Int) := of_decide_eq_true (by first | (with_reducible assumption) | assumption)
                        obtain ⟨ad102, e102, hx102_0⟩ := Kd.at_int HR0.out x7_1 p102 q102
                        cases e102
                        replace p102 := eq_true p102
                        replace q102 := eq_true q102
                        have p103 : 0 ≤ ((ji8) : Int) := of_decide_eq_true (by first | (with_reducible assumption) | assumption)
                        have q103 : (ji8) < (l0.length : Int) := of_decide_eq_true (by first | (with_reducible assumption) | assumption)
                        obtain ⟨ad103, e103, hx103_0⟩ := Kd.at_int HR0.out (ji8) p103 q103
                        obtain rfl : ad102 = ad103 := (by injection e103)
                        replace p103 := eq_true p103
                        replace q103 := eq_true q103
                        go_wp2
                        go_ret
                        exact ⟨by first | rfl | (simp; done) | (simp only [← hji8] <;> (first | rfl | simp)) | (simp [*]; done), by repeat (first | exact Drawn0.refl _ | apply Drawn0.step)⟩
                      · rw [if_neg c11] at H
                        have c11b0 : decide ((rd l0 x7_1) ≤ (rd l0 (ji8))) = false := decide_eq_false c11
                        clear c11
                        have H' := Aside0.mk H
                        clear H
                        have p102 : 0 ≤ (x7_1 : Int) := of_decide_eq_true (by first | (with_reducible assumption) | assumption)
                        have q102 : x7_1 < (l0.length : Int) := of_decide_eq_true (by first | (with_reducible assumption) | assumption)
                        obtain ⟨ad102, e102, hx102_0⟩ := Kd.at_int HR0.out x7_1 p102 q102
                        cases e102
                        replace p102 := eq_true p102
                        replace q102 := eq_true q102
                        have p103 : 0 ≤ ((ji8) : Int) := of_decide_eq_true (by first | (with_reducible assumption) | assumption)
                        have q103 : (ji8) < (l0.length : Int) := of_decide_eq_true (by first | (with_reducible assumption) | assumption)
                        obtain ⟨ad103, e103, hx103_0⟩ := Kd.at_int HR0.out (ji8) p103 q103
                        obtain rfl : ad102 = ad103 := (by injection e103)
                        replace p103 := eq_true p103
                        replace q103 := eq_true q103
                        go_wp2
                        go_roundg k1
                        case measure => have := HK1.out; omega
                        case rel => exact ⟨(wrap64 (x7_1 + 1)), (by first | rfl | (simp; done) | (simp [*]; done)), H', ⟨by have := HK1.out; omega⟩, by repeat (first | exact Drawn0.refl _ | apply Drawn0.step)⟩
                    · rw [if_neg c10] at H
                      exact absurd H (by simp)
                  · rw [if_neg c9] at H
                    exact absurd H (by simp)
                · rw [if_neg c7] at H
                  have c7b0 : decide (0 < x7_1) = false := decide_eq_false c7
                  clear c7
                  have H' := Aside0.mk H
                  clear H
                  have p102 : 0 ≤ (x7_1 : Int) := of_decide_eq_true (by first | (with_reducible assumption) | assumption)
                  have q102 : x7_1 < (l0.length : Int) := of_decide_eq_true (by first | (with_reducible assumption) | assumption)
                  obtain ⟨ad102, e102, hx102_0⟩ := Kd.at_int HR0.out x7_1 p102 q102
                  cases e102
                  replace p102 := eq_true p102
                  replace q102 := eq_true q102
                  go_wp2
                  go_roundg k1
                  case measure => have := HK1.out; omega
                  case rel => exact ⟨(wrap64 (x7_1 + 1)), (by first | rfl | (simp; done) | (simp [*]; done)), H', ⟨by have := HK1.out; omega⟩, by repeat (first | exact Drawn0.refl _ | apply Drawn0.step)⟩
          · rw [if_neg c4] at H
            exact absurd H (by simp)
        · rw [if_neg c3] at H
          exact absurd H (by simp)
      · rw [if_neg c2] at H
        have c2b0 : decide (x7_1 < (l0.length : Int)) = false := decide_eq_false c2
        clear c2
        obtain rfl := Option.some.inj H
        go_wp2
        go_ret
        exact ⟨by first | rfl | (simp; done) | (simp [*]; done), by repeat (first | exact Drawn0.refl _ | apply Drawn0.step)⟩

-- NOT PRINTED: function 19 (retain_rows)

/-! ### slices_Reverse_int_int: function 20 -/
def slices_Reverse_int_int.l0 : Nat → List Int → Int → Int → Option (List Int)
  | 0, _, _, _ => none
  | k + 1, x0, x2, x3 => if x2 < x3 then (if 0 ≤ x3 then (if x3 < (x0.length : Int) then (if 0 ≤ x2 then (if x2 < (x0.length : Int) then (slices_Reverse_int_int.l0 k ((x0.set (x2 : Int).toNat (rd x0 x3)).set (x3 : Int).toNat (rd x0 x2)) (wrap64 (x2 + 1)) (wrap64 (x3 - 1))) else (none)) else (none)) else (none)) else (none)) else (some x0)
def slices_Reverse_int_int.f (k : Nat) (l0 : List Int) : Option (List Int) := slices_Reverse_int_int.l0 k l0 0 (wrap64 ((l0.length : Int) - 1))
theorem slices_Reverse_int_int.mono_l : ∀ k, (∀ y0 y1 y2, LeO (slices_Reverse_int_int.l0 k y0 y1 y2) (slices_Reverse_int_int.l0 (k + 1) y0 y1 y2))
  | 0 => fun _ _ _ r h => by simp [slices_Reverse_int_int.l0] at h
  | k + 1 => by
    have ih0 := slices_Reverse_int_int.mono_l k
    · intro y0 y1 y2
      unfold slices_Reverse_int_int.l0
      repeat' first
      | (with_reducible exact ih0 _ _ _)
      | (with_reducible exact LeO.refl _)
      | (with_reducible exact LeO.none _)
      | (with_reducible refine LeO.ite ?_ ?_)
      | (with_reducible refine LeO.bind ?_ (fun _ => ?_))
      | exact ih0 _ _ _
      | exact LeO.none _
      | refine LeO.ite ?_ ?_
      | refine LeO.bind ?_ (fun _ => ?_)
theorem slices_Reverse_int_int.mono : ∀ a0 k, LeO (slices_Reverse_int_int.f k a0) (slices_Reverse_int_int.f (k + 1) a0) := by
  intro a0 k
  have ih0 := slices_Reverse_int_int.mono_l k
  unfold slices_Reverse_int_int.f
  repeat' first
      | (with_reducible exact ih0 _ _ _)
      | (with_reducible exact LeO.refl _)
      | (with_reducible exact LeO.none _)
      | (with_reducible refine LeO.ite ?_ ?_)
      | (with_reducible refine LeO.bind ?_ (fun _ => ?_))
      | exact ih0 _ _ _
      | exact LeO.none _
      | refine LeO.ite ?_ ?_
      | refine LeO.bind ?_ (fun _ => ?_)
def slices_Reverse_int_int.T3 : Bool × List (List Nat × List Nat) := (true, [([], []), ([], []), ([], []), ([], []), ([], []), ([], []), ([4, 5], [4, 5]), ([6], [6]), ([], []), ([], []), ([8, 9], [8, 9]), ([10], [10]), ([0, 1, 0, 1, 4, 5, 6, 7, 11], [0, 1]), ([12, 7, 0, 1, 4, 5, 6, 7, 11], [7, 12]), ([2, 3, 0, 1, 2, 3, 4, 5, 6, 7, 8, 9, 10, 11, 12, 13], [2, 3]), ([14, 11, 13, 0, 1, 2, 3, 4, 5, 6, 7, 8, 9, 10, 11, 12, 13], [11, 14])])
def slices_Reverse_int_int.B3 : List Nat := [0, 0, 0, 0, 0, 0, 48, 112, 0, 0, 768, 1792, 4083, 8179, 16383, 32767]
theorem slices_Reverse_int_int.tab3 : rtab .any (opsOf Try.f20 3) = slices_Reverse_int_int.T3 := by kernel_rfl
theorem slices_Reverse_int_int.bits3 : waitsOk slices_Reverse_int_int.T3.2 slices_Reverse_int_int.B3 = true := by kernel_rfl
set_option maxHeartbeats 8000000 in
set_option maxRecDepth 100000 in
theorem slices_Reverse_int_int.calls (k : Nat) (P0_ : Nat → Prop) (u9000_ : Value) (l0 : List Int) (r : List Int) (w0 w : World) (hB : Below w0.heap.size w0 w) (ho0 : Kd.R (Kd.int .i64) 3 w w0.heap.size P0_ u9000_ l0) (h : slices_Reverse_int_int.f k l0 = some r) :
    Calls Try.prog 20 #[u9000_] w fun e w' => e = .returned (.tuple #[]) ∧ Kd.R (Kd.int .i64) 3 w' w0.heap.size (fun k_ => (P0_ k_ ∨ w.heap.size ≤ k_)) u9000_ r ∧ Below w0.heap.size w0 w' ∧ Kept w w' (fun k_ => P0_ k_) := by
  have HO0 := Aside0.mk (show Kd.R (Kd.int .i64) 3 w w0.heap.size (fun k_ => (P0_ k_ ∨ w.heap.size ≤ k_)) u9000_ l0 from Kd.R_mono ho0 (fun k_ hk => (.inl hk)))
  have HK := Aside0.mk (Kept.refl w (fun k_ => P0_ k_))
  have HW0 := Aside0.mk hB.size
  have HB := Aside0.mk hB
  clear hB
  have H : (slices_Reverse_int_int.l0 k l0 0 (wrap64 ((l0.length : Int) - 1))) = some r := h
  clear h
  have H' := Aside0.mk H
  clear H
  obtain ⟨Ao2, co2, eo2⟩ := Kd.R_slice HO0.out
  subst eo2
  go_enter Try.func20, Try.ntmps20
  go_wp2
  go_loopg [2, 3] k (fun kq v2 v3 w' => ∃ (x0_1 : List Int) (x2_1 : Int) (x3_1 : Int), v2 = .int .i64 x2_1 ∧ v3 = .int .i64 x3_1 ∧ Aside0 (slices_Reverse_int_int.l0 kq x0_1 x2_1 x3_1 = some r) ∧ Aside0 (kq ≤ k) ∧ Aside0 (Kd.R (Kd.int .i64) 3 w' w0.heap.size (fun k_ => (P0_ k_ ∨ w.heap.size ≤ k_)) (.slice Ao2 l0.length co2) x0_1) ∧ Aside0 (Kept w w' (fun k_ => P0_ k_)) ∧ Aside0 (Below w0.heap.size w0 w'))
  case atStart => exact ⟨(l0), (0), (wrap64 ((l0.length : Int) - 1)), (by first | rfl | (simp; done) | (simp [*]; done)), (by first | rfl | (simp; done) | (simp [*]; done)), H', ⟨Nat.le_refl _⟩, ⟨by (with_reducible repeat (first | apply Kd.R_alloc | apply Kd.R_drewN | apply Kd.R_drew)); exact HO0.out⟩, ⟨by repeat (first | (with_reducible first | exact HK.out | apply Kept.alloc | apply Kept.drewN | apply Kept.drew) | exact HK.out)⟩, ⟨by repeat (first | (with_reducible first | exact HB.out | apply below_alloc | apply pw_below_drewN | apply below_drew1) | exact HB.out)⟩⟩
  case round =>
    clear H'
    try clear c2
    try clear p2
    obtain ⟨x0_1, x2_1, x3_1, rfl, rfl, HA, HK1, HO_0, HK, HB⟩ := hrel
    have hl0_1 := (Kd.R_reads' HO_0.out).1
    rw [hl0_1] at HO_0
    (try simp only [hl0_1])
    cases gk with
    | zero => exact absurd HA.out (by simp [slices_Reverse_int_int.l0])
    | succ k1 =>
      have H := HA.out
      clear HA
      simp only [slices_Reverse_int_int.l0] at H
      by_cases c3 : x2_1 < x3_1
      · rw [if_pos c3] at H
        have c3b0 : decide (x2_1 < x3_1) = true := decide_eq_true c3
        clear c3
        by_cases c4 : 0 ≤ x3_1
        · rw [if_pos c4] at H
          have c4b0 : decide (0 ≤ x3_1) = true := decide_eq_true c4
          clear c4
          by_cases c5 : x3_1 < (x0_1.length : Int)
          · rw [if_pos c5] at H
            have c5b0 : decide (x3_1 < (x0_1.length : Int)) = true := decide_eq_true c5
            clear c5
            by_cases c6 : 0 ≤ x2_1
            · rw [if_pos c6] at H
              have c6b0 : decide (0 ≤ x2_1) = true := decide_eq_true c6
              clear c6
              by_cases c7 : x2_1 < (x0_1.length : Int)
              · rw [if_pos c7] at H
                have c7b0 : decide (x2_1 < (x0_1.length : Int)) = true := decide_eq_true c7
                clear c7
                obtain ⟨y106, hy106⟩ : ∃ y_ : List Int, y_ = (x0_1.set (x2_1 : Int).toNat (rd x0_1 x3_1)) := ⟨_, rfl⟩
                replace H : (slices_Reverse_int_int.l0 k1 (y106.set (x3_1 : Int).toNat (rd x0_1 x2_1)) (wrap64 (x2_1 + 1)) (wrap64 (x3_1 - 1))) = some r := by first | (rw [hy106]; with_reducible exact H) | (have H2_ := (Option.bind_some _ _).symm.trans H; rw [hy106]; with_reducible exact H2_) | (have H2_ := (Option.bind_some _ _).symm.trans H; with_reducible exact H2_) | with_reducible exact H | (rw [hy106]; exact H) | exact H
                have Ny106 := Aside0.mk hy106
                clear hy106
                obtain ⟨y107, hy107⟩ : ∃ y_ : List Int, y_ = (y106.set (x3_1 : Int).toNat (rd x0_1 x2_1)) := ⟨_, rfl⟩
                replace H : (slices_Reverse_int_int.l0 k1 y107 (wrap64 (x2_1 + 1)) (wrap64 (x3_1 - 1))) = some r := by first | (rw [hy107]; with_reducible exact H) | (have H2_ := (Option.bind_some _ _).symm.trans H; rw [hy107]; with_reducible exact H2_) | (have H2_ := (Option.bind_some _ _).symm.trans H; with_reducible exact H2_) | with_reducible exact H | (rw [hy107]; exact H) | exact H
                have Ny107 := Aside0.mk hy107
                clear hy107
                have H' := Aside0.mk H
                clear H
                try go_wp2
                have n0_ := Aside0.mk (Kd.R_drew HO_0.out)
                have n1_ := Aside0.mk (Kept.drew HK.out)
                have n2_ := Aside0.mk (below_drew1 HB.out)
                clear HO_0
                clear HK
                clear HB
                have HO_0 := n0_
                have HK := n1_
                have HB := n2_
                clear n0_ n1_ n2_
                have p104 : 0 ≤ (x3_1 : Int) := of_decide_eq_true (by first | (with_reducible assumption) | assumption)
                have q104 : x3_1 < (x0_1.length : Int) := of_decide_eq_true (by first | (with_reducible assumption) | assumption)
                obtain ⟨ad104, e104, hx104_0⟩ := Kd.at_int (Kd.R_reads' HO_0.out).2.2 x3_1 p104 q104
                cases e104
                replace p104 := eq_true p104
                replace q104 := eq_true q104
                have p105 : 0 ≤ (x2_1 : Int) := of_decide_eq_true (by first | (with_reducible assumption) | assumption)
                have q105 : x2_1 < (x0_1.length : Int) := of_decide_eq_true (by first | (with_reducible assumption) | assumption)
                obtain ⟨ad105, e105, hx105_0⟩ := Kd.at_int (Kd.R_reads' HO_0.out).2.2 x2_1 p105 q105
                obtain rfl : ad104 = ad105 := (by injection e105)
                replace p105 := eq_true p105
                replace q105 := eq_true q105
                have p8 : 0 ≤ (x2_1 : Int) := of_decide_eq_true (by first | (with_reducible assumption) | assumption)
                have q8 : (x2_1 : Int) < ((x0_1.length : Int) : Int) := of_decide_eq_true (by first | (with_reducible assumption) | assumption)
                obtain ⟨go8, co8, eo8, gb8, gl8, cl8, HG8⟩ := Kd.R_form HO_0.out (by omega)
                (first | cases eo8 | (injection eo8 with ea_ en_ ec_; (first | subst ea_ | (injection ea_ with ea_; subst ea_)); subst ec_; clear en_))
                have GB8 := Aside0.mk gb8
                have GG8 := Aside0.mk HG8
                clear gb8 gl8 HG8
                have HMgo8 := Aside0.mk (show (P0_ go8 ∨ w.heap.size ≤ go8) from (HO_0.out.1 _ rfl))
                (first | simp only [add_plain] at hx104_0 | skip)
                (first | simp only [add_plain] at hx105_0 | skip)
                obtain ⟨hx8_0, hf8_0⟩ := Kd.R_celln 0 HO_0.out (x2_1 : Int) p8 q8
                replace p8 := eq_true p8
                replace q8 := eq_true q8
                have HP11 := Kd.R_putn HO_0.out (x2_1 : Int) (rd x0_1 x3_1)
                rw [← Ny106.out] at HP11
                have HQ11 := Aside0.mk HP11
                clear HP11
                have p9 : 0 ≤ (x3_1 : Int) := of_decide_eq_true (by first | (with_reducible assumption) | assumption)
                have q9 : (x3_1 : Int) < ((x0_1.length : Int) : Int) := of_decide_eq_true (by first | (with_reducible assumption) | assumption)
                obtain ⟨hx9_0, hf9_0⟩ := Kd.R_celln 0 HQ11.out (x3_1 : Int) p9 q9
                replace p9 := eq_true p9
                replace q9 := eq_true q9
                have HP12 := Kd.R_putn HQ11.out (x3_1 : Int) (rd x0_1 x2_1)
                rw [← Ny107.out] at HP12
                have HQ12 := Aside0.mk HP12
                clear HP12
                refine start_ (n := 16) (S := fun w' => w'.cell? ⟨go8, (x3_1).toNat, none⟩ = some (.int .i64 (rd x0_1 x3_1)) ∧ w'.cell? ⟨go8, (x2_1).toNat, none⟩ = some (.int .i64 (rd x0_1 x2_1))) (ds := [13, 15]) #[false, false, false, false, false, false, false, false, false, false, false, false, false, false, false, false] (by kernel_rfl) rfl rfl ⟨hx104_0, hx105_0⟩ (fun hHeld => ?_); refine with_tabW slices_Reverse_int_int.tab3 slices_Reverse_int_int.bits3 (fun HT_ HW_ => ?_)
                generalize wr.drew = w10 at HO_0 HK HB GG8 HQ11 HQ12 hf8_0 hf9_0 hx104_0 hx105_0 hx8_0 hx9_0 hHeld ⊢
                refine pure_ (i := 0) (N := some 14) (v := ?_) (a' := ?_) #[true, false, false, false, false, false, false, false, false, false, false, false, false, false, false, false] rfl rfl (any_of HT_.out (by kernel_rfl)) (fun _ _ _ h => h) (Or.inl ⟨by rfl, ?_⟩) ?_ ?_
                rotate_left
                · intro w'
                  go_simp
                  with_reducible rfl
                rotate_left
                · simp only [Act.put, List.setIfInBounds_toArray, List.set_cons_zero, List.set_cons_succ, i64_w, i32_w]
                  rfl
                refine pure_ (i := 1) (N := some 15) (v := ?_) (a' := ?_) #[true, true, false, false, false, false, false, false, false, false, false, false, false, false, false, false] rfl rfl (any_of HT_.out (by kernel_rfl)) (fun _ _ _ h => h) (Or.inl ⟨by rfl, ?_⟩) ?_ ?_
                rotate_left
                · intro w'
                  go_simp
                  with_reducible rfl
                rotate_left
                · simp only [Act.put, List.setIfInBounds_toArray, List.set_cons_zero, List.set_cons_succ, i64_w, i32_w]
                  rfl
                refine pure_ (i := 2) (N := some 16) (v := ?_) (a' := ?_) #[true, true, true, false, false, false, false, false, false, false, false, false, false, false, false, false] rfl rfl (any_of HT_.out (by kernel_rfl)) (fun _ _ _ h => h) (Or.inl ⟨by rfl, ?_⟩) ?_ ?_
                rotate_left
                · intro w'
                  go_simp
                  with_reducible rfl
                rotate_left
                · simp only [Act.put, List.setIfInBounds_toArray, List.set_cons_zero, List.set_cons_succ, i64_w, i32_w]
                  rfl
                refine pure_ (i := 3) (N := some 17) (v := ?_) (a' := ?_) #[true, true, true, true, false, false, false, false, false, false, false, false, false, false, false, false] rfl rfl (any_of HT_.out (by kernel_rfl)) (fun _ _ _ h => h) (Or.inl ⟨by rfl, ?_⟩) ?_ ?_
                rotate_left
                · intro w'
                  go_simp
                  with_reducible rfl
                rotate_left
                · simp only [Act.put, List.setIfInBounds_toArray, List.set_cons_zero, List.set_cons_succ, i64_w, i32_w]
                  rfl
                refine pure_ (i := 4) (N := some 18) (v := ?_) (a' := ?_) #[true, true, true, true, true, false, false, false, false, false, false, false, false, false, false, false] rfl rfl (any_of HT_.out (by kernel_rfl)) (fun _ _ _ h => h) (Or.inl ⟨by rfl, ?_⟩) ?_ ?_
                rotate_left
                · intro w'
                  go_simp
                  with_reducible rfl
                rotate_left
                · simp only [Act.put, List.setIfInBounds_toArray, List.set_cons_zero, List.set_cons_succ, i64_w, i32_w]
                  rfl
                refine pure_ (i := 5) (N := some 19) (v := ?_) (a' := ?_) #[true, true, true, true, true, true, false, false, false, false, false, false, false, false, false, false] rfl rfl (any_of HT_.out (by kernel_rfl)) (fun _ _ _ h => h) (Or.inl ⟨by rfl, ?_⟩) ?_ ?_
                rotate_left
                · intro w'
                  go_simp
                  with_reducible rfl
                rotate_left
                · simp only [Act.put, List.setIfInBounds_toArray, List.set_cons_zero, List.set_cons_succ, i64_w, i32_w]
                  rfl
                refine pure_ (i := 6) (N := some 20) (v := ?_) (a' := ?_) #[true, true, true, true, true, true, true, false, false, false, false, false, false, false, false, false] rfl rfl (any_of HT_.out (by kernel_rfl)) (fun _ _ _ h => h) (Or.inl ⟨by rfl, ?_⟩) ?_ ?_
                rotate_left
                · intro w'
                  go_simp
                  with_reducible rfl
                rotate_left
                · simp only [Act.put, List.setIfInBounds_toArray, List.set_cons_zero, List.set_cons_succ, i64_w, i32_w]
                  rfl
                refine pure_ (i := 8) (N := some 22) (v := ?_) (a' := ?_) #[true, true, true, true, true, true, true, false, true, false, false, false, false, false, false, false] rfl rfl (any_of HT_.out (by kernel_rfl)) (fun _ _ _ h => h) (Or.inl ⟨by rfl, ?_⟩) ?_ ?_
                rotate_left
                · intro w'
                  go_simp
                  with_reducible rfl
                rotate_left
                · simp only [Act.put, List.setIfInBounds_toArray, List.set_cons_zero, List.set_cons_succ, i64_w, i32_w]
                  rfl
                refine pure_ (i := 9) (N := some 23) (v := ?_) (a' := ?_) #[true, true, true, true, true, true, true, false, true, true, false, false, false, false, false, false] rfl rfl (any_of HT_.out (by kernel_rfl)) (fun _ _ _ h => h) (Or.inl ⟨by rfl, ?_⟩) ?_ ?_
                rotate_left
                · intro w'
                  go_simp
                  with_reducible rfl
                rotate_left
                · simp only [Act.put, List.setIfInBounds_toArray, List.set_cons_zero, List.set_cons_succ, i64_w, i32_w]
                  rfl
                refine pure_ (i := 10) (N := some 24) (v := ?_) (a' := ?_) #[true, true, true, true, true, true, true, false, true, true, true, false, false, false, false, false] rfl rfl (any_of HT_.out (by kernel_rfl)) (fun _ _ _ h => h) (Or.inl ⟨by rfl, ?_⟩) ?_ ?_
                rotate_left
                · intro w'
                  go_simp
                  with_reducible rfl
                rotate_left
                · simp only [Act.put, List.setIfInBounds_toArray, List.set_cons_zero, List.set_cons_succ, i64_w, i32_w]
                  rfl
                refine take_ (i := 7) (N := some 21) (v := ?_) (a' := ?_) #[true, true, true, true, true, true, true, true, true, true, true, false, false, false, false, false] rfl rfl (take_ofW HT_.out HW_.out (by kernel_rfl)) (fun _ _ _ h => h) (Or.inl ⟨by rfl, ?_⟩) hHeld ?_ ?_
                rotate_left
                · rintro w' ⟨s0, s1⟩
                  go_simp
                  with_reducible rfl
                rotate_left
                · simp only [Act.put, List.setIfInBounds_toArray, List.set_cons_zero, List.set_cons_succ, i64_w, i32_w]
                  rfl
                refine take_ (i := 11) (N := some 25) (v := ?_) (a' := ?_) #[true, true, true, true, true, true, true, true, true, true, true, true, false, false, false, false] rfl rfl (take_ofW HT_.out HW_.out (by kernel_rfl)) (fun _ _ _ h => h) (Or.inl ⟨by rfl, ?_⟩) hHeld ?_ ?_
                rotate_left
                · rintro w' ⟨s0, s1⟩
                  go_simp
                  with_reducible rfl
                rotate_left
                · simp only [Act.put, List.setIfInBounds_toArray, List.set_cons_zero, List.set_cons_succ, i64_w, i32_w]
                  rfl
                refine pure_ (i := 12) (N := some 26) (v := ?_) (a' := ?_) #[true, true, true, true, true, true, true, true, true, true, true, true, true, false, false, false] rfl rfl (any_of HT_.out (by kernel_rfl)) (fun _ _ _ h => h) (Or.inl ⟨by rfl, ?_⟩) ?_ ?_
                rotate_left
                · intro w'
                  go_simp
                  with_reducible rfl
                rotate_left
                · simp only [Act.put, List.setIfInBounds_toArray, List.set_cons_zero, List.set_cons_succ, i64_w, i32_w]
                  rfl
                refine last_ (i := 13) (N := none) #[true, true, true, true, true, true, true, true, true, true, true, true, true, true, false, false] rfl rfl (one_of HT_.out (by kernel_rfl)) (by decide) (fun K hK => ?_)
                refine skip_ (w1 := ?_) (by rfl) rfl ?_ ?_
                rotate_left
                · go_simp
                  rfl
                refine hK.out _ _ ?_
                clear hK K
                refine pure_ (i := 14) (N := some 27) (v := ?_) (a' := ?_) #[true, true, true, true, true, true, true, true, true, true, true, true, true, true, true, false] rfl rfl (any_of HT_.out (by kernel_rfl)) (fun _ _ _ h => h) (Or.inl ⟨by rfl, ?_⟩) ?_ ?_
                rotate_left
                · intro w'
                  go_simp
                  with_reducible rfl
                rotate_left
                · simp only [Act.put, List.setIfInBounds_toArray, List.set_cons_zero, List.set_cons_succ, i64_w, i32_w]
                  rfl
                refine last_ (i := 15) (N := none) #[true, true, true, true, true, true, true, true, true, true, true, true, true, true, true, true] rfl rfl (one_of HT_.out (by kernel_rfl)) (by decide) (fun K hK => ?_)
                refine skip_ (w1 := ?_) (by rfl) rfl ?_ ?_
                rotate_left
                · go_simp
                  rfl
                refine hK.out _ _ ?_
                clear hK K
                refine done_ (done_of HT_.out (by kernel_rfl)) ?_
                try go_wp2
                (try simp only [← hl0_1])
                go_roundg k1
                case measure => have := HK1.out; omega
                case rel => exact ⟨(y107), (wrap64 (x2_1 + 1)), (wrap64 (x3_1 - 1)), (by first | rfl | (simp; done) | (simp [*]; done)), (by first | rfl | (simp; done) | (simp [*]; done)), H', ⟨by have := HK1.out; omega⟩, ⟨by (try simp only [hl0_1]); (with_reducible repeat (first | apply Kd.R_alloc | apply Kd.R_drewN | apply Kd.R_drew)); exact HQ12.out⟩, ⟨by repeat (first | (with_reducible first | exact HK.out | apply Kept.alloc | apply Kept.drewN | apply Kept.drew | refine Kept.setCell ?_ HMgo8.out _ | refine Kept.setCell ?_ HMgo8.out _) | exact HK.out)⟩, ⟨by repeat (first | (with_reducible first | exact HB.out | apply below_alloc | apply pw_below_drewN | apply below_drew1 | refine below_set ?_ GB8.out | refine below_set ?_ GB8.out) | exact HB.out)⟩⟩
              · rw [if_neg c7] at H
                exact absurd H (by simp)
            · rw [if_neg c6] at H
              exact absurd H (by simp)
          · rw [if_neg c5] at H
            exact absurd H (by simp)
        · rw [if_neg c4] at H
          exact absurd H (by simp)
      · rw [if_neg c3] at H
        have c3b0 : decide (x2_1 < x3_1) = false := decide_eq_false c3
        clear c3
        obtain rfl := Option.some.inj H
        go_wp2
        first | go_end0 | ((try simp only [Exit.inBlock, Exit.then]); refine bodyPost_ret (results_none rfl _ _ _) rfl ?_)
        exact ⟨by first | rfl | (simp [errW_none, errW_some] <;> rfl) | (simp [*, errW_none, errW_some] <;> rfl), (by first | exact (by (with_reducible repeat (first | apply Kd.R_alloc | apply Kd.R_drewN | apply Kd.R_drew)); exact HO_0.out) | (simp only [hl0_1]; exact (by (with_reducible repeat (first | apply Kd.R_alloc | apply Kd.R_drewN | apply Kd.R_drew)); exact HO_0.out))), by repeat (first | (with_reducible first | exact HB.out | apply below_alloc | apply pw_below_drewN | apply below_drew1) | exact HB.out), by repeat (first | (with_reducible first | exact HK.out | apply Kept.alloc | apply Kept.drewN | apply Kept.drew) | exact HK.out)⟩

/-! ### retain_Keep: function 9 (given) -/
def retain_Keep.n (l0 : List Int) (a0 : Int) : Nat := (mx 0 (wrap64 ((l0.length : Int) - a0))).toNat
def retain_Keep.f (k : Nat) (l0 : List Int) (a1_0 : Int) (a1_1 : Int) (a1_2 : Int) : Option (List Int × Int) :=
  if l0.length * 8 ≤ 1099511627776 then
    (retain_Check.f a1_0 a1_1 a1_2).bind fun c => if c = 0 then
      (retain_rise.f k l0).bind fun b => if b = true then
        (if retain_Keep.n l0 a1_0 ≤ l0.length then
          (slices_Reverse_int_int.f k ((Iter.down (l0.take (retain_Keep.n l0 a1_0)) a1_1 (retain_Keep.n l0 a1_0)).take a1_2.toNat)).bind fun m => if m.length ≤ l0.length then some (m ++ l0.drop (retain_Keep.n l0 a1_0), 0) else none
        else none)
      else some ([], 4)
    else some ([], c)
  else none
theorem retain_Keep.mono : ∀ a0 a1 a2 a3 k, LeO (retain_Keep.f k a0 a1 a2 a3) (retain_Keep.f (k + 1) a0 a1 a2 a3) := by
  intro a0 a1 a2 a3 k
  unfold retain_Keep.f
  repeat' first
      | exact slices_Reverse_int_int.mono _ _
      | exact retain_rise.mono _ _
      | exact LeO.none _
      | exact LeO.refl _
      | refine LeO.ite ?_ ?_
      | refine LeO.bind ?_ (fun _ => ?_)
section
open Go.Shelf
attribute [local go_sem] Oper.semAt_some
theorem C_cells {w : World} {A : Option Addr} {n : Nat} {xs : List Int} (h : Kd.C (Kd.int .i64) w A n xs) (h0 : 0 < n) : ∃ ad, A = some ad ∧ ad.block < w.heap.size ∧ ∀ j, j < n → w.cell? (ad.add j) = some (.int .i64 (Iter.zd xs j)) := by
  obtain ⟨hl, _, hc⟩ := h
  obtain ⟨ad, hA, hcell⟩ := hc h0
  have cell : ∀ j, j < n → w.cell? (ad.add j) = some (.int .i64 (Iter.zd xs j)) := by
    intro j hj
    obtain ⟨c, hs, hk, hu⟩ := hcell j _ (List.getElem?_eq_getElem (by omega : j < xs.length))
    have hk' : c = [.int .i64 xs[j]] := hk
    have := hu 0 (.int .i64 xs[j]) (by rw [hk']; rfl)
    have e : Iter.zd xs j = xs[j] := by unfold Iter.zd; rw [List.getElem?_eq_getElem (by omega)]; rfl
    rw [e]
    rw [show j * (Kd.int .i64).sz + 0 = j from by show j * 1 + 0 = j; omega] at this
    exact this
  refine ⟨ad, hA, ?_, cell⟩
  have := World.block_lt_of_cell? w _ (cell 0 h0)
  rwa [Addr.add_zero'] at this
set_option maxHeartbeats 4000000 in
set_option maxRecDepth 100000 in
theorem retain_Keep.good (k : Nat) (A0 : Option Addr) (c0 : Nat) (l0 : List Int) (a0 : Int) (a1 : Int) (r : Nat) (m : List Int) (w : World) (hr0 : Kd.C (Kd.int .i64) w A0 l0.length l0) (hc0 : l0.length ≤ c0) (hl : l0.length * 8 ≤ 1099511627776)
    (hC : retain_Check.f a0 a1 (r : Int) = some 0) (hR : retain_rise.f k l0 = some true) (ha1 : 1 ≤ a1) (ha2 : a1 ≤ 1152921504606846976) (n : Nat) (hn : mx 0 (wrap64 ((l0.length : Int) - a0)) = (n : Int)) (hnl : n ≤ l0.length) (hml : m.length ≤ l0.length) (hV : slices_Reverse_int_int.f k ((Iter.down (l0.take n) a1 n).take r) = some m) :
    Calls Try.prog 9 #[.slice A0 l0.length c0, .agg #[.int .i64 a0, .int .i64 a1, .int .i64 (r : Int)]] w fun e w' => ∃ v0_ : Value, e = .returned (.tuple #[v0_, .int .i64 0]) ∧ Kd.R (Kd.int .i64) 3 w' w.heap.size (fun _ => True) v0_ (m ++ l0.drop n) ∧ Below w.heap.size w w' := by
  have HR0 := Aside0.mk hr0
  have HC := Aside0.mk hC
  have HRi := Aside0.mk hR
  have HV := Aside0.mk hV
  have HLM := Aside0.mk (show m.length ≤ l0.length from hml)
  have hnz : (0 : Int) ≤ (n : Int) := by omega
  have hnle : (n : Int) ≤ (l0.length : Int) := by omega
  have hn1 : decide ((0 : Int) ≤ (n : Int)) = true := decide_eq_true hnz
  have hn_ : (if 0 < wrap64 ((l0.length : Int) - a0) then wrap64 ((l0.length : Int) - a0) else 0) = (n : Int) := hn
  obtain ⟨i0, hi0, hz0, hsz0, hz2⟩ := info_parts info3
  have hcut := cut_to (P := Try.prog) 22 3 .i64 Try.underlying22 hi0 A0 l0.length c0 (n : Int) hnz hnle hc0
  rw [Int.toNat_natCast] at hcut
  clear hr0 hC hR hV
  refine (callsIn_wide (n := 3)).1 (callsIn_of_wp_marks Try.func9 rfl trivial (wpIn_wide.2 ?_) rfl)
  simp only [Try.ntmps9, List.size_toArray, List.length_cons, List.length_nil, Nat.reduceAdd, Nat.reduceSub, Array.replicate_succ, Array.replicate_zero, List.push_toArray, List.append_toArray, List.nil_append, List.cons_append]
  go_wp2_with (first
    | ((with_reducible refine gate_dst (N := 3) rfl ?_); refine box_event ?hg (N := 3) ?hd (cs := #[.int .i64 a0, .int .i64 a1, .int .i64 (r : Int)]) (t := 24) ?hr ?_; (case hd => rfl); (case hg => rfl); (case hr => first | (go_simp; done) | (go_simp; rfl)); intro gb hg w1 hbox hb; have BK := Aside0.mk hbox; have HB := Aside0.mk hb; have GE := Aside0.mk hg; have HR1 := Aside0.mk (Kd.C_below HR0.out hb); have hcz1_0 : w1.cell? ⟨gb, 0, none⟩ = some (.int .i64 a0) := (blk_cell BK.out 0).trans rfl; have hcz1_1 : w1.cell? ⟨gb, 1, none⟩ = some (.int .i64 a1) := (blk_cell BK.out 1).trans rfl; have hcz1_2 : w1.cell? ⟨gb, 2, none⟩ = some (.int .i64 (r : Int)) := (blk_cell BK.out 2).trans rfl; clear hg hbox hb)
    | (go_at_call 15; refine (retain_Check.calls a0 a1 (r : Int) 0 w1 HC.out).mono ?_; rintro e w2 ⟨rfl, hb2⟩; have HB2 := Aside0.mk (below_step HB.out hb2); have HR2 := Aside0.mk (Kd.C_below HR1.out hb2); have BK2 := Aside0.mk (blk_below (g := gb) (o := .cells #[.int .i64 a0, .int .i64 a1, .int .i64 (r : Int)] 24 (0, 0)) BK.out hb2); clear hb2; have hcz2_0 : w2.cell? ⟨gb, 0, none⟩ = some (.int .i64 a0) := (blk_cell BK2.out 0).trans rfl; have hcz2_1 : w2.cell? ⟨gb, 1, none⟩ = some (.int .i64 a1) := (blk_cell BK2.out 1).trans rfl; have hcz2_2 : w2.cell? ⟨gb, 2, none⟩ = some (.int .i64 (r : Int)) := (blk_cell BK2.out 2).trans rfl)
    | (go_at_call 18; refine (retain_rise.calls k A0 c0 l0 true w2 HR2.out hc0 HRi.out).mono ?_; rintro e w3 ⟨rfl, ⟨nd, rfl⟩⟩)
    | (go_at_call 19; refine (callsIn_wide.1 (Iter.rows_in 3 A0 n c0 a1 _)).mono ?_; rintro e w4 ⟨rfl, rfl⟩))
  obtain ⟨W3, hW3⟩ : ∃ W3, (w2.drewN nd).alloc (.cells #[.slice none 0 0] 22) = W3 := ⟨_, rfl⟩
  have bO : Boxed W3 w2.heap.size 22 (.slice none 0 0) := by rw [← hW3]; exact Boxed.new (w2.drewN nd) 22 _
  have BO := Aside0.mk bO
  have HB3 := Aside0.mk (show Below w.heap.size w W3 by rw [← hW3]; exact below_alloc (pw_below_drewN HB2.out nd) _)
  have bP : W3.heap[gb]? = some (.cells #[.int .i64 a0, .int .i64 a1, .int .i64 (r : Int)] 24 (0, 0)) := by rw [← hW3]; exact blk_alloc (blk_drewN BK2.out nd) _
  have BP := Aside0.mk bP
  have hs3 : W3.heap.size = w2.heap.size + 1 := by rw [← hW3]; simp
  have HS3 := Aside0.mk hs3
  have hcz3_1 : W3.cell? ⟨gb, 1, none⟩ = some (.int .i64 a1) := (blk_cell bP 1).trans rfl
  rw [hW3]
  obtain ⟨B8, hB8⟩ : ∃ b, w2.heap.size = b := ⟨_, rfl⟩
  rw [hB8] at BO HS3 ⊢
  clear bO bP hs3 hW3 hcz1_0 hcz1_1 hcz1_2 hcz2_0 hcz2_1 hcz2_2
  go_still_tail 5, (by kernel_rfl)
  change wpList _ _ _ _ _ W3.drew
  obtain ⟨W4, hW4⟩ : ∃ W4, W3.drew = W4 := ⟨_, rfl⟩
  have BO4 := Aside0.mk (show Boxed W4 B8 22 (.slice none 0 0) by rw [← hW4]; exact BO.out)
  have BP4 := Aside0.mk (show W4.heap[gb]? = some (.cells #[.int .i64 a0, .int .i64 a1, .int .i64 (r : Int)] 24 (0, 0)) by rw [← hW4]; exact BP.out)
  have HB4 := Aside0.mk (show Below w.heap.size w W4 by rw [← hW4]; exact below_drew HB3.out)
  have HS4 := Aside0.mk (show W4.heap.size = B8 + 1 by rw [← hW4]; exact HS3.out)
  rw [hW4]
  clear hW4 BO BP HB3 HS3 hcz3_1
  go_wp2_with (first
    | (go_at_call 19; refine (callsIn_wide.1 (Iter.rows_in 3 A0 n c0 a1 W4)).mono ?_; rintro e w5 ⟨rfl, rfl⟩))
  rw [HS4.out]
  have hlen : (l0.take n).length = n := by rw [List.length_take]; omega
  have hgb : gb < B8 := by
    have h1 := (Array.getElem?_eq_some_iff.mp BK2.out).1
    omega
  have hwB : w.heap.size ≤ B8 := by rw [← hB8]; exact HB2.out.size
  obtain ⟨W5, hW5⟩ : ∃ W5, (W4.alloc (.cells #[.slice A0 n c0] 22)).alloc (.cells #[.int .i64 a1] 3) = W5 := ⟨_, rfl⟩
  have HS5 : W5.heap.size = B8 + 3 := by rw [← hW5]; simp [HS4.out]
  have bS : Boxed W5 (B8 + 1) 22 (.slice A0 (l0.take n).length c0) := by
    rw [← hW5, hlen, ← HS4.out]
    exact (Boxed.new W4 22 _).alloc _
  have bE : Boxed W5 (B8 + 1 + 1) 3 (.int .i64 a1) := by
    have h1 := Boxed.new (W4.alloc (.cells #[.slice A0 n c0] 22)) 3 (.int .i64 a1)
    rw [World.size_alloc, HS4.out, hW5] at h1
    exact h1
  have bO : Boxed W5 B8 22 (.slice none 0 0) := by rw [← hW5]; exact (BO4.out.alloc _).alloc _
  have bP : W5.heap[gb]? = some (.cells #[.int .i64 a0, .int .i64 a1, .int .i64 (r : Int)] 24 (0, 0)) := by rw [← hW5]; exact blk_alloc (blk_alloc BP4.out _) _
  have HB5 : Below w.heap.size w W5 := by rw [← hW5]; exact below_alloc (below_alloc HB4.out _) _
  have hA : 0 < (l0.take n).length → ∃ ad, A0 = some ad ∧ ad.block < w.heap.size ∧ ∀ j, j < (l0.take n).length → W5.cell? (ad.add j) = some (.int .i64 (Iter.zd (l0.take n) j)) := by
    intro h0
    obtain ⟨ad, e1, e2, e3⟩ := C_cells HR0.out (by omega)
    refine ⟨ad, e1, e2, fun j hj => ?_⟩
    rw [hlen] at hj
    rw [HB5.cell (World.block_lt_of_cell? w _ (e3 j (by omega))), e3 j (by omega)]
    unfold Iter.zd
    rw [List.getElem?_take, if_pos hj]
  have hcut2 := cut_from (P := Try.prog) 22 3 .i64 Try.underlying22 hi0 1 hsz0 A0 l0.length c0 (n : Int) hnz hnle
  rw [Int.toNat_natCast, show l0.length - n = (l0.drop n).length from List.length_drop.symm] at hcut2
  obtain ⟨A2, hA2⟩ : ∃ A2, (if c0 = n then A0 else A0.map (·.add (n * 1))) = A2 := ⟨_, rfl⟩
  rw [hA2] at hcut2
  have HD := Aside0.mk (show Kd.C (Kd.int .i64) w A2 (l0.length - n) (l0.drop n) by
    have h := Kd.C_drop (m := n) HR0.out hnl hc0
    rw [List.length_drop] at h
    rw [← hA2]
    exact h)
  rw [hW5]
  obtain ⟨xs, hxs⟩ : ∃ xs, Iter.down (l0.take n) a1 (l0.take n).length = xs := ⟨_, rfl⟩
  have hst := Iter.rows_stops 2 (by omega) (B8 + 1) (B8 + 1 + 1) w.heap.size A0 c0 (l0.take n) a1 ha1 ha2 (by omega) W5 bS bE hA
  rw [hxs] at hst
  have hxl : xs.length ≤ n := by rw [← hxs]; have := Iter.down_len (l0.take n) a1 (l0.take n).length; omega
  rw [hlen] at hst hxs
  rw [hxs] at HV
  clear hW5 HS4 BO4 BP4 HB4
  refine (wpIn_wide (n := 3)).1 ?_
  refine wpIn_rangeFunc_ownG (α := Int) rfl (by omega) (gf := 28) (lb := #[.pointer (some ⟨B8 + 1, 0, none⟩), .pointer (some ⟨B8 + 1 + 1, 0, none⟩)]) rfl trivial (enters_of Try.func28 (by kernel_rfl) rfl) hst Iter.Kp.t (Iter.Kp.b (by omega) (by omega) (by omega)) (Below.refl _ _) (fun _ => rfl)
    (fun pre W => ((∃ v, Boxed W B8 22 v ∧ W.ownsRow (B8 + 3) 3 1 v pre.length (pre.map (Value.int .i64)) ∧ pre.length ≤ r) ∧ (W.heap[gb]? = some (.cells #[.int .i64 a0, .int .i64 a1, .int .i64 (r : Int)] 24 (0, 0)) ∧ B8 + 3 ≤ W.heap.size)) ∧ Below w.heap.size w W)
    (fun c pre W => (c = .exit 0 ∧ pre ≠ [] ∧ pre.dropLast.length = r) ∧ ((∃ v, Boxed W B8 22 v ∧ W.ownsRow (B8 + 3) 3 1 v pre.dropLast.length (pre.dropLast.map (Value.int .i64)) ∧ True) ∧ (W.heap[gb]? = some (.cells #[.int .i64 a0, .int .i64 a1, .int .i64 (r : Int)] 24 (0, 0)) ∧ B8 + 3 ≤ W.heap.size)) ∧ Below w.heap.size w W)
    (OwnFrom.and (OwnFrom.and (Own.from (holdsRow_own (B8 + 3) B8 22 3 1 (fun pre : List Int => pre.length) (fun pre => pre.map (Value.int .i64)) (fun pre _ => pre.length ≤ r)) _) (OwnFrom.and (Own.from (Iter.cells_own gb _ 24 (0, 0)) _) (Own.from (Iter.size_own (B8 + 3)) _))) (ownFrom_below (Nat.le_refl _) (by omega)))
    (fun c => OwnFrom.and (ownFrom_pure _ (fun pre : List Int => c = .exit 0 ∧ pre ≠ [] ∧ pre.dropLast.length = r)) (OwnFrom.and (OwnFrom.and (Own.from (holdsRow_own (B8 + 3) B8 22 3 1 (fun pre : List Int => pre.dropLast.length) (fun pre => pre.dropLast.map (Value.int .i64)) (fun _ _ => True)) _) (OwnFrom.and (Own.from (Iter.cells_own gb _ 24 (0, 0)) _) (Own.from (Iter.size_own (B8 + 3)) _))) (ownFrom_below (Nat.le_refl _) (by omega))))
    ⟨⟨⟨_, bO, World.ownsRow_nil _ _ _ _, Nat.zero_le _⟩, bP, Nat.le_of_eq HS5.symm⟩, HB5⟩
    (fun x => { tmps := #[.slice A0 l0.length c0, .agg #[.int .i64 a0, .int .i64 a1, .int .i64 (r : Int)], undef, .pointer (some ⟨gb, 0, none⟩), .slice none 0 0, .int .i64 0, .int .i64 0, .int .i64 (n : Int), .pointer (some ⟨B8, 0, none⟩), .int .i64 x, .agg #[.int .i64 a0, .int .i64 a1, .int .i64 (r : Int)], .int .i64 0, .int .i64 0, .bool false, undef, .slice A0 l0.length c0, .bool true, .bool false, .slice A0 l0.length c0, .int .i64 (l0.length : Int), .pointer (some ⟨gb, 0, none⟩), .int .i64 a0, .int .i64 (wrap64 ((l0.length : Int) - a0)), .int .i64 (n : Int), .slice A0 l0.length c0, .int .i64 (n : Int), .slice A0 n c0, .pointer (some ⟨gb, 1, none⟩), .int .i64 a1, .func (.func 28) #[] #[.pointer (some ⟨B8 + 1, 0, none⟩), .pointer (some ⟨B8 + 1 + 1, 0, none⟩)], .int .i64 x, undef, undef, undef, undef, undef, undef, undef, undef, undef, undef, undef, undef, undef, undef, undef, undef], defers := [] }) ?assign ?body ?done ?stop
  case assign =>
    intro l x W K hK
    gi_wp2
    exact hK
  case body =>
    rintro l pre x W ⟨⟨⟨v, hv, hrow, hle⟩, hP, hz⟩, hB⟩ hlt
    obtain ⟨A', c', rfl⟩ := own_slice hrow
    have hc := hv.cell
    have hp2 : W.cell? ⟨gb, 2, none⟩ = some (.int .i64 (r : Int)) := (blk_cell hP 2).trans rfl
    by_cases hr : pre.length = r
    · have e1 : ((pre.length : Int) == (r : Int)) = true := by rw [hr]; simp
      have e2 : decide ((pre.length : Int) = (r : Int)) = true := decide_eq_true (by omega)
      gi_wp2
      refine ⟨KeepsFrom.refl _ _, ⟨rfl, by simp, by rw [List.dropLast_concat]; exact hr⟩, ⟨⟨_, hv, by rw [List.dropLast_concat]; exact hrow, trivial⟩, hP, hz⟩, hB⟩
    · have e1 : ((pre.length : Int) == (r : Int)) = false := beq_eq_false_iff_ne.mpr (by omega)
      have e2 : decide ((pre.length : Int) = (r : Int)) = false := decide_eq_false (by omega)
      gi_wp2_with (gi_at_builtin; go_loud (refine wpListIn_append_own _ rfl _ _ 22 rfl (B8 + 3) 3 i0 (.int .i64 0) 1 8 Try.underlying22 hi0 hz0 hsz0 hz2 rfl (by decide) _ _ _ rfl (hrow.alloc _) ⟨W.heap.size, 0, none⟩ 1 1 [.int .i64 x] rfl rfl (cell_one_new _ _ _) (by simp [Value.oneCell']) (by unfold maxLen; omega) (by omega) (by have := hB.size; simp; omega) ?_; intro v' w1 hown' hgrow _; obtain ⟨g', cap', rfl⟩ := ownsRow_succ hown'; obtain ⟨hv1, hv2, hr2, hk2, hb2, hq2⟩ := Iter.gathered (n₀ := w.heap.size) (n1 := B8 + 3) hv hrow (by omega) (by omega) (by omega) (by omega) hown' hgrow; have hc1 := hv1.cell; have hf1 := hv1.frozen))
      have hg1 : some B8 ≠ (none : Option Nat) := by simp
      refine ⟨hk2.from _, ⟨hb2, hq2 _ (by omega) (by omega), hq2 _ (by omega) (by omega)⟩, ⟨⟨_, hv2, ?_, ?_⟩, (hq2 gb (by omega) (by omega)).trans hP, Nat.le_trans hz hk2.size⟩, hB.trans hb2⟩
      · rw [List.length_append, List.map_append]; exact hr2
      · rw [List.length_append, List.length_singleton]; omega
  case done =>
    rintro D ys W hD hys ⟨⟨⟨v, hv, hrow, hle⟩, hP, hz⟩, hB⟩ hK
    subst hys
    have htk : ys.take r = ys := List.take_of_length_le hle
    rw [← htk] at hrow
    generalize hxx : ys = xs at *
    have hnb : ∀ q, (q < B8 + 3 ∨ q = D) → v.ownBlock ≠ some q := by
      intro q hq e
      rcases hrow.2 with ⟨rfl, _⟩ | ⟨g, cap, cur, rfl, hg, hgb2, _⟩
      · simp [Value.ownBlock] at e
      · obtain rfl : g = q := by simpa [Value.ownBlock] using e
        rcases hq with hq | rfl
        · omega
        · rw [hK] at hgb2; cases hgb2
    have HO := Aside0.mk (Kd.R_of_own (enc := Value.int .i64) (h1 := fun _ => rfl) (ok := fun k => v.ownBlock = some k) (xs := xs.take r) (Iter.lower hrow (show w.heap.size ≤ B8 + 3 by omega)) (fun k h => h))
    have HBW := Aside0.mk hB
    have HKW := Aside0.mk hK
    have HNB := Aside0.mk hnb
    have HVW := Aside0.mk hv
    have hc := hv.cell
    clear hrow hB hK hnb hP
    go_wp2_with (first | (go_at_call 20; refine (slices_Reverse_int_int.calls k (fun k => v.ownBlock = some k) v (xs.take r) m w W HBW.out HO.out HV.out).mono ?_; rintro e W6 ⟨rfl, hr6, hb6, hk6⟩; have HR6 := Aside0.mk hr6; have HB6 := Aside0.mk hb6; have hc6 : W6.cell? ⟨B8, 0, none⟩ = some v := (World.cell?_of_block (a := ⟨B8, 0, none⟩) (hk6.2 B8 HVW.out.lt (HNB.out B8 (.inl (by omega))))).trans hc; have HK6 := Aside0.mk ((hk6.2 D (Array.getElem?_eq_some_iff.mp HKW.out).1 (HNB.out D (.inr rfl))).trans HKW.out); have HS6 := Aside0.mk hk6.1; clear hr6 hb6 hk6))
    go_still_tail 4, (by kernel_rfl)
    change wpList _ _ _ _ _ W6.drew
    go_wp2_with (first | ((with_reducible refine gate_builtin (b := .append) (xs := #[.tmp 42, .tmp 45]) rfl ?_); go_loud (at_builtin; refine Kd.R_append_rows (Kd.int .i64) (w0 := w) w.heap.size rfl (.tmp 42) (.tmp 45) 22 3 (.int .i64 0) 8 rfl Try.underlying22 info3 rfl (by decide) (by omega) v m (l0.drop n) _ _ _ (fun k => v.ownBlock = some k ∨ W.heap.size ≤ k) (fun _ => False) rfl rfl (Kd.R_drew HR6.out) (Kd.C_drew (Kd.C_below HD.out HB6.out)) (fun _ _ h => h) (fun _ h => h.elim) (fun q hq => .inr (Nat.le_trans HS6.out hq)) (below_drew HB6.out) HB6.out.size (by have := HLM.out; omega) ?_; intro v7 W7 ho7 hb7 hg7 hat7; have HO7 := Aside0.mk ho7; have HB7 := Aside0.mk hb7; have HK7 := Aside0.mk ((hg7.block D (Array.getElem?_eq_some_iff.mp HK6.out).1 (HNB.out D (.inr rfl)).symm).trans HK6.out); clear ho7 hb7 hg7 hat7)))
    refine ⟨by simp, .inl ⟨_, _, rfl, run_takeDeferred HK7.out, ?_⟩⟩
    refine ⟨_, results_tmp2 rfl _ _ _, v7, rfl, ?_, ?_⟩
    · exact Kd.R_of_own (ownsRow_putObj (Kd.own_of_R HO7.out) _ HK7.out rfl) (fun _ _ => trivial)
    · exact HB7.out.trans (belowK_b (w := w) (Nat.le_refl _) W7 D _ _ (by omega) HK7.out rfl rfl)
  case stop =>
    rintro D c pre W hD hSp ⟨⟨rfl, hne, hdl⟩, ⟨⟨v, hv, hrow, _⟩, hP, hz⟩, hB⟩ hK
    have htk : pre.dropLast = xs.take r := by
      rw [← hdl]
      exact List.prefix_iff_eq_take.mp ((List.dropLast_prefix pre).trans hSp)
    rw [htk] at hrow
    refine wpIn_wide.2 ?_
    have hnb : ∀ q, (q < B8 + 3 ∨ q = D) → v.ownBlock ≠ some q := by
      intro q hq e
      rcases hrow.2 with ⟨rfl, _⟩ | ⟨g, cap, cur, rfl, hg, hgb2, _⟩
      · simp [Value.ownBlock] at e
      · obtain rfl : g = q := by simpa [Value.ownBlock] using e
        rcases hq with hq | rfl
        · omega
        · rw [hK] at hgb2; cases hgb2
    have HO := Aside0.mk (Kd.R_of_own (enc := Value.int .i64) (h1 := fun _ => rfl) (ok := fun k => v.ownBlock = some k) (xs := xs.take r) (Iter.lower hrow (show w.heap.size ≤ B8 + 3 by omega)) (fun k h => h))
    have HBW := Aside0.mk hB
    have HKW := Aside0.mk hK
    have HNB := Aside0.mk hnb
    have HVW := Aside0.mk hv
    have hc := hv.cell
    clear hrow hB hK hnb hP
    go_wp2_with (first | (go_at_call 20; refine (slices_Reverse_int_int.calls k (fun k => v.ownBlock = some k) v (xs.take r) m w W HBW.out HO.out HV.out).mono ?_; rintro e W6 ⟨rfl, hr6, hb6, hk6⟩; have HR6 := Aside0.mk hr6; have HB6 := Aside0.mk hb6; have hc6 : W6.cell? ⟨B8, 0, none⟩ = some v := (World.cell?_of_block (a := ⟨B8, 0, none⟩) (hk6.2 B8 HVW.out.lt (HNB.out B8 (.inl (by omega))))).trans hc; have HK6 := Aside0.mk ((hk6.2 D (Array.getElem?_eq_some_iff.mp HKW.out).1 (HNB.out D (.inr rfl))).trans HKW.out); have HS6 := Aside0.mk hk6.1; clear hr6 hb6 hk6))
    go_still_tail 4, (by kernel_rfl)
    change wpList _ _ _ _ _ W6.drew
    go_wp2_with (first | ((with_reducible refine gate_builtin (b := .append) (xs := #[.tmp 42, .tmp 45]) rfl ?_); go_loud (at_builtin; refine Kd.R_append_rows (Kd.int .i64) (w0 := w) w.heap.size rfl (.tmp 42) (.tmp 45) 22 3 (.int .i64 0) 8 rfl Try.underlying22 info3 rfl (by decide) (by omega) v m (l0.drop n) _ _ _ (fun k => v.ownBlock = some k ∨ W.heap.size ≤ k) (fun _ => False) rfl rfl (Kd.R_drew HR6.out) (Kd.C_drew (Kd.C_below HD.out HB6.out)) (fun _ _ h => h) (fun _ h => h.elim) (fun q hq => .inr (Nat.le_trans HS6.out hq)) (below_drew HB6.out) HB6.out.size (by have := HLM.out; omega) ?_; intro v7 W7 ho7 hb7 hg7 hat7; have HO7 := Aside0.mk ho7; have HB7 := Aside0.mk hb7; have HK7 := Aside0.mk ((hg7.block D (Array.getElem?_eq_some_iff.mp HK6.out).1 (HNB.out D (.inr rfl)).symm).trans HK6.out); clear ho7 hb7 hg7 hat7)))
    refine ⟨by simp, .inl ⟨_, _, rfl, run_takeDeferred HK7.out, ?_⟩⟩
    refine ⟨_, results_tmp2 rfl _ _ _, v7, rfl, ?_, ?_⟩
    · exact Kd.R_of_own (ownsRow_putObj (Kd.own_of_R HO7.out) _ HK7.out rfl) (fun _ _ => trivial)
    · exact HB7.out.trans (belowK_b (w := w) (Nat.le_refl _) W7 D _ _ (by omega) HK7.out rfl rfl)
end
set_option maxHeartbeats 4000000 in
set_option maxRecDepth 100000 in
theorem retain_Keep.bad1 (A0 : Option Addr) (c0 : Nat) (l0 : List Int) (a0 : Int) (a1 : Int) (a2 : Int) (c : Int) (hc1 : c ≠ 0) (w : World) (hr0 : Kd.C (Kd.int .i64) w A0 l0.length l0) (hc0 : l0.length ≤ c0) (hC : retain_Check.f a0 a1 a2 = some c) :
    Calls Try.prog 9 #[.slice A0 l0.length c0, .agg #[.int .i64 a0, .int .i64 a1, .int .i64 a2]] w fun e w' => ∃ v0_ : Value, e = .returned (.tuple #[v0_, .int .i64 c]) ∧ Kd.R (Kd.int .i64) 3 w' w.heap.size (fun _ => True) v0_ [] ∧ Below w.heap.size w w' := by
  have HR0 := Aside0.mk hr0
  have HC := Aside0.mk hC
  have h0' : (c != 0) = true := by simpa using hc1
  clear hr0 hC
  go_enter Try.func9, Try.ntmps9
  go_wp2_with (first
    | ((with_reducible refine gate_dst (N := 3) rfl ?_); refine box_event ?hg (N := 3) ?hd (cs := #[.int .i64 a0, .int .i64 a1, .int .i64 a2]) (t := 24) ?hr ?_; (case hd => rfl); (case hg => rfl); (case hr => first | (go_simp; done) | (go_simp; rfl)); intro gb hg w1 hbox hb; have BK := Aside0.mk hbox; have HB := Aside0.mk hb; have GE := Aside0.mk hg; have HR1 := Aside0.mk (Kd.C_below HR0.out hb); have hcz1_0 : w1.cell? ⟨gb, 0, none⟩ = some (.int .i64 a0) := (blk_cell BK.out 0).trans rfl; have hcz1_1 : w1.cell? ⟨gb, 1, none⟩ = some (.int .i64 a1) := (blk_cell BK.out 1).trans rfl; have hcz1_2 : w1.cell? ⟨gb, 2, none⟩ = some (.int .i64 a2) := (blk_cell BK.out 2).trans rfl; clear hg hbox hb)
    | (go_at_call 15; refine (retain_Check.calls a0 a1 a2 c w1 HC.out).mono ?_; rintro e w2 ⟨rfl, hb2⟩; have HB2 := Aside0.mk (below_step HB.out hb2); have HR2 := Aside0.mk (Kd.C_below HR1.out hb2); have BK2 := Aside0.mk (blk_below (g := gb) (o := .cells #[.int .i64 a0, .int .i64 a1, .int .i64 a2] 24 (0, 0)) BK.out hb2); clear hb2; have hcz2_0 : w2.cell? ⟨gb, 0, none⟩ = some (.int .i64 a0) := (blk_cell BK2.out 0).trans rfl; have hcz2_1 : w2.cell? ⟨gb, 1, none⟩ = some (.int .i64 a1) := (blk_cell BK2.out 1).trans rfl; have hcz2_2 : w2.cell? ⟨gb, 2, none⟩ = some (.int .i64 a2) := (blk_cell BK2.out 2).trans rfl))
  go_ret2
  exact ⟨_, rfl, Kd.R_nil _ _ _ _ _, HB2.out⟩
set_option maxHeartbeats 4000000 in
set_option maxRecDepth 100000 in
theorem retain_Keep.bad2 (k : Nat) (A0 : Option Addr) (c0 : Nat) (l0 : List Int) (a0 : Int) (a1 : Int) (a2 : Int) (w : World) (hr0 : Kd.C (Kd.int .i64) w A0 l0.length l0) (hc0 : l0.length ≤ c0) (hC : retain_Check.f a0 a1 a2 = some 0) (hR : retain_rise.f k l0 = some false) :
    Calls Try.prog 9 #[.slice A0 l0.length c0, .agg #[.int .i64 a0, .int .i64 a1, .int .i64 a2]] w fun e w' => ∃ v0_ : Value, e = .returned (.tuple #[v0_, .int .i64 4]) ∧ Kd.R (Kd.int .i64) 3 w' w.heap.size (fun _ => True) v0_ [] ∧ Below w.heap.size w w' := by
  have HR0 := Aside0.mk hr0
  have HC := Aside0.mk hC
  have HRi := Aside0.mk hR
  clear hr0 hC hR
  go_enter Try.func9, Try.ntmps9
  go_wp2_with (first
    | ((with_reducible refine gate_dst (N := 3) rfl ?_); refine box_event ?hg (N := 3) ?hd (cs := #[.int .i64 a0, .int .i64 a1, .int .i64 a2]) (t := 24) ?hr ?_; (case hd => rfl); (case hg => rfl); (case hr => first | (go_simp; done) | (go_simp; rfl)); intro gb hg w1 hbox hb; have BK := Aside0.mk hbox; have HB := Aside0.mk hb; have GE := Aside0.mk hg; have HR1 := Aside0.mk (Kd.C_below HR0.out hb); have hcz1_0 : w1.cell? ⟨gb, 0, none⟩ = some (.int .i64 a0) := (blk_cell BK.out 0).trans rfl; have hcz1_1 : w1.cell? ⟨gb, 1, none⟩ = some (.int .i64 a1) := (blk_cell BK.out 1).trans rfl; have hcz1_2 : w1.cell? ⟨gb, 2, none⟩ = some (.int .i64 a2) := (blk_cell BK.out 2).trans rfl; clear hg hbox hb)
    | (go_at_call 15; refine (retain_Check.calls a0 a1 a2 0 w1 HC.out).mono ?_; rintro e w2 ⟨rfl, hb2⟩; have HB2 := Aside0.mk (below_step HB.out hb2); have HR2 := Aside0.mk (Kd.C_below HR1.out hb2); have BK2 := Aside0.mk (blk_below (g := gb) (o := .cells #[.int .i64 a0, .int .i64 a1, .int .i64 a2] 24 (0, 0)) BK.out hb2); clear hb2; have hcz2_0 : w2.cell? ⟨gb, 0, none⟩ = some (.int .i64 a0) := (blk_cell BK2.out 0).trans rfl; have hcz2_1 : w2.cell? ⟨gb, 1, none⟩ = some (.int .i64 a1) := (blk_cell BK2.out 1).trans rfl; have hcz2_2 : w2.cell? ⟨gb, 2, none⟩ = some (.int .i64 a2) := (blk_cell BK2.out 2).trans rfl)
    | (go_at_call 18; refine (retain_rise.calls k A0 c0 l0 false w2 HR2.out hc0 HRi.out).mono ?_; rintro e w3 ⟨rfl, ⟨nd, rfl⟩⟩))
  go_ret2
  exact ⟨_, rfl, Kd.R_nil _ _ _ _ _, by repeat (first | exact HB2.out | apply pw_below_drewN)⟩
theorem retain_Keep.calls (k : Nat) (A0 : Option Addr) (c0 : Nat) (l0 : List Int) (a1_0 : Int) (a1_1 : Int) (a1_2 : Int) (r1 : List Int) (r2 : Int) (w : World) (hr0 : Kd.C (Kd.int .i64) w A0 l0.length l0) (hc0 : l0.length ≤ c0) (h : retain_Keep.f k l0 a1_0 a1_1 a1_2 = some (r1, r2)) :
    Calls Try.prog 9 #[.slice A0 l0.length c0, .agg #[.int .i64 a1_0, .int .i64 a1_1, .int .i64 a1_2]] w fun e w' => ∃ v0_ : Value, e = .returned (.tuple #[v0_, .int .i64 r2]) ∧ Kd.R (Kd.int .i64) 3 w' w.heap.size (fun _ => True) v0_ r1 ∧ Below w.heap.size w w' := by
  unfold retain_Keep.f at h
  by_cases hl : l0.length * 8 ≤ 1099511627776
  · rw [if_pos hl] at h
    obtain ⟨c, hC, h⟩ := Option.bind_eq_some_iff.mp h
    by_cases hc : c = 0
    · subst hc
      rw [if_pos rfl] at h
      obtain ⟨b, hR, h⟩ := Option.bind_eq_some_iff.mp h
      cases b
      · rw [if_neg (by decide)] at h
        cases h
        exact retain_Keep.bad2 k A0 c0 l0 a1_0 a1_1 a1_2 w hr0 hc0 hC hR
      · rw [if_pos rfl] at h
        by_cases hnl : retain_Keep.n l0 a1_0 ≤ l0.length
        · rw [if_pos hnl] at h
          obtain ⟨m, hV, h⟩ := Option.bind_eq_some_iff.mp h
          by_cases hml : m.length ≤ l0.length
          · rw [if_pos hml] at h
            cases h
            have hb : 1 ≤ a1_1 ∧ a1_1 ≤ 1152921504606846976 ∧ 0 ≤ a1_2 := by
              unfold retain_Check.f at hC
              repeat' split at hC
              all_goals first | (cases hC; done) | (simp at hC; done) | omega
            obtain ⟨r, rfl⟩ : ∃ r : Nat, a1_2 = (r : Int) := ⟨a1_2.toNat, by omega⟩
            have hmx : mx 0 (wrap64 ((l0.length : Int) - a1_0)) = (retain_Keep.n l0 a1_0 : Int) := by
              unfold retain_Keep.n
              rw [Int.toNat_of_nonneg]
              unfold mx
              split <;> omega
            exact retain_Keep.good k A0 c0 l0 a1_0 a1_1 r m w hr0 hc0 hl hC hR hb.1 hb.2.1 _ hmx hnl hml (by rw [Int.toNat_natCast] at hV; exact hV)
          · rw [if_neg hml] at h
            cases h
        · rw [if_neg hnl] at h
          cases h
    · rw [if_neg hc] at h
      cases h
      exact retain_Keep.bad1 A0 c0 l0 a1_0 a1_1 a1_2 _ hc w hr0 hc0 hC
  · rw [if_neg hl] at h
    cases h

-- NOT PRINTED: function 31 (slices_IndexFunc_int_int)

-- NOT PRINTED: function 23 (slices_DeleteFunc_int_int)

end Go.Proofs.Ytfnenbkmbfbeaaa.QC
