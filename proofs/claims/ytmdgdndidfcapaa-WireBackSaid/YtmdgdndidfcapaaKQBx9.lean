import Derived.Test.YtmdgdndidfcapaaKQBx2
import Derived.Test.YtmdgdndidfcapaaKQBx8
namespace Go.Proofs.Ytmdgdndidfcapaa.QB
open Go.RowKit Go.Proofs.YtmdgdndidfcapaaW.PrintWords Go.Proofs.YtmdgdndidfcapaaW.PrintLast Go.Proofs.YtmdgdndidfcapaaW.PrintMore
attribute [local go_sem] max2_int min2_int max_two min_two max_three min_three max_four min_four   -- for this text's walks alone
set_option linter.unusedVariables false
set_option linter.unusedSimpArgs false
attribute [local go_sem high] eqA27
def wire_empty.f (a0_0 : Int) (a0_1 : Int) (a0_2 : ByteArray) (a0_3 : ByteArray) (a0_4 : ByteArray) (a0_5 : ByteArray) (a0_6 : ByteArray) (a0_7 : ByteArray) (a0_8 : Int) (a0_9 : Int) (a0_10 : Int) (a0_11 : Int) (a0_12 : Int) (l0_13 : List Int) : Option (Bool) := if a0_1 = 0 then (if a0_2.toList = ([] : List UInt8) then (if a0_3.toList = ([] : List UInt8) then (if a0_4.toList = ([] : List UInt8) then (if a0_5.toList = ([] : List UInt8) then (if a0_6.toList = ([] : List UInt8) then (if (a0_8 == 0 && ((a0_9 == 0 && (a0_10 == 0)))) = true then (if a0_11 = 0 then (if a0_12 = 0 then (if (l0_13.length : Int) = 0 then (some (a0_7.toList == ([] : List UInt8))) else (some false)) else (some false)) else (some false)) else (some false)) else (some false)) else (some false)) else (some false)) else (some false)) else (some false)) else (some false)
set_option maxHeartbeats 8000000 in
set_option maxRecDepth 100000 in
theorem wire_empty.calls (a0_0 : Int) (a0_1 : Int) (a0_2 : ByteArray) (a0_3 : ByteArray) (a0_4 : ByteArray) (a0_5 : ByteArray) (a0_6 : ByteArray) (a0_7 : ByteArray) (a0_8 : Int) (a0_9 : Int) (a0_10 : Int) (a0_11 : Int) (a0_12 : Int) (A0_13 : Option Addr) (c0_13 : Nat) (l0_13 : List Int) (r : Bool) (w : World) (hr0_13 : Kd.C (Kd.int .i64) w A0_13 l0_13.length l0_13) (hc0_13 : l0_13.length ≤ c0_13) (h : wire_empty.f a0_0 a0_1 a0_2 a0_3 a0_4 a0_5 a0_6 a0_7 a0_8 a0_9 a0_10 a0_11 a0_12 l0_13 = some r) :
  Calls Try.prog 31 #[.agg #[.int .i64 a0_0, .int .i64 a0_1, .string a0_2, .string a0_3, .string a0_4, .string a0_5, .string a0_6, .string a0_7, .int .i64 a0_8, .int .i64 a0_9, .int .i64 a0_10, .int .i64 a0_11, .int .i64 a0_12, .slice A0_13 l0_13.length c0_13]] w fun e w' => e = .returned (.bool r) ∧ Below w.heap.size w w' := by
 have hu30 := Try.underlying30
 have hu27 := Try.underlying27
 have HR0_13 := Aside0.mk hr0_13
 have HC0_13 := Aside0.mk hc0_13
 clear hr0_13 hc0_13
 have HB := Aside0.mk (Below.refl w.heap.size w)
 have H : (if a0_1 = 0 then (if a0_2.toList = ([] : List UInt8) then (if a0_3.toList = ([] : List UInt8) then (if a0_4.toList = ([] : List UInt8) then (if a0_5.toList = ([] : List UInt8) then (if a0_6.toList = ([] : List UInt8) then (if (a0_8 == 0 && ((a0_9 == 0 && (a0_10 == 0)))) = true then (if a0_11 = 0 then (if a0_12 = 0 then (if (l0_13.length : Int) = 0 then (some (a0_7.toList == ([] : List UInt8))) else (some false)) else (some false)) else (some false)) else (some false)) else (some false)) else (some false)) else (some false)) else (some false)) else (some false)) else (some false)) = some r := h
 clear h
 by_cases c2 : a0_1 = 0
 ·rw [if_pos c2] at H
  have c2b0 : (a0_1 == 0) = true := beq_iff_eq.mpr c2
  have c2b1 : (a0_1 != 0) = false := bne_eq_false_iff_eq.mpr c2
  clear c2
  by_cases c3 : a0_2.toList = ([] : List UInt8)
  ·rw [if_pos c3] at H
   have c3b0 : (a0_2.toList == ([] : List UInt8)) = true := beq_iff_eq.mpr c3
   have c3b1 : (a0_2.toList != ([] : List UInt8)) = false := bne_eq_false_iff_eq.mpr c3
   clear c3
   by_cases c4 : a0_3.toList = ([] : List UInt8)
   ·rw [if_pos c4] at H
    have c4b0 : (a0_3.toList == ([] : List UInt8)) = true := beq_iff_eq.mpr c4
    have c4b1 : (a0_3.toList != ([] : List UInt8)) = false := bne_eq_false_iff_eq.mpr c4
    clear c4
    by_cases c5 : a0_4.toList = ([] : List UInt8)
    ·rw [if_pos c5] at H
     have c5b0 : (a0_4.toList == ([] : List UInt8)) = true := beq_iff_eq.mpr c5
     have c5b1 : (a0_4.toList != ([] : List UInt8)) = false := bne_eq_false_iff_eq.mpr c5
     clear c5
     by_cases c6 : a0_5.toList = ([] : List UInt8)
     ·rw [if_pos c6] at H
      have c6b0 : (a0_5.toList == ([] : List UInt8)) = true := beq_iff_eq.mpr c6
      have c6b1 : (a0_5.toList != ([] : List UInt8)) = false := bne_eq_false_iff_eq.mpr c6
      clear c6
      by_cases c7 : a0_6.toList = ([] : List UInt8)
      ·rw [if_pos c7] at H
       have c7b0 : (a0_6.toList == ([] : List UInt8)) = true := beq_iff_eq.mpr c7
       have c7b1 : (a0_6.toList != ([] : List UInt8)) = false := bne_eq_false_iff_eq.mpr c7
       clear c7
       by_cases c8 : (a0_8 == 0 && ((a0_9 == 0 && (a0_10 == 0)))) = true
       ·rw [if_pos c8] at H
        have c8b0 : (a0_8 == 0 && ((a0_9 == 0 && (a0_10 == 0)))) = true := c8
        (try (have c8b1 : decide (a0_8 = 0 && ((a0_9 == 0 && (a0_10 == 0)))) = true := by simpa using c8))
        (try (have c8b2 : (a0_8 == 0 && ((a0_9 == 0 && (a0_10 == 0)))) = true := by simpa using c8))
        clear c8
        by_cases c9 : a0_11 = 0
        ·rw [if_pos c9] at H
         have c9b0 : (a0_11 == 0) = true := beq_iff_eq.mpr c9
         have c9b1 : (a0_11 != 0) = false := bne_eq_false_iff_eq.mpr c9
         clear c9
         by_cases c10 : a0_12 = 0
         ·rw [if_pos c10] at H
          have c10b0 : (a0_12 == 0) = true := beq_iff_eq.mpr c10
          have c10b1 : (a0_12 != 0) = false := bne_eq_false_iff_eq.mpr c10
          clear c10
          by_cases c11 : (l0_13.length : Int) = 0
          ·rw [if_pos c11] at H
           have c11b0 : ((l0_13.length : Int) == 0) = true := beq_iff_eq.mpr c11
           have c11b1 : ((l0_13.length : Int) != 0) = false := bne_eq_false_iff_eq.mpr c11
           clear c11
           obtain rfl := Option.some.inj H
           go_enter Try.func31, Try.ntmps31
           go_wp2_with (first | ((with_reducible refine gate_dst (N := 1) rfl ?_); (try (refine gate_guard (by rfl) ?_; dsimp only)); refine box_event ?hg (N := 1) ?hd (cs := #[.int .i64 a0_0, .int .i64 a0_1, .string a0_2, .string a0_3, .string a0_4, .string a0_5, .string a0_6, .string a0_7, .int .i64 a0_8, .int .i64 a0_9, .int .i64 a0_10, .int .i64 a0_11, .int .i64 a0_12, .slice A0_13 l0_13.length c0_13]) (t := 30) ?hr ?_; (case hd => rfl); (case hg => rfl); (case hr => first | (go_simp; done) | (go_simp; rfl)); intro gb112 hg w12 hbox hb; have n0_ := Aside0.mk (below_step qa hb); have n1_ := Aside0.mk (hbox); have n2_ := Aside0.mk ((by rw [hg]; exact (below_size qa) : w.heap.size ≤ gb112)); have n3_ := Aside0.mk ((by rw [hg]; exact (below_size qa) : w.heap.size ≤ gb112)); clear HB; have HB := n0_; have BK112 := n1_; have GW112 := n2_; have GE112 := n3_; clear n0_ n1_ n2_ n3_; clear hb hbox hg; have hcz13_0 : w12.cell? ⟨gb112, 0, none⟩ = some (.int .i64 a0_0) := (blk_cell BK112.out 0).trans rfl; have hcz13_1 : w12.cell? ⟨gb112, 1, none⟩ = some (.int .i64 a0_1) := (blk_cell BK112.out 1).trans rfl; have hcz13_2 : w12.cell? ⟨gb112, 2, none⟩ = some (.string a0_2) := (blk_cell BK112.out 2).trans rfl; have hcz13_3 : w12.cell? ⟨gb112, 3, none⟩ = some (.string a0_3) := (blk_cell BK112.out 3).trans rfl; have hcz13_4 : w12.cell? ⟨gb112, 4, none⟩ = some (.string a0_4) := (blk_cell BK112.out 4).trans rfl; have hcz13_5 : w12.cell? ⟨gb112, 5, none⟩ = some (.string a0_5) := (blk_cell BK112.out 5).trans rfl; have hcz13_6 : w12.cell? ⟨gb112, 6, none⟩ = some (.string a0_6) := (blk_cell BK112.out 6).trans rfl; have hcz13_7 : w12.cell? ⟨gb112, 7, none⟩ = some (.string a0_7) := (blk_cell BK112.out 7).trans rfl; have hcz13_8 : w12.cell? ⟨gb112, 8, none⟩ = some (.int .i64 a0_8) := (blk_cell BK112.out 8).trans rfl; have hcz13_9 : w12.cell? ⟨gb112, 9, none⟩ = some (.int .i64 a0_9) := (blk_cell BK112.out 9).trans rfl; have hcz13_10 : w12.cell? ⟨gb112, 10, none⟩ = some (.int .i64 a0_10) := (blk_cell BK112.out 10).trans rfl; have hcz13_11 : w12.cell? ⟨gb112, 11, none⟩ = some (.int .i64 a0_11) := (blk_cell BK112.out 11).trans rfl; have hcz13_12 : w12.cell? ⟨gb112, 12, none⟩ = some (.int .i64 a0_12) := (blk_cell BK112.out 12).trans rfl; have hcz13_13 : w12.cell? ⟨gb112, 13, none⟩ = some (.slice A0_13 l0_13.length c0_13) := (blk_cell BK112.out 13).trans rfl; have hfz13_0 := blk_frozen BK112.out 0; have hfz13_1 := blk_frozen BK112.out 1; have hfz13_2 := blk_frozen BK112.out 2; have hfz13_3 := blk_frozen BK112.out 3; have hfz13_4 := blk_frozen BK112.out 4; have hfz13_5 := blk_frozen BK112.out 5; have hfz13_6 := blk_frozen BK112.out 6; have hfz13_7 := blk_frozen BK112.out 7; have hfz13_8 := blk_frozen BK112.out 8; have hfz13_9 := blk_frozen BK112.out 9; have hfz13_10 := blk_frozen BK112.out 10; have hfz13_11 := blk_frozen BK112.out 11; have hfz13_12 := blk_frozen BK112.out 12; have hfz13_13 := blk_frozen BK112.out 13))
           go_ret
           exact ⟨by first | rfl | (simp [errW_none, errW_some] <;> rfl) | (simp [*, errW_none, errW_some] <;> rfl), by repeat (first | (with_reducible first | exact HB.out | apply below_alloc | apply pw_below_drewN | apply below_drew1 | refine below_set ?_ GE112.out) | exact HB.out)⟩
          ·rw [if_neg c11] at H
           have c11b0 : ((l0_13.length : Int) == 0) = false := beq_eq_false_iff_ne.mpr c11
           have c11b1 : ((l0_13.length : Int) != 0) = true := bne_iff_ne.mpr c11
           have c11b2 : ¬ (l0_13 = []) := fun h_ => c11 (by rw [h_]; rfl)
           obtain rfl := Option.some.inj H
           go_enter Try.func31, Try.ntmps31
           go_wp2_with (first | ((with_reducible refine gate_dst (N := 1) rfl ?_); (try (refine gate_guard (by rfl) ?_; dsimp only)); refine box_event ?hg (N := 1) ?hd (cs := #[.int .i64 a0_0, .int .i64 a0_1, .string a0_2, .string a0_3, .string a0_4, .string a0_5, .string a0_6, .string a0_7, .int .i64 a0_8, .int .i64 a0_9, .int .i64 a0_10, .int .i64 a0_11, .int .i64 a0_12, .slice A0_13 l0_13.length c0_13]) (t := 30) ?hr ?_; (case hd => rfl); (case hg => rfl); (case hr => first | (go_simp; done) | (go_simp; rfl)); intro gb112 hg w14 hbox hb; have n0_ := Aside0.mk (below_step qa hb); have n1_ := Aside0.mk (hbox); have n2_ := Aside0.mk ((by rw [hg]; exact (below_size qa) : w.heap.size ≤ gb112)); have n3_ := Aside0.mk ((by rw [hg]; exact (below_size qa) : w.heap.size ≤ gb112)); clear HB; have HB := n0_; have BK112 := n1_; have GW112 := n2_; have GE112 := n3_; clear n0_ n1_ n2_ n3_; clear hb hbox hg; have hcz15_0 : w14.cell? ⟨gb112, 0, none⟩ = some (.int .i64 a0_0) := (blk_cell BK112.out 0).trans rfl; have hcz15_1 : w14.cell? ⟨gb112, 1, none⟩ = some (.int .i64 a0_1) := (blk_cell BK112.out 1).trans rfl; have hcz15_2 : w14.cell? ⟨gb112, 2, none⟩ = some (.string a0_2) := (blk_cell BK112.out 2).trans rfl; have hcz15_3 : w14.cell? ⟨gb112, 3, none⟩ = some (.string a0_3) := (blk_cell BK112.out 3).trans rfl; have hcz15_4 : w14.cell? ⟨gb112, 4, none⟩ = some (.string a0_4) := (blk_cell BK112.out 4).trans rfl; have hcz15_5 : w14.cell? ⟨gb112, 5, none⟩ = some (.string a0_5) := (blk_cell BK112.out 5).trans rfl; have hcz15_6 : w14.cell? ⟨gb112, 6, none⟩ = some (.string a0_6) := (blk_cell BK112.out 6).trans rfl; have hcz15_7 : w14.cell? ⟨gb112, 7, none⟩ = some (.string a0_7) := (blk_cell BK112.out 7).trans rfl; have hcz15_8 : w14.cell? ⟨gb112, 8, none⟩ = some (.int .i64 a0_8) := (blk_cell BK112.out 8).trans rfl; have hcz15_9 : w14.cell? ⟨gb112, 9, none⟩ = some (.int .i64 a0_9) := (blk_cell BK112.out 9).trans rfl; have hcz15_10 : w14.cell? ⟨gb112, 10, none⟩ = some (.int .i64 a0_10) := (blk_cell BK112.out 10).trans rfl; have hcz15_11 : w14.cell? ⟨gb112, 11, none⟩ = some (.int .i64 a0_11) := (blk_cell BK112.out 11).trans rfl; have hcz15_12 : w14.cell? ⟨gb112, 12, none⟩ = some (.int .i64 a0_12) := (blk_cell BK112.out 12).trans rfl; have hcz15_13 : w14.cell? ⟨gb112, 13, none⟩ = some (.slice A0_13 l0_13.length c0_13) := (blk_cell BK112.out 13).trans rfl; have hfz15_0 := blk_frozen BK112.out 0; have hfz15_1 := blk_frozen BK112.out 1; have hfz15_2 := blk_frozen BK112.out 2; have hfz15_3 := blk_frozen BK112.out 3; have hfz15_4 := blk_frozen BK112.out 4; have hfz15_5 := blk_frozen BK112.out 5; have hfz15_6 := blk_frozen BK112.out 6; have hfz15_7 := blk_frozen BK112.out 7; have hfz15_8 := blk_frozen BK112.out 8; have hfz15_9 := blk_frozen BK112.out 9; have hfz15_10 := blk_frozen BK112.out 10; have hfz15_11 := blk_frozen BK112.out 11; have hfz15_12 := blk_frozen BK112.out 12; have hfz15_13 := blk_frozen BK112.out 13))
           go_ret
           exact ⟨by first | rfl | (simp [errW_none, errW_some] <;> rfl) | (simp [*, errW_none, errW_some] <;> rfl), by repeat (first | (with_reducible first | exact HB.out | apply below_alloc | apply pw_below_drewN | apply below_drew1 | refine below_set ?_ GE112.out) | exact HB.out)⟩
         ·rw [if_neg c10] at H
          have c10b0 : (a0_12 == 0) = false := beq_eq_false_iff_ne.mpr c10
          have c10b1 : (a0_12 != 0) = true := bne_iff_ne.mpr c10
          obtain rfl := Option.some.inj H
          go_enter Try.func31, Try.ntmps31
          go_wp2_with (first | ((with_reducible refine gate_dst (N := 1) rfl ?_); (try (refine gate_guard (by rfl) ?_; dsimp only)); refine box_event ?hg (N := 1) ?hd (cs := #[.int .i64 a0_0, .int .i64 a0_1, .string a0_2, .string a0_3, .string a0_4, .string a0_5, .string a0_6, .string a0_7, .int .i64 a0_8, .int .i64 a0_9, .int .i64 a0_10, .int .i64 a0_11, .int .i64 a0_12, .slice A0_13 l0_13.length c0_13]) (t := 30) ?hr ?_; (case hd => rfl); (case hg => rfl); (case hr => first | (go_simp; done) | (go_simp; rfl)); intro gb112 hg w16 hbox hb; have n0_ := Aside0.mk (below_step qa hb); have n1_ := Aside0.mk (hbox); have n2_ := Aside0.mk ((by rw [hg]; exact (below_size qa) : w.heap.size ≤ gb112)); have n3_ := Aside0.mk ((by rw [hg]; exact (below_size qa) : w.heap.size ≤ gb112)); clear HB; have HB := n0_; have BK112 := n1_; have GW112 := n2_; have GE112 := n3_; clear n0_ n1_ n2_ n3_; clear hb hbox hg; have hcz17_0 : w16.cell? ⟨gb112, 0, none⟩ = some (.int .i64 a0_0) := (blk_cell BK112.out 0).trans rfl; have hcz17_1 : w16.cell? ⟨gb112, 1, none⟩ = some (.int .i64 a0_1) := (blk_cell BK112.out 1).trans rfl; have hcz17_2 : w16.cell? ⟨gb112, 2, none⟩ = some (.string a0_2) := (blk_cell BK112.out 2).trans rfl; have hcz17_3 : w16.cell? ⟨gb112, 3, none⟩ = some (.string a0_3) := (blk_cell BK112.out 3).trans rfl; have hcz17_4 : w16.cell? ⟨gb112, 4, none⟩ = some (.string a0_4) := (blk_cell BK112.out 4).trans rfl; have hcz17_5 : w16.cell? ⟨gb112, 5, none⟩ = some (.string a0_5) := (blk_cell BK112.out 5).trans rfl; have hcz17_6 : w16.cell? ⟨gb112, 6, none⟩ = some (.string a0_6) := (blk_cell BK112.out 6).trans rfl; have hcz17_7 : w16.cell? ⟨gb112, 7, none⟩ = some (.string a0_7) := (blk_cell BK112.out 7).trans rfl; have hcz17_8 : w16.cell? ⟨gb112, 8, none⟩ = some (.int .i64 a0_8) := (blk_cell BK112.out 8).trans rfl; have hcz17_9 : w16.cell? ⟨gb112, 9, none⟩ = some (.int .i64 a0_9) := (blk_cell BK112.out 9).trans rfl; have hcz17_10 : w16.cell? ⟨gb112, 10, none⟩ = some (.int .i64 a0_10) := (blk_cell BK112.out 10).trans rfl; have hcz17_11 : w16.cell? ⟨gb112, 11, none⟩ = some (.int .i64 a0_11) := (blk_cell BK112.out 11).trans rfl; have hcz17_12 : w16.cell? ⟨gb112, 12, none⟩ = some (.int .i64 a0_12) := (blk_cell BK112.out 12).trans rfl; have hcz17_13 : w16.cell? ⟨gb112, 13, none⟩ = some (.slice A0_13 l0_13.length c0_13) := (blk_cell BK112.out 13).trans rfl; have hfz17_0 := blk_frozen BK112.out 0; have hfz17_1 := blk_frozen BK112.out 1; have hfz17_2 := blk_frozen BK112.out 2; have hfz17_3 := blk_frozen BK112.out 3; have hfz17_4 := blk_frozen BK112.out 4; have hfz17_5 := blk_frozen BK112.out 5; have hfz17_6 := blk_frozen BK112.out 6; have hfz17_7 := blk_frozen BK112.out 7; have hfz17_8 := blk_frozen BK112.out 8; have hfz17_9 := blk_frozen BK112.out 9; have hfz17_10 := blk_frozen BK112.out 10; have hfz17_11 := blk_frozen BK112.out 11; have hfz17_12 := blk_frozen BK112.out 12; have hfz17_13 := blk_frozen BK112.out 13))
          go_ret
          exact ⟨by first | rfl | (simp [errW_none, errW_some] <;> rfl) | (simp [*, errW_none, errW_some] <;> rfl), by repeat (first | (with_reducible first | exact HB.out | apply below_alloc | apply pw_below_drewN | apply below_drew1 | refine below_set ?_ GE112.out) | exact HB.out)⟩
        ·rw [if_neg c9] at H
         have c9b0 : (a0_11 == 0) = false := beq_eq_false_iff_ne.mpr c9
         have c9b1 : (a0_11 != 0) = true := bne_iff_ne.mpr c9
         obtain rfl := Option.some.inj H
         go_enter Try.func31, Try.ntmps31
         go_wp2_with (first | ((with_reducible refine gate_dst (N := 1) rfl ?_); (try (refine gate_guard (by rfl) ?_; dsimp only)); refine box_event ?hg (N := 1) ?hd (cs := #[.int .i64 a0_0, .int .i64 a0_1, .string a0_2, .string a0_3, .string a0_4, .string a0_5, .string a0_6, .string a0_7, .int .i64 a0_8, .int .i64 a0_9, .int .i64 a0_10, .int .i64 a0_11, .int .i64 a0_12, .slice A0_13 l0_13.length c0_13]) (t := 30) ?hr ?_; (case hd => rfl); (case hg => rfl); (case hr => first | (go_simp; done) | (go_simp; rfl)); intro gb112 hg w18 hbox hb; have n0_ := Aside0.mk (below_step qa hb); have n1_ := Aside0.mk (hbox); have n2_ := Aside0.mk ((by rw [hg]; exact (below_size qa) : w.heap.size ≤ gb112)); have n3_ := Aside0.mk ((by rw [hg]; exact (below_size qa) : w.heap.size ≤ gb112)); clear HB; have HB := n0_; have BK112 := n1_; have GW112 := n2_; have GE112 := n3_; clear n0_ n1_ n2_ n3_; clear hb hbox hg; have hcz19_0 : w18.cell? ⟨gb112, 0, none⟩ = some (.int .i64 a0_0) := (blk_cell BK112.out 0).trans rfl; have hcz19_1 : w18.cell? ⟨gb112, 1, none⟩ = some (.int .i64 a0_1) := (blk_cell BK112.out 1).trans rfl; have hcz19_2 : w18.cell? ⟨gb112, 2, none⟩ = some (.string a0_2) := (blk_cell BK112.out 2).trans rfl; have hcz19_3 : w18.cell? ⟨gb112, 3, none⟩ = some (.string a0_3) := (blk_cell BK112.out 3).trans rfl; have hcz19_4 : w18.cell? ⟨gb112, 4, none⟩ = some (.string a0_4) := (blk_cell BK112.out 4).trans rfl; have hcz19_5 : w18.cell? ⟨gb112, 5, none⟩ = some (.string a0_5) := (blk_cell BK112.out 5).trans rfl; have hcz19_6 : w18.cell? ⟨gb112, 6, none⟩ = some (.string a0_6) := (blk_cell BK112.out 6).trans rfl; have hcz19_7 : w18.cell? ⟨gb112, 7, none⟩ = some (.string a0_7) := (blk_cell BK112.out 7).trans rfl; have hcz19_8 : w18.cell? ⟨gb112, 8, none⟩ = some (.int .i64 a0_8) := (blk_cell BK112.out 8).trans rfl; have hcz19_9 : w18.cell? ⟨gb112, 9, none⟩ = some (.int .i64 a0_9) := (blk_cell BK112.out 9).trans rfl; have hcz19_10 : w18.cell? ⟨gb112, 10, none⟩ = some (.int .i64 a0_10) := (blk_cell BK112.out 10).trans rfl; have hcz19_11 : w18.cell? ⟨gb112, 11, none⟩ = some (.int .i64 a0_11) := (blk_cell BK112.out 11).trans rfl; have hcz19_12 : w18.cell? ⟨gb112, 12, none⟩ = some (.int .i64 a0_12) := (blk_cell BK112.out 12).trans rfl; have hcz19_13 : w18.cell? ⟨gb112, 13, none⟩ = some (.slice A0_13 l0_13.length c0_13) := (blk_cell BK112.out 13).trans rfl; have hfz19_0 := blk_frozen BK112.out 0; have hfz19_1 := blk_frozen BK112.out 1; have hfz19_2 := blk_frozen BK112.out 2; have hfz19_3 := blk_frozen BK112.out 3; have hfz19_4 := blk_frozen BK112.out 4; have hfz19_5 := blk_frozen BK112.out 5; have hfz19_6 := blk_frozen BK112.out 6; have hfz19_7 := blk_frozen BK112.out 7; have hfz19_8 := blk_frozen BK112.out 8; have hfz19_9 := blk_frozen BK112.out 9; have hfz19_10 := blk_frozen BK112.out 10; have hfz19_11 := blk_frozen BK112.out 11; have hfz19_12 := blk_frozen BK112.out 12; have hfz19_13 := blk_frozen BK112.out 13))
         go_ret
         exact ⟨by first | rfl | (simp [errW_none, errW_some] <;> rfl) | (simp [*, errW_none, errW_some] <;> rfl), by repeat (first | (with_reducible first | exact HB.out | apply below_alloc | apply pw_below_drewN | apply below_drew1 | refine below_set ?_ GE112.out) | exact HB.out)⟩
       ·rw [if_neg c8] at H
        have c8b0 : (a0_8 == 0 && ((a0_9 == 0 && (a0_10 == 0)))) = false := by simpa using c8
        (try (have c8b1 : decide (a0_8 = 0 && ((a0_9 == 0 && (a0_10 == 0)))) = false := by simpa using c8))
        (try (have c8b2 : (a0_8 == 0 && ((a0_9 == 0 && (a0_10 == 0)))) = false := by simpa using c8))
        (try (have c8b3 : ¬ (a0_8 = 0 && ((a0_9 == 0 && (a0_10 == 0)))) := by simpa using c8))
        clear c8
        obtain rfl := Option.some.inj H
        go_enter Try.func31, Try.ntmps31
        go_wp2_with (first | ((with_reducible refine gate_dst (N := 1) rfl ?_); (try (refine gate_guard (by rfl) ?_; dsimp only)); refine box_event ?hg (N := 1) ?hd (cs := #[.int .i64 a0_0, .int .i64 a0_1, .string a0_2, .string a0_3, .string a0_4, .string a0_5, .string a0_6, .string a0_7, .int .i64 a0_8, .int .i64 a0_9, .int .i64 a0_10, .int .i64 a0_11, .int .i64 a0_12, .slice A0_13 l0_13.length c0_13]) (t := 30) ?hr ?_; (case hd => rfl); (case hg => rfl); (case hr => first | (go_simp; done) | (go_simp; rfl)); intro gb112 hg w20 hbox hb; have n0_ := Aside0.mk (below_step qa hb); have n1_ := Aside0.mk (hbox); have n2_ := Aside0.mk ((by rw [hg]; exact (below_size qa) : w.heap.size ≤ gb112)); have n3_ := Aside0.mk ((by rw [hg]; exact (below_size qa) : w.heap.size ≤ gb112)); clear HB; have HB := n0_; have BK112 := n1_; have GW112 := n2_; have GE112 := n3_; clear n0_ n1_ n2_ n3_; clear hb hbox hg; have hcz21_0 : w20.cell? ⟨gb112, 0, none⟩ = some (.int .i64 a0_0) := (blk_cell BK112.out 0).trans rfl; have hcz21_1 : w20.cell? ⟨gb112, 1, none⟩ = some (.int .i64 a0_1) := (blk_cell BK112.out 1).trans rfl; have hcz21_2 : w20.cell? ⟨gb112, 2, none⟩ = some (.string a0_2) := (blk_cell BK112.out 2).trans rfl; have hcz21_3 : w20.cell? ⟨gb112, 3, none⟩ = some (.string a0_3) := (blk_cell BK112.out 3).trans rfl; have hcz21_4 : w20.cell? ⟨gb112, 4, none⟩ = some (.string a0_4) := (blk_cell BK112.out 4).trans rfl; have hcz21_5 : w20.cell? ⟨gb112, 5, none⟩ = some (.string a0_5) := (blk_cell BK112.out 5).trans rfl; have hcz21_6 : w20.cell? ⟨gb112, 6, none⟩ = some (.string a0_6) := (blk_cell BK112.out 6).trans rfl; have hcz21_7 : w20.cell? ⟨gb112, 7, none⟩ = some (.string a0_7) := (blk_cell BK112.out 7).trans rfl; have hcz21_8 : w20.cell? ⟨gb112, 8, none⟩ = some (.int .i64 a0_8) := (blk_cell BK112.out 8).trans rfl; have hcz21_9 : w20.cell? ⟨gb112, 9, none⟩ = some (.int .i64 a0_9) := (blk_cell BK112.out 9).trans rfl; have hcz21_10 : w20.cell? ⟨gb112, 10, none⟩ = some (.int .i64 a0_10) := (blk_cell BK112.out 10).trans rfl; have hcz21_11 : w20.cell? ⟨gb112, 11, none⟩ = some (.int .i64 a0_11) := (blk_cell BK112.out 11).trans rfl; have hcz21_12 : w20.cell? ⟨gb112, 12, none⟩ = some (.int .i64 a0_12) := (blk_cell BK112.out 12).trans rfl; have hcz21_13 : w20.cell? ⟨gb112, 13, none⟩ = some (.slice A0_13 l0_13.length c0_13) := (blk_cell BK112.out 13).trans rfl; have hfz21_0 := blk_frozen BK112.out 0; have hfz21_1 := blk_frozen BK112.out 1; have hfz21_2 := blk_frozen BK112.out 2; have hfz21_3 := blk_frozen BK112.out 3; have hfz21_4 := blk_frozen BK112.out 4; have hfz21_5 := blk_frozen BK112.out 5; have hfz21_6 := blk_frozen BK112.out 6; have hfz21_7 := blk_frozen BK112.out 7; have hfz21_8 := blk_frozen BK112.out 8; have hfz21_9 := blk_frozen BK112.out 9; have hfz21_10 := blk_frozen BK112.out 10; have hfz21_11 := blk_frozen BK112.out 11; have hfz21_12 := blk_frozen BK112.out 12; have hfz21_13 := blk_frozen BK112.out 13))
        go_ret
        exact ⟨by first | rfl | (simp [errW_none, errW_some] <;> rfl) | (simp [*, errW_none, errW_some] <;> rfl), by repeat (first | (with_reducible first | exact HB.out | apply below_alloc | apply pw_below_drewN | apply below_drew1 | refine below_set ?_ GE112.out) | exact HB.out)⟩
      ·rw [if_neg c7] at H
       have c7b0 : (a0_6.toList == ([] : List UInt8)) = false := beq_eq_false_iff_ne.mpr c7
       have c7b1 : (a0_6.toList != ([] : List UInt8)) = true := bne_iff_ne.mpr c7
       obtain rfl := Option.some.inj H
       go_enter Try.func31, Try.ntmps31
       go_wp2_with (first | ((with_reducible refine gate_dst (N := 1) rfl ?_); (try (refine gate_guard (by rfl) ?_; dsimp only)); refine box_event ?hg (N := 1) ?hd (cs := #[.int .i64 a0_0, .int .i64 a0_1, .string a0_2, .string a0_3, .string a0_4, .string a0_5, .string a0_6, .string a0_7, .int .i64 a0_8, .int .i64 a0_9, .int .i64 a0_10, .int .i64 a0_11, .int .i64 a0_12, .slice A0_13 l0_13.length c0_13]) (t := 30) ?hr ?_; (case hd => rfl); (case hg => rfl); (case hr => first | (go_simp; done) | (go_simp; rfl)); intro gb112 hg w22 hbox hb; have n0_ := Aside0.mk (below_step qa hb); have n1_ := Aside0.mk (hbox); have n2_ := Aside0.mk ((by rw [hg]; exact (below_size qa) : w.heap.size ≤ gb112)); have n3_ := Aside0.mk ((by rw [hg]; exact (below_size qa) : w.heap.size ≤ gb112)); clear HB; have HB := n0_; have BK112 := n1_; have GW112 := n2_; have GE112 := n3_; clear n0_ n1_ n2_ n3_; clear hb hbox hg; have hcz23_0 : w22.cell? ⟨gb112, 0, none⟩ = some (.int .i64 a0_0) := (blk_cell BK112.out 0).trans rfl; have hcz23_1 : w22.cell? ⟨gb112, 1, none⟩ = some (.int .i64 a0_1) := (blk_cell BK112.out 1).trans rfl; have hcz23_2 : w22.cell? ⟨gb112, 2, none⟩ = some (.string a0_2) := (blk_cell BK112.out 2).trans rfl; have hcz23_3 : w22.cell? ⟨gb112, 3, none⟩ = some (.string a0_3) := (blk_cell BK112.out 3).trans rfl; have hcz23_4 : w22.cell? ⟨gb112, 4, none⟩ = some (.string a0_4) := (blk_cell BK112.out 4).trans rfl; have hcz23_5 : w22.cell? ⟨gb112, 5, none⟩ = some (.string a0_5) := (blk_cell BK112.out 5).trans rfl; have hcz23_6 : w22.cell? ⟨gb112, 6, none⟩ = some (.string a0_6) := (blk_cell BK112.out 6).trans rfl; have hcz23_7 : w22.cell? ⟨gb112, 7, none⟩ = some (.string a0_7) := (blk_cell BK112.out 7).trans rfl; have hcz23_8 : w22.cell? ⟨gb112, 8, none⟩ = some (.int .i64 a0_8) := (blk_cell BK112.out 8).trans rfl; have hcz23_9 : w22.cell? ⟨gb112, 9, none⟩ = some (.int .i64 a0_9) := (blk_cell BK112.out 9).trans rfl; have hcz23_10 : w22.cell? ⟨gb112, 10, none⟩ = some (.int .i64 a0_10) := (blk_cell BK112.out 10).trans rfl; have hcz23_11 : w22.cell? ⟨gb112, 11, none⟩ = some (.int .i64 a0_11) := (blk_cell BK112.out 11).trans rfl; have hcz23_12 : w22.cell? ⟨gb112, 12, none⟩ = some (.int .i64 a0_12) := (blk_cell BK112.out 12).trans rfl; have hcz23_13 : w22.cell? ⟨gb112, 13, none⟩ = some (.slice A0_13 l0_13.length c0_13) := (blk_cell BK112.out 13).trans rfl; have hfz23_0 := blk_frozen BK112.out 0; have hfz23_1 := blk_frozen BK112.out 1; have hfz23_2 := blk_frozen BK112.out 2; have hfz23_3 := blk_frozen BK112.out 3; have hfz23_4 := blk_frozen BK112.out 4; have hfz23_5 := blk_frozen BK112.out 5; have hfz23_6 := blk_frozen BK112.out 6; have hfz23_7 := blk_frozen BK112.out 7; have hfz23_8 := blk_frozen BK112.out 8; have hfz23_9 := blk_frozen BK112.out 9; have hfz23_10 := blk_frozen BK112.out 10; have hfz23_11 := blk_frozen BK112.out 11; have hfz23_12 := blk_frozen BK112.out 12; have hfz23_13 := blk_frozen BK112.out 13))
       go_ret
       exact ⟨by first | rfl | (simp [errW_none, errW_some] <;> rfl) | (simp [*, errW_none, errW_some] <;> rfl), by repeat (first | (with_reducible first | exact HB.out | apply below_alloc | apply pw_below_drewN | apply below_drew1 | refine below_set ?_ GE112.out) | exact HB.out)⟩
     ·rw [if_neg c6] at H
      have c6b0 : (a0_5.toList == ([] : List UInt8)) = false := beq_eq_false_iff_ne.mpr c6
      have c6b1 : (a0_5.toList != ([] : List UInt8)) = true := bne_iff_ne.mpr c6
      obtain rfl := Option.some.inj H
      go_enter Try.func31, Try.ntmps31
      go_wp2_with (first | ((with_reducible refine gate_dst (N := 1) rfl ?_); (try (refine gate_guard (by rfl) ?_; dsimp only)); refine box_event ?hg (N := 1) ?hd (cs := #[.int .i64 a0_0, .int .i64 a0_1, .string a0_2, .string a0_3, .string a0_4, .string a0_5, .string a0_6, .string a0_7, .int .i64 a0_8, .int .i64 a0_9, .int .i64 a0_10, .int .i64 a0_11, .int .i64 a0_12, .slice A0_13 l0_13.length c0_13]) (t := 30) ?hr ?_; (case hd => rfl); (case hg => rfl); (case hr => first | (go_simp; done) | (go_simp; rfl)); intro gb112 hg w24 hbox hb; have n0_ := Aside0.mk (below_step qa hb); have n1_ := Aside0.mk (hbox); have n2_ := Aside0.mk ((by rw [hg]; exact (below_size qa) : w.heap.size ≤ gb112)); have n3_ := Aside0.mk ((by rw [hg]; exact (below_size qa) : w.heap.size ≤ gb112)); clear HB; have HB := n0_; have BK112 := n1_; have GW112 := n2_; have GE112 := n3_; clear n0_ n1_ n2_ n3_; clear hb hbox hg; have hcz25_0 : w24.cell? ⟨gb112, 0, none⟩ = some (.int .i64 a0_0) := (blk_cell BK112.out 0).trans rfl; have hcz25_1 : w24.cell? ⟨gb112, 1, none⟩ = some (.int .i64 a0_1) := (blk_cell BK112.out 1).trans rfl; have hcz25_2 : w24.cell? ⟨gb112, 2, none⟩ = some (.string a0_2) := (blk_cell BK112.out 2).trans rfl; have hcz25_3 : w24.cell? ⟨gb112, 3, none⟩ = some (.string a0_3) := (blk_cell BK112.out 3).trans rfl; have hcz25_4 : w24.cell? ⟨gb112, 4, none⟩ = some (.string a0_4) := (blk_cell BK112.out 4).trans rfl; have hcz25_5 : w24.cell? ⟨gb112, 5, none⟩ = some (.string a0_5) := (blk_cell BK112.out 5).trans rfl; have hcz25_6 : w24.cell? ⟨gb112, 6, none⟩ = some (.string a0_6) := (blk_cell BK112.out 6).trans rfl; have hcz25_7 : w24.cell? ⟨gb112, 7, none⟩ = some (.string a0_7) := (blk_cell BK112.out 7).trans rfl; have hcz25_8 : w24.cell? ⟨gb112, 8, none⟩ = some (.int .i64 a0_8) := (blk_cell BK112.out 8).trans rfl; have hcz25_9 : w24.cell? ⟨gb112, 9, none⟩ = some (.int .i64 a0_9) := (blk_cell BK112.out 9).trans rfl; have hcz25_10 : w24.cell? ⟨gb112, 10, none⟩ = some (.int .i64 a0_10) := (blk_cell BK112.out 10).trans rfl; have hcz25_11 : w24.cell? ⟨gb112, 11, none⟩ = some (.int .i64 a0_11) := (blk_cell BK112.out 11).trans rfl; have hcz25_12 : w24.cell? ⟨gb112, 12, none⟩ = some (.int .i64 a0_12) := (blk_cell BK112.out 12).trans rfl; have hcz25_13 : w24.cell? ⟨gb112, 13, none⟩ = some (.slice A0_13 l0_13.length c0_13) := (blk_cell BK112.out 13).trans rfl; have hfz25_0 := blk_frozen BK112.out 0; have hfz25_1 := blk_frozen BK112.out 1; have hfz25_2 := blk_frozen BK112.out 2; have hfz25_3 := blk_frozen BK112.out 3; have hfz25_4 := blk_frozen BK112.out 4; have hfz25_5 := blk_frozen BK112.out 5; have hfz25_6 := blk_frozen BK112.out 6; have hfz25_7 := blk_frozen BK112.out 7; have hfz25_8 := blk_frozen BK112.out 8; have hfz25_9 := blk_frozen BK112.out 9; have hfz25_10 := blk_frozen BK112.out 10; have hfz25_11 := blk_frozen BK112.out 11; have hfz25_12 := blk_frozen BK112.out 12; have hfz25_13 := blk_frozen BK112.out 13))
      go_ret
      exact ⟨by first | rfl | (simp [errW_none, errW_some] <;> rfl) | (simp [*, errW_none, errW_some] <;> rfl), by repeat (first | (with_reducible first | exact HB.out | apply below_alloc | apply pw_below_drewN | apply below_drew1 | refine below_set ?_ GE112.out) | exact HB.out)⟩
    ·rw [if_neg c5] at H
     have c5b0 : (a0_4.toList == ([] : List UInt8)) = false := beq_eq_false_iff_ne.mpr c5
     have c5b1 : (a0_4.toList != ([] : List UInt8)) = true := bne_iff_ne.mpr c5
     obtain rfl := Option.some.inj H
     go_enter Try.func31, Try.ntmps31
     go_wp2_with (first | ((with_reducible refine gate_dst (N := 1) rfl ?_); (try (refine gate_guard (by rfl) ?_; dsimp only)); refine box_event ?hg (N := 1) ?hd (cs := #[.int .i64 a0_0, .int .i64 a0_1, .string a0_2, .string a0_3, .string a0_4, .string a0_5, .string a0_6, .string a0_7, .int .i64 a0_8, .int .i64 a0_9, .int .i64 a0_10, .int .i64 a0_11, .int .i64 a0_12, .slice A0_13 l0_13.length c0_13]) (t := 30) ?hr ?_; (case hd => rfl); (case hg => rfl); (case hr => first | (go_simp; done) | (go_simp; rfl)); intro gb112 hg w26 hbox hb; have n0_ := Aside0.mk (below_step qa hb); have n1_ := Aside0.mk (hbox); have n2_ := Aside0.mk ((by rw [hg]; exact (below_size qa) : w.heap.size ≤ gb112)); have n3_ := Aside0.mk ((by rw [hg]; exact (below_size qa) : w.heap.size ≤ gb112)); clear HB; have HB := n0_; have BK112 := n1_; have GW112 := n2_; have GE112 := n3_; clear n0_ n1_ n2_ n3_; clear hb hbox hg; have hcz27_0 : w26.cell? ⟨gb112, 0, none⟩ = some (.int .i64 a0_0) := (blk_cell BK112.out 0).trans rfl; have hcz27_1 : w26.cell? ⟨gb112, 1, none⟩ = some (.int .i64 a0_1) := (blk_cell BK112.out 1).trans rfl; have hcz27_2 : w26.cell? ⟨gb112, 2, none⟩ = some (.string a0_2) := (blk_cell BK112.out 2).trans rfl; have hcz27_3 : w26.cell? ⟨gb112, 3, none⟩ = some (.string a0_3) := (blk_cell BK112.out 3).trans rfl; have hcz27_4 : w26.cell? ⟨gb112, 4, none⟩ = some (.string a0_4) := (blk_cell BK112.out 4).trans rfl; have hcz27_5 : w26.cell? ⟨gb112, 5, none⟩ = some (.string a0_5) := (blk_cell BK112.out 5).trans rfl; have hcz27_6 : w26.cell? ⟨gb112, 6, none⟩ = some (.string a0_6) := (blk_cell BK112.out 6).trans rfl; have hcz27_7 : w26.cell? ⟨gb112, 7, none⟩ = some (.string a0_7) := (blk_cell BK112.out 7).trans rfl; have hcz27_8 : w26.cell? ⟨gb112, 8, none⟩ = some (.int .i64 a0_8) := (blk_cell BK112.out 8).trans rfl; have hcz27_9 : w26.cell? ⟨gb112, 9, none⟩ = some (.int .i64 a0_9) := (blk_cell BK112.out 9).trans rfl; have hcz27_10 : w26.cell? ⟨gb112, 10, none⟩ = some (.int .i64 a0_10) := (blk_cell BK112.out 10).trans rfl; have hcz27_11 : w26.cell? ⟨gb112, 11, none⟩ = some (.int .i64 a0_11) := (blk_cell BK112.out 11).trans rfl; have hcz27_12 : w26.cell? ⟨gb112, 12, none⟩ = some (.int .i64 a0_12) := (blk_cell BK112.out 12).trans rfl; have hcz27_13 : w26.cell? ⟨gb112, 13, none⟩ = some (.slice A0_13 l0_13.length c0_13) := (blk_cell BK112.out 13).trans rfl; have hfz27_0 := blk_frozen BK112.out 0; have hfz27_1 := blk_frozen BK112.out 1; have hfz27_2 := blk_frozen BK112.out 2; have hfz27_3 := blk_frozen BK112.out 3; have hfz27_4 := blk_frozen BK112.out 4; have hfz27_5 := blk_frozen BK112.out 5; have hfz27_6 := blk_frozen BK112.out 6; have hfz27_7 := blk_frozen BK112.out 7; have hfz27_8 := blk_frozen BK112.out 8; have hfz27_9 := blk_frozen BK112.out 9; have hfz27_10 := blk_frozen BK112.out 10; have hfz27_11 := blk_frozen BK112.out 11; have hfz27_12 := blk_frozen BK112.out 12; have hfz27_13 := blk_frozen BK112.out 13))
     go_ret
     exact ⟨by first | rfl | (simp [errW_none, errW_some] <;> rfl) | (simp [*, errW_none, errW_some] <;> rfl), by repeat (first | (with_reducible first | exact HB.out | apply below_alloc | apply pw_below_drewN | apply below_drew1 | refine below_set ?_ GE112.out) | exact HB.out)⟩
   ·rw [if_neg c4] at H
    have c4b0 : (a0_3.toList == ([] : List UInt8)) = false := beq_eq_false_iff_ne.mpr c4
    have c4b1 : (a0_3.toList != ([] : List UInt8)) = true := bne_iff_ne.mpr c4
    obtain rfl := Option.some.inj H
    go_enter Try.func31, Try.ntmps31
    go_wp2_with (first | ((with_reducible refine gate_dst (N := 1) rfl ?_); (try (refine gate_guard (by rfl) ?_; dsimp only)); refine box_event ?hg (N := 1) ?hd (cs := #[.int .i64 a0_0, .int .i64 a0_1, .string a0_2, .string a0_3, .string a0_4, .string a0_5, .string a0_6, .string a0_7, .int .i64 a0_8, .int .i64 a0_9, .int .i64 a0_10, .int .i64 a0_11, .int .i64 a0_12, .slice A0_13 l0_13.length c0_13]) (t := 30) ?hr ?_; (case hd => rfl); (case hg => rfl); (case hr => first | (go_simp; done) | (go_simp; rfl)); intro gb112 hg w28 hbox hb; have n0_ := Aside0.mk (below_step qa hb); have n1_ := Aside0.mk (hbox); have n2_ := Aside0.mk ((by rw [hg]; exact (below_size qa) : w.heap.size ≤ gb112)); have n3_ := Aside0.mk ((by rw [hg]; exact (below_size qa) : w.heap.size ≤ gb112)); clear HB; have HB := n0_; have BK112 := n1_; have GW112 := n2_; have GE112 := n3_; clear n0_ n1_ n2_ n3_; clear hb hbox hg; have hcz29_0 : w28.cell? ⟨gb112, 0, none⟩ = some (.int .i64 a0_0) := (blk_cell BK112.out 0).trans rfl; have hcz29_1 : w28.cell? ⟨gb112, 1, none⟩ = some (.int .i64 a0_1) := (blk_cell BK112.out 1).trans rfl; have hcz29_2 : w28.cell? ⟨gb112, 2, none⟩ = some (.string a0_2) := (blk_cell BK112.out 2).trans rfl; have hcz29_3 : w28.cell? ⟨gb112, 3, none⟩ = some (.string a0_3) := (blk_cell BK112.out 3).trans rfl; have hcz29_4 : w28.cell? ⟨gb112, 4, none⟩ = some (.string a0_4) := (blk_cell BK112.out 4).trans rfl; have hcz29_5 : w28.cell? ⟨gb112, 5, none⟩ = some (.string a0_5) := (blk_cell BK112.out 5).trans rfl; have hcz29_6 : w28.cell? ⟨gb112, 6, none⟩ = some (.string a0_6) := (blk_cell BK112.out 6).trans rfl; have hcz29_7 : w28.cell? ⟨gb112, 7, none⟩ = some (.string a0_7) := (blk_cell BK112.out 7).trans rfl; have hcz29_8 : w28.cell? ⟨gb112, 8, none⟩ = some (.int .i64 a0_8) := (blk_cell BK112.out 8).trans rfl; have hcz29_9 : w28.cell? ⟨gb112, 9, none⟩ = some (.int .i64 a0_9) := (blk_cell BK112.out 9).trans rfl; have hcz29_10 : w28.cell? ⟨gb112, 10, none⟩ = some (.int .i64 a0_10) := (blk_cell BK112.out 10).trans rfl; have hcz29_11 : w28.cell? ⟨gb112, 11, none⟩ = some (.int .i64 a0_11) := (blk_cell BK112.out 11).trans rfl; have hcz29_12 : w28.cell? ⟨gb112, 12, none⟩ = some (.int .i64 a0_12) := (blk_cell BK112.out 12).trans rfl; have hcz29_13 : w28.cell? ⟨gb112, 13, none⟩ = some (.slice A0_13 l0_13.length c0_13) := (blk_cell BK112.out 13).trans rfl; have hfz29_0 := blk_frozen BK112.out 0; have hfz29_1 := blk_frozen BK112.out 1; have hfz29_2 := blk_frozen BK112.out 2; have hfz29_3 := blk_frozen BK112.out 3; have hfz29_4 := blk_frozen BK112.out 4; have hfz29_5 := blk_frozen BK112.out 5; have hfz29_6 := blk_frozen BK112.out 6; have hfz29_7 := blk_frozen BK112.out 7; have hfz29_8 := blk_frozen BK112.out 8; have hfz29_9 := blk_frozen BK112.out 9; have hfz29_10 := blk_frozen BK112.out 10; have hfz29_11 := blk_frozen BK112.out 11; have hfz29_12 := blk_frozen BK112.out 12; have hfz29_13 := blk_frozen BK112.out 13))
    go_ret
    exact ⟨by first | rfl | (simp [errW_none, errW_some] <;> rfl) | (simp [*, errW_none, errW_some] <;> rfl), by repeat (first | (with_reducible first | exact HB.out | apply below_alloc | apply pw_below_drewN | apply below_drew1 | refine below_set ?_ GE112.out) | exact HB.out)⟩
  ·rw [if_neg c3] at H
   have c3b0 : (a0_2.toList == ([] : List UInt8)) = false := beq_eq_false_iff_ne.mpr c3
   have c3b1 : (a0_2.toList != ([] : List UInt8)) = true := bne_iff_ne.mpr c3
   obtain rfl := Option.some.inj H
   go_enter Try.func31, Try.ntmps31
   go_wp2_with (first | ((with_reducible refine gate_dst (N := 1) rfl ?_); (try (refine gate_guard (by rfl) ?_; dsimp only)); refine box_event ?hg (N := 1) ?hd (cs := #[.int .i64 a0_0, .int .i64 a0_1, .string a0_2, .string a0_3, .string a0_4, .string a0_5, .string a0_6, .string a0_7, .int .i64 a0_8, .int .i64 a0_9, .int .i64 a0_10, .int .i64 a0_11, .int .i64 a0_12, .slice A0_13 l0_13.length c0_13]) (t := 30) ?hr ?_; (case hd => rfl); (case hg => rfl); (case hr => first | (go_simp; done) | (go_simp; rfl)); intro gb112 hg w30 hbox hb; have n0_ := Aside0.mk (below_step qa hb); have n1_ := Aside0.mk (hbox); have n2_ := Aside0.mk ((by rw [hg]; exact (below_size qa) : w.heap.size ≤ gb112)); have n3_ := Aside0.mk ((by rw [hg]; exact (below_size qa) : w.heap.size ≤ gb112)); clear HB; have HB := n0_; have BK112 := n1_; have GW112 := n2_; have GE112 := n3_; clear n0_ n1_ n2_ n3_; clear hb hbox hg; have hcz31_0 : w30.cell? ⟨gb112, 0, none⟩ = some (.int .i64 a0_0) := (blk_cell BK112.out 0).trans rfl; have hcz31_1 : w30.cell? ⟨gb112, 1, none⟩ = some (.int .i64 a0_1) := (blk_cell BK112.out 1).trans rfl; have hcz31_2 : w30.cell? ⟨gb112, 2, none⟩ = some (.string a0_2) := (blk_cell BK112.out 2).trans rfl; have hcz31_3 : w30.cell? ⟨gb112, 3, none⟩ = some (.string a0_3) := (blk_cell BK112.out 3).trans rfl; have hcz31_4 : w30.cell? ⟨gb112, 4, none⟩ = some (.string a0_4) := (blk_cell BK112.out 4).trans rfl; have hcz31_5 : w30.cell? ⟨gb112, 5, none⟩ = some (.string a0_5) := (blk_cell BK112.out 5).trans rfl; have hcz31_6 : w30.cell? ⟨gb112, 6, none⟩ = some (.string a0_6) := (blk_cell BK112.out 6).trans rfl; have hcz31_7 : w30.cell? ⟨gb112, 7, none⟩ = some (.string a0_7) := (blk_cell BK112.out 7).trans rfl; have hcz31_8 : w30.cell? ⟨gb112, 8, none⟩ = some (.int .i64 a0_8) := (blk_cell BK112.out 8).trans rfl; have hcz31_9 : w30.cell? ⟨gb112, 9, none⟩ = some (.int .i64 a0_9) := (blk_cell BK112.out 9).trans rfl; have hcz31_10 : w30.cell? ⟨gb112, 10, none⟩ = some (.int .i64 a0_10) := (blk_cell BK112.out 10).trans rfl; have hcz31_11 : w30.cell? ⟨gb112, 11, none⟩ = some (.int .i64 a0_11) := (blk_cell BK112.out 11).trans rfl; have hcz31_12 : w30.cell? ⟨gb112, 12, none⟩ = some (.int .i64 a0_12) := (blk_cell BK112.out 12).trans rfl; have hcz31_13 : w30.cell? ⟨gb112, 13, none⟩ = some (.slice A0_13 l0_13.length c0_13) := (blk_cell BK112.out 13).trans rfl; have hfz31_0 := blk_frozen BK112.out 0; have hfz31_1 := blk_frozen BK112.out 1; have hfz31_2 := blk_frozen BK112.out 2; have hfz31_3 := blk_frozen BK112.out 3; have hfz31_4 := blk_frozen BK112.out 4; have hfz31_5 := blk_frozen BK112.out 5; have hfz31_6 := blk_frozen BK112.out 6; have hfz31_7 := blk_frozen BK112.out 7; have hfz31_8 := blk_frozen BK112.out 8; have hfz31_9 := blk_frozen BK112.out 9; have hfz31_10 := blk_frozen BK112.out 10; have hfz31_11 := blk_frozen BK112.out 11; have hfz31_12 := blk_frozen BK112.out 12; have hfz31_13 := blk_frozen BK112.out 13))
   go_ret
   exact ⟨by first | rfl | (simp [errW_none, errW_some] <;> rfl) | (simp [*, errW_none, errW_some] <;> rfl), by repeat (first | (with_reducible first | exact HB.out | apply below_alloc | apply pw_below_drewN | apply below_drew1 | refine below_set ?_ GE112.out) | exact HB.out)⟩
 ·rw [if_neg c2] at H
  have c2b0 : (a0_1 == 0) = false := beq_eq_false_iff_ne.mpr c2
  have c2b1 : (a0_1 != 0) = true := bne_iff_ne.mpr c2
  obtain rfl := Option.some.inj H
  go_enter Try.func31, Try.ntmps31
  go_wp2_with (first | ((with_reducible refine gate_dst (N := 1) rfl ?_); (try (refine gate_guard (by rfl) ?_; dsimp only)); refine box_event ?hg (N := 1) ?hd (cs := #[.int .i64 a0_0, .int .i64 a0_1, .string a0_2, .string a0_3, .string a0_4, .string a0_5, .string a0_6, .string a0_7, .int .i64 a0_8, .int .i64 a0_9, .int .i64 a0_10, .int .i64 a0_11, .int .i64 a0_12, .slice A0_13 l0_13.length c0_13]) (t := 30) ?hr ?_; (case hd => rfl); (case hg => rfl); (case hr => first | (go_simp; done) | (go_simp; rfl)); intro gb112 hg w32 hbox hb; have n0_ := Aside0.mk (below_step qa hb); have n1_ := Aside0.mk (hbox); have n2_ := Aside0.mk ((by rw [hg]; exact (below_size qa) : w.heap.size ≤ gb112)); have n3_ := Aside0.mk ((by rw [hg]; exact (below_size qa) : w.heap.size ≤ gb112)); clear HB; have HB := n0_; have BK112 := n1_; have GW112 := n2_; have GE112 := n3_; clear n0_ n1_ n2_ n3_; clear hb hbox hg; have hcz33_0 : w32.cell? ⟨gb112, 0, none⟩ = some (.int .i64 a0_0) := (blk_cell BK112.out 0).trans rfl; have hcz33_1 : w32.cell? ⟨gb112, 1, none⟩ = some (.int .i64 a0_1) := (blk_cell BK112.out 1).trans rfl; have hcz33_2 : w32.cell? ⟨gb112, 2, none⟩ = some (.string a0_2) := (blk_cell BK112.out 2).trans rfl; have hcz33_3 : w32.cell? ⟨gb112, 3, none⟩ = some (.string a0_3) := (blk_cell BK112.out 3).trans rfl; have hcz33_4 : w32.cell? ⟨gb112, 4, none⟩ = some (.string a0_4) := (blk_cell BK112.out 4).trans rfl; have hcz33_5 : w32.cell? ⟨gb112, 5, none⟩ = some (.string a0_5) := (blk_cell BK112.out 5).trans rfl; have hcz33_6 : w32.cell? ⟨gb112, 6, none⟩ = some (.string a0_6) := (blk_cell BK112.out 6).trans rfl; have hcz33_7 : w32.cell? ⟨gb112, 7, none⟩ = some (.string a0_7) := (blk_cell BK112.out 7).trans rfl; have hcz33_8 : w32.cell? ⟨gb112, 8, none⟩ = some (.int .i64 a0_8) := (blk_cell BK112.out 8).trans rfl; have hcz33_9 : w32.cell? ⟨gb112, 9, none⟩ = some (.int .i64 a0_9) := (blk_cell BK112.out 9).trans rfl; have hcz33_10 : w32.cell? ⟨gb112, 10, none⟩ = some (.int .i64 a0_10) := (blk_cell BK112.out 10).trans rfl; have hcz33_11 : w32.cell? ⟨gb112, 11, none⟩ = some (.int .i64 a0_11) := (blk_cell BK112.out 11).trans rfl; have hcz33_12 : w32.cell? ⟨gb112, 12, none⟩ = some (.int .i64 a0_12) := (blk_cell BK112.out 12).trans rfl; have hcz33_13 : w32.cell? ⟨gb112, 13, none⟩ = some (.slice A0_13 l0_13.length c0_13) := (blk_cell BK112.out 13).trans rfl; have hfz33_0 := blk_frozen BK112.out 0; have hfz33_1 := blk_frozen BK112.out 1; have hfz33_2 := blk_frozen BK112.out 2; have hfz33_3 := blk_frozen BK112.out 3; have hfz33_4 := blk_frozen BK112.out 4; have hfz33_5 := blk_frozen BK112.out 5; have hfz33_6 := blk_frozen BK112.out 6; have hfz33_7 := blk_frozen BK112.out 7; have hfz33_8 := blk_frozen BK112.out 8; have hfz33_9 := blk_frozen BK112.out 9; have hfz33_10 := blk_frozen BK112.out 10; have hfz33_11 := blk_frozen BK112.out 11; have hfz33_12 := blk_frozen BK112.out 12; have hfz33_13 := blk_frozen BK112.out 13))
  go_ret
  exact ⟨by first | rfl | (simp [errW_none, errW_some] <;> rfl) | (simp [*, errW_none, errW_some] <;> rfl), by repeat (first | (with_reducible first | exact HB.out | apply below_alloc | apply pw_below_drewN | apply below_drew1 | refine below_set ?_ GE112.out) | exact HB.out)⟩
structure Rq where
 kd : Int
 ses : Int
 bu : ByteArray
 ob : ByteArray
 ve : ByteArray
 pr : ByteArray
 de : ByteArray
 bo : ByteArray
 ck : Int
 re : Int
 im : Int
 id : Int
 n : Int
 pv : Value
 pa : List Int
def Rq.cells (q : Rq) : Array Value := #[.int .i64 q.kd, .int .i64 q.ses, .string q.bu, .string q.ob, .string q.ve, .string q.pr, .string q.de, .string q.bo, .int .i64 q.ck, .int .i64 q.re, .int .i64 q.im, .int .i64 q.id, .int .i64 q.n, q.pv]
def Rq.blank (q : Rq) (c : Nat) : Rq :=
 if c = 83 then { q with ses := 0 } else if c = 66 then { q with bu := ⟨#[]⟩ } else if c = 79 then { q with ob := ⟨#[]⟩ } else if c = 86 then { q with ve := ⟨#[]⟩ } else if c = 80 then { q with pr := ⟨#[]⟩ } else if c = 68 then { q with de := ⟨#[]⟩ } else if c = 67 then { q with ck := 0, re := 0, im := 0 } else if c = 73 then { q with id := 0 } else if c = 78 then { q with n := 0 } else if c = 76 then { q with pv := .slice none 0 0, pa := [] } else if c = 88 then { q with bo := ⟨#[]⟩ } else q
def letters : List Nat := [83, 66, 79, 86, 80, 68, 67, 73, 78, 76, 88]
theorem grown_setCell (W : World) (g j : Nat) (v : Value) : W.grownBy (W.setCell ⟨g, j, none⟩ v) (some g) :=
 ⟨rfl, rfl, rfl, by simp [World.setCell], fun k _ hne => Below.heap_setCell W ⟨g, j, none⟩ v k (fun e => hne (by rw [e]))⟩
theorem grown_tr {a b c : World} {row : Option Nat} (h : a.grownBy b row) (k : b.grownBy c row) : a.grownBy c row :=
 ⟨k.os.trans h.os, k.tape.trans h.tape, k.output.trans h.output, Nat.le_trans h.size k.size, fun i hi hne => (k.block i (Nat.lt_of_lt_of_le hi h.size) hne).trans (h.block i hi hne)⟩
set_option maxHeartbeats 1000000 in
theorem blank83 (W : World) (g : Nat) (q : Rq) (hg : W.heap[g]? = some (.cells q.cells 30 (0, 0))) :
  Calls Try.prog 29 #[.pointer (some ⟨g, 0, none⟩), .int .i32 83] W fun e w' => e = .returned (.tuple #[]) ∧ w'.heap[g]? = some (.cells (q.blank 83).cells 30 (0, 0)) ∧ W.grownBy w' (some g) := by
 have c1 : W.cell? ⟨g, 1, none⟩ = some (.int .i64 q.ses) := (blk_cell hg 1).trans rfl
 have f1 := blk_frozen hg 1
 have HG := Aside0.mk hg
 clear hg
 go_enter Try.func29, Try.ntmps29
 go_wp2
 exact bodyPost_end (v := .tuple #[]) qv rfl ⟨rfl, (blk_set HG.out 1 (.int .i64 0)).trans rfl, grown_setCell W g 1 _⟩
set_option maxHeartbeats 1000000 in
theorem blank66 (W : World) (g : Nat) (q : Rq) (hg : W.heap[g]? = some (.cells q.cells 30 (0, 0))) :
  Calls Try.prog 29 #[.pointer (some ⟨g, 0, none⟩), .int .i32 66] W fun e w' => e = .returned (.tuple #[]) ∧ w'.heap[g]? = some (.cells (q.blank 66).cells 30 (0, 0)) ∧ W.grownBy w' (some g) := by
 have c2 : W.cell? ⟨g, 2, none⟩ = some (.string q.bu) := (blk_cell hg 2).trans rfl
 have f2 := blk_frozen hg 2
 have HG := Aside0.mk hg
 clear hg
 go_enter Try.func29, Try.ntmps29
 go_wp2
 exact bodyPost_end (v := .tuple #[]) qv rfl ⟨rfl, (blk_set HG.out 2 (.string ⟨#[]⟩)).trans rfl, grown_setCell W g 2 _⟩
set_option maxHeartbeats 1000000 in
theorem blank79 (W : World) (g : Nat) (q : Rq) (hg : W.heap[g]? = some (.cells q.cells 30 (0, 0))) :
  Calls Try.prog 29 #[.pointer (some ⟨g, 0, none⟩), .int .i32 79] W fun e w' => e = .returned (.tuple #[]) ∧ w'.heap[g]? = some (.cells (q.blank 79).cells 30 (0, 0)) ∧ W.grownBy w' (some g) := by
 have c3 : W.cell? ⟨g, 3, none⟩ = some (.string q.ob) := (blk_cell hg 3).trans rfl
 have f3 := blk_frozen hg 3
 have HG := Aside0.mk hg
 clear hg
 go_enter Try.func29, Try.ntmps29
 go_wp2
 exact bodyPost_end (v := .tuple #[]) qv rfl ⟨rfl, (blk_set HG.out 3 (.string ⟨#[]⟩)).trans rfl, grown_setCell W g 3 _⟩
set_option maxHeartbeats 1000000 in
theorem blank86 (W : World) (g : Nat) (q : Rq) (hg : W.heap[g]? = some (.cells q.cells 30 (0, 0))) :
  Calls Try.prog 29 #[.pointer (some ⟨g, 0, none⟩), .int .i32 86] W fun e w' => e = .returned (.tuple #[]) ∧ w'.heap[g]? = some (.cells (q.blank 86).cells 30 (0, 0)) ∧ W.grownBy w' (some g) := by
 have c4 : W.cell? ⟨g, 4, none⟩ = some (.string q.ve) := (blk_cell hg 4).trans rfl
 have f4 := blk_frozen hg 4
 have HG := Aside0.mk hg
 clear hg
 go_enter Try.func29, Try.ntmps29
 go_wp2
 exact bodyPost_end (v := .tuple #[]) qv rfl ⟨rfl, (blk_set HG.out 4 (.string ⟨#[]⟩)).trans rfl, grown_setCell W g 4 _⟩
set_option maxHeartbeats 1000000 in
theorem blank80 (W : World) (g : Nat) (q : Rq) (hg : W.heap[g]? = some (.cells q.cells 30 (0, 0))) :
  Calls Try.prog 29 #[.pointer (some ⟨g, 0, none⟩), .int .i32 80] W fun e w' => e = .returned (.tuple #[]) ∧ w'.heap[g]? = some (.cells (q.blank 80).cells 30 (0, 0)) ∧ W.grownBy w' (some g) := by
 have c5 : W.cell? ⟨g, 5, none⟩ = some (.string q.pr) := (blk_cell hg 5).trans rfl
 have f5 := blk_frozen hg 5
 have HG := Aside0.mk hg
 clear hg
 go_enter Try.func29, Try.ntmps29
 go_wp2
 exact bodyPost_end (v := .tuple #[]) qv rfl ⟨rfl, (blk_set HG.out 5 (.string ⟨#[]⟩)).trans rfl, grown_setCell W g 5 _⟩
set_option maxHeartbeats 1000000 in
theorem blank68 (W : World) (g : Nat) (q : Rq) (hg : W.heap[g]? = some (.cells q.cells 30 (0, 0))) :
  Calls Try.prog 29 #[.pointer (some ⟨g, 0, none⟩), .int .i32 68] W fun e w' => e = .returned (.tuple #[]) ∧ w'.heap[g]? = some (.cells (q.blank 68).cells 30 (0, 0)) ∧ W.grownBy w' (some g) := by
 have c6 : W.cell? ⟨g, 6, none⟩ = some (.string q.de) := (blk_cell hg 6).trans rfl
 have f6 := blk_frozen hg 6
 have HG := Aside0.mk hg
 clear hg
 go_enter Try.func29, Try.ntmps29
 go_wp2
 exact bodyPost_end (v := .tuple #[]) qv rfl ⟨rfl, (blk_set HG.out 6 (.string ⟨#[]⟩)).trans rfl, grown_setCell W g 6 _⟩
set_option maxHeartbeats 1000000 in
theorem blank67 (W : World) (g : Nat) (q : Rq) (hg : W.heap[g]? = some (.cells q.cells 30 (0, 0))) :
  Calls Try.prog 29 #[.pointer (some ⟨g, 0, none⟩), .int .i32 67] W fun e w' => e = .returned (.tuple #[]) ∧ w'.heap[g]? = some (.cells (q.blank 67).cells 30 (0, 0)) ∧ W.grownBy w' (some g) := by
 have c8 : W.cell? ⟨g, 8, none⟩ = some (.int .i64 q.ck) := (blk_cell hg 8).trans rfl
 have f8 := blk_frozen hg 8
 have c9 : W.cell? ⟨g, 9, none⟩ = some (.int .i64 q.re) := (blk_cell hg 9).trans rfl
 have f9 := blk_frozen hg 9
 have c10 : W.cell? ⟨g, 10, none⟩ = some (.int .i64 q.im) := (blk_cell hg 10).trans rfl
 have f10 := blk_frozen hg 10
 have HG := Aside0.mk hg
 clear hg
 go_enter Try.func29, Try.ntmps29
 go_wp2
 exact bodyPost_end (v := .tuple #[]) qv rfl ⟨rfl, (blk_set (blk_set (blk_set HG.out 8 (.int .i64 0)) 9 (.int .i64 0)) 10 (.int .i64 0)).trans rfl, grown_tr (grown_tr (grown_setCell W g 8 _) (grown_setCell _ g 9 _)) (grown_setCell _ g 10 _)⟩
set_option maxHeartbeats 1000000 in
theorem blank73 (W : World) (g : Nat) (q : Rq) (hg : W.heap[g]? = some (.cells q.cells 30 (0, 0))) :
  Calls Try.prog 29 #[.pointer (some ⟨g, 0, none⟩), .int .i32 73] W fun e w' => e = .returned (.tuple #[]) ∧ w'.heap[g]? = some (.cells (q.blank 73).cells 30 (0, 0)) ∧ W.grownBy w' (some g) := by
 have c11 : W.cell? ⟨g, 11, none⟩ = some (.int .i64 q.id) := (blk_cell hg 11).trans rfl
 have f11 := blk_frozen hg 11
 have HG := Aside0.mk hg
 clear hg
 go_enter Try.func29, Try.ntmps29
 go_wp2
 exact bodyPost_end (v := .tuple #[]) qv rfl ⟨rfl, (blk_set HG.out 11 (.int .i64 0)).trans rfl, grown_setCell W g 11 _⟩
set_option maxHeartbeats 1000000 in
theorem blank78 (W : World) (g : Nat) (q : Rq) (hg : W.heap[g]? = some (.cells q.cells 30 (0, 0))) :
  Calls Try.prog 29 #[.pointer (some ⟨g, 0, none⟩), .int .i32 78] W fun e w' => e = .returned (.tuple #[]) ∧ w'.heap[g]? = some (.cells (q.blank 78).cells 30 (0, 0)) ∧ W.grownBy w' (some g) := by
 have c12 : W.cell? ⟨g, 12, none⟩ = some (.int .i64 q.n) := (blk_cell hg 12).trans rfl
 have f12 := blk_frozen hg 12
 have HG := Aside0.mk hg
 clear hg
 go_enter Try.func29, Try.ntmps29
 go_wp2
 exact bodyPost_end (v := .tuple #[]) qv rfl ⟨rfl, (blk_set HG.out 12 (.int .i64 0)).trans rfl, grown_setCell W g 12 _⟩
set_option maxHeartbeats 1000000 in
theorem blank76 (W : World) (g : Nat) (q : Rq) (hg : W.heap[g]? = some (.cells q.cells 30 (0, 0))) :
  Calls Try.prog 29 #[.pointer (some ⟨g, 0, none⟩), .int .i32 76] W fun e w' => e = .returned (.tuple #[]) ∧ w'.heap[g]? = some (.cells (q.blank 76).cells 30 (0, 0)) ∧ W.grownBy w' (some g) := by
 have c13 : W.cell? ⟨g, 13, none⟩ = some (q.pv) := (blk_cell hg 13).trans rfl
 have f13 := blk_frozen hg 13
 have HG := Aside0.mk hg
 clear hg
 go_enter Try.func29, Try.ntmps29
 go_wp2
 exact bodyPost_end (v := .tuple #[]) qv rfl ⟨rfl, (blk_set HG.out 13 (.slice none 0 0)).trans rfl, grown_setCell W g 13 _⟩
set_option maxHeartbeats 1000000 in
theorem blank88 (W : World) (g : Nat) (q : Rq) (hg : W.heap[g]? = some (.cells q.cells 30 (0, 0))) :
  Calls Try.prog 29 #[.pointer (some ⟨g, 0, none⟩), .int .i32 88] W fun e w' => e = .returned (.tuple #[]) ∧ w'.heap[g]? = some (.cells (q.blank 88).cells 30 (0, 0)) ∧ W.grownBy w' (some g) := by
 have c7 : W.cell? ⟨g, 7, none⟩ = some (.string q.bo) := (blk_cell hg 7).trans rfl
 have f7 := blk_frozen hg 7
 have HG := Aside0.mk hg
 clear hg
 go_enter Try.func29, Try.ntmps29
 go_wp2
 exact bodyPost_end (v := .tuple #[]) qv rfl ⟨rfl, (blk_set HG.out 7 (.string ⟨#[]⟩)).trans rfl, grown_setCell W g 7 _⟩
theorem blank_any (W : World) (g : Nat) (q : Rq) (c : Nat) (hc : c ∈ letters) (hg : W.heap[g]? = some (.cells q.cells 30 (0, 0))) :
  Calls Try.prog 29 #[.pointer (some ⟨g, 0, none⟩), .int .i32 (c : Int)] W fun e w' => e = .returned (.tuple #[]) ∧ w'.heap[g]? = some (.cells (q.blank c).cells 30 (0, 0)) ∧ W.grownBy w' (some g) := by
 simp only [letters, List.mem_cons, List.not_mem_nil, or_false] at hc
 rcases hc with rfl | rfl | rfl | rfl | rfl | rfl | rfl | rfl | rfl | rfl | rfl
 ·exact blank83 W g q hg
 ·exact blank66 W g q hg
 ·exact blank79 W g q hg
 ·exact blank86 W g q hg
 ·exact blank80 W g q hg
 ·exact blank68 W g q hg
 ·exact blank67 W g q hg
 ·exact blank73 W g q hg
 ·exact blank78 W g q hg
 ·exact blank76 W g q hg
 ·exact blank88 W g q hg
def Rq.blanks (q : Rq) (l : List UInt8) : Rq := l.foldl (fun q c => q.blank c.toNat) q
def okLetters (s : ByteArray) : Bool := s.data.toList.all fun c => letters.contains c.toNat
theorem Rq.blank_pv (q : Rq) (c : Nat) (w : World) (h : ∃ A c, q.pv = .slice A q.pa.length c ∧ Kd.C (Kd.int .i64) w A q.pa.length q.pa ∧ q.pa.length ≤ c) : ∃ A c', (q.blank c).pv = .slice A (q.blank c).pa.length c' ∧ Kd.C (Kd.int .i64) w A (q.blank c).pa.length (q.blank c).pa ∧ (q.blank c).pa.length ≤ c' := by
 unfold Rq.blank
 by_cases h83 : c = 83
 ·rw [if_pos h83]
  exact h
 rw [if_neg h83]
 by_cases h66 : c = 66
 ·rw [if_pos h66]
  exact h
 rw [if_neg h66]
 by_cases h79 : c = 79
 ·rw [if_pos h79]
  exact h
 rw [if_neg h79]
 by_cases h86 : c = 86
 ·rw [if_pos h86]
  exact h
 rw [if_neg h86]
 by_cases h80 : c = 80
 ·rw [if_pos h80]
  exact h
 rw [if_neg h80]
 by_cases h68 : c = 68
 ·rw [if_pos h68]
  exact h
 rw [if_neg h68]
 by_cases h67 : c = 67
 ·rw [if_pos h67]
  exact h
 rw [if_neg h67]
 by_cases h73 : c = 73
 ·rw [if_pos h73]
  exact h
 rw [if_neg h73]
 by_cases h78 : c = 78
 ·rw [if_pos h78]
  exact h
 rw [if_neg h78]
 by_cases h76 : c = 76
 ·rw [if_pos h76]
  exact ⟨none, 0, rfl, ⟨rfl, Nat.zero_le _, fun h => absurd h (Nat.lt_irrefl _)⟩, Nat.le_refl _⟩
 rw [if_neg h76]
 by_cases h88 : c = 88
 ·rw [if_pos h88]
  exact h
 rw [if_neg h88]
 exact h
theorem Rq.blanks_pv (l : List UInt8) : ∀ (q : Rq) (w : World), (∃ A c, q.pv = .slice A q.pa.length c ∧ Kd.C (Kd.int .i64) w A q.pa.length q.pa ∧ q.pa.length ≤ c) → ∃ A c', (q.blanks l).pv = .slice A (q.blanks l).pa.length c' ∧ Kd.C (Kd.int .i64) w A (q.blanks l).pa.length (q.blanks l).pa ∧ (q.blanks l).pa.length ≤ c' := by
 induction l with
 | nil => intro q w h; exact h
 | cons c l ih => intro q w h; exact ih (q.blank c.toNat) w (Rq.blank_pv q c.toNat w h)
theorem ok_at (s : ByteArray) (h : okLetters s = true) (pos : Nat) (hp : pos < s.size) : s[pos].toNat ∈ letters ∧ s[pos].toNat < 128 := by
 unfold okLetters at h
 rw [List.all_eq_true] at h
 have h1 := h s[pos] (by
  show s.data[pos] ∈ s.data.toList
  exact Array.mem_def.mp (Array.getElem_mem _))
 have h2 : s[pos].toNat ∈ letters := by simpa using h1
 refine ⟨h2, ?_⟩
 simp only [letters, List.mem_cons, List.not_mem_nil, or_false] at h2
 omega
theorem blanks_snoc (q : Rq) (s : ByteArray) (pos : Nat) (hp : pos < s.size) : q.blanks (s.data.toList.take (pos + 1)) = (q.blanks (s.data.toList.take pos)).blank s[pos].toNat := by
 have e : s.data.toList.take (pos + 1) = s.data.toList.take pos ++ [s[pos]] := by
  rw [List.take_succ_eq_append_getElem (by simpa using hp)]; rfl
 rw [e]
 simp [Rq.blanks, List.foldl_append]
/-- Alike but for the slice's place in memory. -/
def Rq.same (a b : Rq) : Prop := a.kd = b.kd ∧ a.ses = b.ses ∧ a.bu = b.bu ∧ a.ob = b.ob ∧ a.ve = b.ve ∧ a.pr = b.pr ∧ a.de = b.de ∧ a.bo = b.bo ∧ a.ck = b.ck ∧ a.re = b.re ∧ a.im = b.im ∧ a.id = b.id ∧ a.n = b.n ∧ a.pa = b.pa
theorem Rq.blank_same (a b : Rq) (c : Nat) (h : Rq.same a b) : Rq.same (a.blank c) (b.blank c) := by
 obtain ⟨h1, h2, h3, h4, h5, h6, h7, h8, h9, h10, h11, h12, h13, h14⟩ := h
 unfold Rq.blank
 by_cases h183 : c = 83
 ·rw [if_pos h183, if_pos h183]
  exact ⟨by first | assumption | rfl, by first | assumption | rfl, by first | assumption | rfl, by first | assumption | rfl, by first | assumption | rfl, by first | assumption | rfl, by first | assumption | rfl, by first | assumption | rfl, by first | assumption | rfl, by first | assumption | rfl, by first | assumption | rfl, by first | assumption | rfl, by first | assumption | rfl, by first | assumption | rfl⟩
 rw [if_neg h183, if_neg h183]
 by_cases h166 : c = 66
 ·rw [if_pos h166, if_pos h166]
  exact ⟨by first | assumption | rfl, by first | assumption | rfl, by first | assumption | rfl, by first | assumption | rfl, by first | assumption | rfl, by first | assumption | rfl, by first | assumption | rfl, by first | assumption | rfl, by first | assumption | rfl, by first | assumption | rfl, by first | assumption | rfl, by first | assumption | rfl, by first | assumption | rfl, by first | assumption | rfl⟩
 rw [if_neg h166, if_neg h166]
 by_cases h179 : c = 79
 ·rw [if_pos h179, if_pos h179]
  exact ⟨by first | assumption | rfl, by first | assumption | rfl, by first | assumption | rfl, by first | assumption | rfl, by first | assumption | rfl, by first | assumption | rfl, by first | assumption | rfl, by first | assumption | rfl, by first | assumption | rfl, by first | assumption | rfl, by first | assumption | rfl, by first | assumption | rfl, by first | assumption | rfl, by first | assumption | rfl⟩
 rw [if_neg h179, if_neg h179]
 by_cases h186 : c = 86
 ·rw [if_pos h186, if_pos h186]
  exact ⟨by first | assumption | rfl, by first | assumption | rfl, by first | assumption | rfl, by first | assumption | rfl, by first | assumption | rfl, by first | assumption | rfl, by first | assumption | rfl, by first | assumption | rfl, by first | assumption | rfl, by first | assumption | rfl, by first | assumption | rfl, by first | assumption | rfl, by first | assumption | rfl, by first | assumption | rfl⟩
 rw [if_neg h186, if_neg h186]
 by_cases h180 : c = 80
 ·rw [if_pos h180, if_pos h180]
  exact ⟨by first | assumption | rfl, by first | assumption | rfl, by first | assumption | rfl, by first | assumption | rfl, by first | assumption | rfl, by first | assumption | rfl, by first | assumption | rfl, by first | assumption | rfl, by first | assumption | rfl, by first | assumption | rfl, by first | assumption | rfl, by first | assumption | rfl, by first | assumption | rfl, by first | assumption | rfl⟩
 rw [if_neg h180, if_neg h180]
 by_cases h168 : c = 68
 ·rw [if_pos h168, if_pos h168]
  exact ⟨by first | assumption | rfl, by first | assumption | rfl, by first | assumption | rfl, by first | assumption | rfl, by first | assumption | rfl, by first | assumption | rfl, by first | assumption | rfl, by first | assumption | rfl, by first | assumption | rfl, by first | assumption | rfl, by first | assumption | rfl, by first | assumption | rfl, by first | assumption | rfl, by first | assumption | rfl⟩
 rw [if_neg h168, if_neg h168]
 by_cases h167 : c = 67
 ·rw [if_pos h167, if_pos h167]
  exact ⟨by first | assumption | rfl, by first | assumption | rfl, by first | assumption | rfl, by first | assumption | rfl, by first | assumption | rfl, by first | assumption | rfl, by first | assumption | rfl, by first | assumption | rfl, by first | assumption | rfl, by first | assumption | rfl, by first | assumption | rfl, by first | assumption | rfl, by first | assumption | rfl, by first | assumption | rfl⟩
 rw [if_neg h167, if_neg h167]
 by_cases h173 : c = 73
 ·rw [if_pos h173, if_pos h173]
  exact ⟨by first | assumption | rfl, by first | assumption | rfl, by first | assumption | rfl, by first | assumption | rfl, by first | assumption | rfl, by first | assumption | rfl, by first | assumption | rfl, by first | assumption | rfl, by first | assumption | rfl, by first | assumption | rfl, by first | assumption | rfl, by first | assumption | rfl, by first | assumption | rfl, by first | assumption | rfl⟩
 rw [if_neg h173, if_neg h173]
 by_cases h178 : c = 78
 ·rw [if_pos h178, if_pos h178]
  exact ⟨by first | assumption | rfl, by first | assumption | rfl, by first | assumption | rfl, by first | assumption | rfl, by first | assumption | rfl, by first | assumption | rfl, by first | assumption | rfl, by first | assumption | rfl, by first | assumption | rfl, by first | assumption | rfl, by first | assumption | rfl, by first | assumption | rfl, by first | assumption | rfl, by first | assumption | rfl⟩
 rw [if_neg h178, if_neg h178]
 by_cases h176 : c = 76
 ·rw [if_pos h176, if_pos h176]
  exact ⟨by first | assumption | rfl, by first | assumption | rfl, by first | assumption | rfl, by first | assumption | rfl, by first | assumption | rfl, by first | assumption | rfl, by first | assumption | rfl, by first | assumption | rfl, by first | assumption | rfl, by first | assumption | rfl, by first | assumption | rfl, by first | assumption | rfl, by first | assumption | rfl, by first | assumption | rfl⟩
 rw [if_neg h176, if_neg h176]
 by_cases h188 : c = 88
 ·rw [if_pos h188, if_pos h188]
  exact ⟨by first | assumption | rfl, by first | assumption | rfl, by first | assumption | rfl, by first | assumption | rfl, by first | assumption | rfl, by first | assumption | rfl, by first | assumption | rfl, by first | assumption | rfl, by first | assumption | rfl, by first | assumption | rfl, by first | assumption | rfl, by first | assumption | rfl, by first | assumption | rfl, by first | assumption | rfl⟩
 rw [if_neg h188, if_neg h188]
 exact ⟨h1, h2, h3, h4, h5, h6, h7, h8, h9, h10, h11, h12, h13, h14⟩
theorem Rq.blanks_same (l : List UInt8) : ∀ (a b : Rq), Rq.same a b → Rq.same (a.blanks l) (b.blanks l) := by
 induction l with
 | nil => intro a b h; exact h
 | cons c l ih => intro a b h; exact ih _ _ (Rq.blank_same a b c.toNat h)
theorem cells14 {W : World} {g : Nat} {v0 v1 v2 v3 v4 v5 v6 v7 v8 v9 v10 v11 v12 v13 : Value} (h : W.heap[g]? = some (.cells #[v0, v1, v2, v3, v4, v5, v6, v7, v8, v9, v10, v11, v12, v13] 30 (0, 0))) :
  W.cell? ⟨g, 0, none⟩ = some v0 ∧ W.cell? ⟨g, 1, none⟩ = some v1 ∧ W.cell? ⟨g, 2, none⟩ = some v2 ∧ W.cell? ⟨g, 3, none⟩ = some v3 ∧ W.cell? ⟨g, 4, none⟩ = some v4 ∧ W.cell? ⟨g, 5, none⟩ = some v5 ∧ W.cell? ⟨g, 6, none⟩ = some v6 ∧ W.cell? ⟨g, 7, none⟩ = some v7 ∧ W.cell? ⟨g, 8, none⟩ = some v8 ∧ W.cell? ⟨g, 9, none⟩ = some v9 ∧ W.cell? ⟨g, 10, none⟩ = some v10 ∧ W.cell? ⟨g, 11, none⟩ = some v11 ∧ W.cell? ⟨g, 12, none⟩ = some v12 ∧ W.cell? ⟨g, 13, none⟩ = some v13 :=
 ⟨(blk_cell h 0).trans rfl, (blk_cell h 1).trans rfl, (blk_cell h 2).trans rfl, (blk_cell h 3).trans rfl, (blk_cell h 4).trans rfl, (blk_cell h 5).trans rfl, (blk_cell h 6).trans rfl, (blk_cell h 7).trans rfl, (blk_cell h 8).trans rfl, (blk_cell h 9).trans rfl, (blk_cell h 10).trans rfl, (blk_cell h 11).trans rfl, (blk_cell h 12).trans rfl, (blk_cell h 13).trans rfl⟩
def wire_Check.emp (q : Rq) : Option Bool := wire_empty.f q.kd q.ses q.bu q.ob q.ve q.pr q.de q.bo q.ck q.re q.im q.id q.n q.pa
theorem wire_Check.emp_same (a b : Rq) (h : Rq.same a b) : wire_Check.emp a = wire_Check.emp b := by
 obtain ⟨h1, h2, h3, h4, h5, h6, h7, h8, h9, h10, h11, h12, h13, h14⟩ := h
 unfold wire_Check.emp
 rw [h1, h2, h3, h4, h5, h6, h7, h8, h9, h10, h11, h12, h13, h14]
def wire_Check.g (k : Nat) (s : ByteArray) (q : Rq) : Option Int :=
 (wire_fits.f k q.kd q.ses q.bu q.ob q.ve q.pr q.de q.bo q.ck q.re q.im q.id q.n q.pa).bind fun b => if b = true then (wire_Check.emp (q.blanks s.data.toList)).bind fun e => some (if e = true then 0 else 4) else some 4
def wire_Check.f (k : Nat) (a0_0 : Int) (a0_1 : Int) (a0_2 : ByteArray) (a0_3 : ByteArray) (a0_4 : ByteArray) (a0_5 : ByteArray) (a0_6 : ByteArray) (a0_7 : ByteArray) (a0_8 : Int) (a0_9 : Int) (a0_10 : Int) (a0_11 : Int) (a0_12 : Int) (l0_13 : List Int) : Option Int :=
 (wire_Fields.f k a0_0).bind fun s => if okLetters s = true then wire_Check.g k s ⟨a0_0, a0_1, a0_2, a0_3, a0_4, a0_5, a0_6, a0_7, a0_8, a0_9, a0_10, a0_11, a0_12, .slice none 0 0, l0_13⟩ else none
def wire_Check.Loop (w W : World) (g : Nat) (q ql : Rq) (s : ByteArray) (pos : Nat) : Prop := Below w.heap.size w W ∧ W.heap[g]? = some (.cells q.cells 30 (0, 0)) ∧ W.heap[g + 1]? = some (.cells ql.cells 30 (0, 0)) ∧ W.heap[g + 2]? = some (.stringIter s pos)
set_option maxHeartbeats 4000000 in
set_option maxRecDepth 100000 in
theorem wire_Check.walk (q : Rq) (w : World) (hp : ∃ A c, q.pv = .slice A q.pa.length c ∧ Kd.C (Kd.int .i64) w A q.pa.length q.pa ∧ q.pa.length ≤ c) (k : Nat) (s : ByteArray) (hs : wire_Fields.f k q.kd = some s) (hok : okLetters s = true) (b : Bool) (e : Bool)
  (hb : wire_fits.f k q.kd q.ses q.bu q.ob q.ve q.pr q.de q.bo q.ck q.re q.im q.id q.n q.pa = some b) (he : b = true → wire_Check.emp (q.blanks s.data.toList) = some e) :
  Calls Try.prog 12 #[.agg q.cells] w fun e' w' => e' = .returned (.int .i64 (if b = true then (if e = true then 0 else 4) else 4)) ∧ Below w.heap.size w w' := by
 have HS := Aside0.mk hs
 have HOK := Aside0.mk hok
 have HF := Aside0.mk hb
 have HE := Aside0.mk he
 have HP := Aside0.mk (Rq.blanks_pv s.data.toList q w hp)
 have HPQ := Aside0.mk hp
 clear hs hok hb he hp
 obtain ⟨q0, hq0⟩ : ∃ q0, q0 = q := ⟨_, rfl⟩
 have HQ := Aside0.mk hq0
 clear hq0
 obtain ⟨kd, ses, bu, ob, ve, pr, de, bo, ck, re, im, id, n, pv, pa⟩ := q
 have hcs : q0.cells = #[.int .i64 kd, .int .i64 ses, .string bu, .string ob, .string ve, .string pr, .string de, .string bo, .int .i64 ck, .int .i64 re, .int .i64 im, .int .i64 id, .int .i64 n, pv] := by rw [HQ.out]; rfl
 have HC := Aside0.mk hcs
 clear hcs
 obtain ⟨A, c, hpv, hCC, hCL⟩ := HPQ.out
 have hpv : pv = .slice A pa.length c := hpv
 have HCC := Aside0.mk (show Kd.C (Kd.int .i64) w A pa.length pa from hCC)
 have HCL := Aside0.mk (show pa.length ≤ c from hCL)
 clear hCC hCL HPQ
 subst hpv
 dsimp only [Rq.cells]
 go_enter Try.func12, Try.ntmps12
 go_wp2_with fail
 refine (wire_Fields.calls k kd s _ HS.out).mono ?_
 rintro e' w' ⟨rfl, ⟨nd, rfl⟩⟩
 go_wp2
 go_loopg [5] s.size (fun gg _ wr => ∃ pos : Nat, pos ≤ s.size ∧ s.size - pos ≤ gg ∧ wire_Check.Loop w wr w.heap.size q0 (q0.blanks (s.data.toList.take pos)) s pos)
 case atStart =>
  refine ⟨0, Nat.zero_le _, by omega, ?_, ?_, ?_, ?_⟩
  ·repeat (first | exact Below.refl _ _ | refine below_alloc ?_ _ | apply pw_below_drewN)
  ·rw [HC.out]
   exact blk_alloc (blk_drewN (blk_alloc (blk_new w _) _) nd) _
  ·rw [show q0.blanks (s.data.toList.take 0) = q0 from rfl, HC.out]
   have h := blk_new (w.alloc (.cells #[.int .i64 kd, .int .i64 ses, .string bu, .string ob, .string ve, .string pr, .string de, .string bo, .int .i64 ck, .int .i64 re, .int .i64 im, .int .i64 id, .int .i64 n, .slice A pa.length c] 30)) (.cells #[.int .i64 kd, .int .i64 ses, .string bu, .string ob, .string ve, .string pr, .string de, .string bo, .int .i64 ck, .int .i64 re, .int .i64 im, .int .i64 id, .int .i64 n, .slice A pa.length c] 30)
   rw [World.size_alloc] at h
   exact blk_alloc (blk_drewN h nd) _
  ·have h := blk_new (((w.alloc (.cells #[.int .i64 kd, .int .i64 ses, .string bu, .string ob, .string ve, .string pr, .string de, .string bo, .int .i64 ck, .int .i64 re, .int .i64 im, .int .i64 id, .int .i64 n, .slice A pa.length c] 30)).alloc (.cells #[.int .i64 kd, .int .i64 ses, .string bu, .string ob, .string ve, .string pr, .string de, .string bo, .int .i64 ck, .int .i64 re, .int .i64 im, .int .i64 id, .int .i64 n, .slice A pa.length c] 30)).drewN nd) (.stringIter s 0)
   have e : (((w.alloc (.cells #[.int .i64 kd, .int .i64 ses, .string bu, .string ob, .string ve, .string pr, .string de, .string bo, .int .i64 ck, .int .i64 re, .int .i64 im, .int .i64 id, .int .i64 n, .slice A pa.length c] 30)).alloc (.cells #[.int .i64 kd, .int .i64 ses, .string bu, .string ob, .string ve, .string pr, .string de, .string bo, .int .i64 ck, .int .i64 re, .int .i64 im, .int .i64 id, .int .i64 n, .slice A pa.length c] 30)).drewN nd).heap.size = w.heap.size + 2 := by simp
   rw [e] at h
   exact h
 case round =>
  obtain ⟨pos, hpos, hg, hB, hG, hGL, hI⟩ := hrel
  have HB := Aside0.mk hB
  have HG := Aside0.mk hG
  have HGL := Aside0.mk hGL
  have HI := Aside0.mk hI
  by_cases hlt : pos < s.size
  ·have hl := ok_at s HOK.out pos hlt
   have hsn := blanks_snoc q0 s pos hlt
   have HSN := Aside0.mk hsn
   have hnx : ∀ ty, (Instr.next (.pointer (some ⟨w.heap.size + 2, 0, none⟩)) true ty).run Try.prog _ = _ := fun ty => Lib.run_next_ascii_at _ (w.heap.size + 2) s pos ty hI hlt hl.2
   have HL := Aside0.mk hl.1
   clear hsn hl hB hG hGL hI
   go_wp2_with fail
   refine (blank_any _ _ _ _ HL.out ((Lib.iterAt_other _ _ _ _ _ (by omega)).trans HGL.out)).mono ?_
   rintro e' w' ⟨rfl, hGL2, hgr⟩
   have HGL2 := Aside0.mk hGL2
   have HGR := Aside0.mk hgr
   clear hGL2 hgr
   go_wp2
   go_roundg (s.size - (pos + 1))
   case measure => omega
   case rel =>
    refine ⟨pos + 1, by omega, by omega, ?_, ?_, ?_, ?_⟩
    ·exact (Lib.below_iterAt HB.out (by omega) s (pos + 1)).grown HGR.out (by rw [Lib.iterAt_size]; exact HB.out.size) (fun k hk => by injection hk with hk; omega)
    ·exact blk_grown ((Lib.iterAt_other _ _ _ _ _ (by omega)).trans HG.out) HGR.out (by simp)
    ·rw [HSN.out]; exact HGL2.out
    ·exact blk_grown (Lib.iterAt_heap _ _ _ _ _ HI.out) HGR.out (by simp)
  ·have : pos = s.size := by omega
   subst this
   have hnx : ∀ ty, (Instr.next (.pointer (some ⟨w.heap.size + 2, 0, none⟩)) true ty).run Try.prog _ = _ := fun ty => Lib.run_next_end_at _ (w.heap.size + 2) s s.size ty hI hlt
   have htk : s.data.toList.take s.size = s.data.toList := List.take_of_length_le (by simp)
   rw [htk] at HGL
   clear hB hG hGL hI htk hpos hg hlt
   obtain ⟨ql, hql⟩ : ∃ ql, q0.blanks s.data.toList = ql := ⟨_, rfl⟩
   rw [hql] at HGL
   have HQL := Aside0.mk hql
   clear hql
   rw [HC.out] at HG
   obtain ⟨g0, g1, g2, g3, g4, g5, g6, g7, g8, g9, g10, g11, g12, g13⟩ := cells14 HG.out
   rw [← HQ.out, HQL.out] at HP HE
   go_wp2_with fail
   refine (wire_fits.calls k kd ses bu ob ve pr de bo ck re im id n A c pa b _ (Kd.C_below HCC.out HB.out) HCL.out HF.out).mono ?_
   rintro e' w' ⟨rfl, hb2⟩
   have HB2 := Aside0.mk (below_step HB.out hb2)
   have HGL2 := Aside0.mk (blk_below HGL.out hb2)
   clear hb2 HB HG HGL HI hnx g0 g1 g2 g3 g4 g5 g6 g7 g8 g9 g10 g11 g12 g13
   cases b with
   | false =>
    go_wp2
    go_ret
    exact ⟨rfl, HB2.out⟩
   | true =>
    obtain ⟨A', c', hpv', hC', hc'⟩ := HP.out
    have HC' := Aside0.mk hC'
    have HCL' := Aside0.mk hc'
    have HE2 := Aside0.mk (HE.out rfl)
    clear HP HE hC' hc' HQL
    obtain ⟨kd', ses', bu', ob', ve', pr', de', bo', ck', re', im', id', n', pv', pa'⟩ := ql
    have hpv' : pv' = .slice A' pa'.length c' := hpv'
    subst hpv'
    dsimp only [Rq.cells] at HGL2 HC' HCL'
    have HE2 : Aside0 (wire_empty.f kd' ses' bu' ob' ve' pr' de' bo' ck' re' im' id' n' pa' = some e) := ⟨HE2.out⟩
    obtain ⟨g0, g1, g2, g3, g4, g5, g6, g7, g8, g9, g10, g11, g12, g13⟩ := cells14 HGL2.out
    go_wp2_with fail
    refine (wire_empty.calls kd' ses' bu' ob' ve' pr' de' bo' ck' re' im' id' n' A' c' pa' e _ (Kd.C_below HC'.out HB2.out) HCL'.out HE2.out).mono ?_
    rintro e' w' ⟨rfl, hb3⟩
    have HB3 := Aside0.mk (below_step HB2.out hb3)
    clear hb3 HB2 HGL2 g0 g1 g2 g3 g4 g5 g6 g7 g8 g9 g10 g11 g12 g13
    cases e with
    | false =>
     go_wp2
     go_ret
     exact ⟨rfl, HB3.out⟩
    | true =>
     go_wp2
     go_ret
     exact ⟨rfl, HB3.out⟩
set_option maxRecDepth 100000 in
theorem wire_Check.calls (k : Nat) (a0_0 : Int) (a0_1 : Int) (a0_2 : ByteArray) (a0_3 : ByteArray) (a0_4 : ByteArray) (a0_5 : ByteArray) (a0_6 : ByteArray) (a0_7 : ByteArray) (a0_8 : Int) (a0_9 : Int) (a0_10 : Int) (a0_11 : Int) (a0_12 : Int) (A0_13 : Option Addr) (c0_13 : Nat) (l0_13 : List Int) (r : Int) (w : World) (hr0_13 : Kd.C (Kd.int .i64) w A0_13 l0_13.length l0_13) (hc0_13 : l0_13.length ≤ c0_13) (h : wire_Check.f k a0_0 a0_1 a0_2 a0_3 a0_4 a0_5 a0_6 a0_7 a0_8 a0_9 a0_10 a0_11 a0_12 l0_13 = some r) :
  Calls Try.prog 12 #[.agg #[.int .i64 a0_0, .int .i64 a0_1, .string a0_2, .string a0_3, .string a0_4, .string a0_5, .string a0_6, .string a0_7, .int .i64 a0_8, .int .i64 a0_9, .int .i64 a0_10, .int .i64 a0_11, .int .i64 a0_12, .slice A0_13 l0_13.length c0_13]] w fun e w' => e = .returned (.int .i64 r) ∧ Below w.heap.size w w' := by
 unfold wire_Check.f at h
 obtain ⟨s, hs, h⟩ := Option.bind_eq_some_iff.mp h
 by_cases hok : okLetters s = true
 ·rw [if_pos hok] at h
  unfold wire_Check.g at h
  obtain ⟨b, hb, h⟩ := Option.bind_eq_some_iff.mp h
  have hsm := wire_Check.emp_same _ _ (Rq.blanks_same s.data.toList ⟨a0_0, a0_1, a0_2, a0_3, a0_4, a0_5, a0_6, a0_7, a0_8, a0_9, a0_10, a0_11, a0_12, .slice A0_13 l0_13.length c0_13, l0_13⟩ ⟨a0_0, a0_1, a0_2, a0_3, a0_4, a0_5, a0_6, a0_7, a0_8, a0_9, a0_10, a0_11, a0_12, .slice none 0 0, l0_13⟩ ⟨rfl, rfl, rfl, rfl, rfl, rfl, rfl, rfl, rfl, rfl, rfl, rfl, rfl, rfl⟩)
  obtain ⟨e, he, hr⟩ : ∃ e : Bool, (b = true → wire_Check.emp (Rq.blanks ⟨a0_0, a0_1, a0_2, a0_3, a0_4, a0_5, a0_6, a0_7, a0_8, a0_9, a0_10, a0_11, a0_12, .slice A0_13 l0_13.length c0_13, l0_13⟩ s.data.toList) = some e) ∧ (if b = true then (if e = true then (0 : Int) else 4) else 4) = r := by
   rw [hsm]
   clear hsm hb
   cases b with
   | false =>
    rw [if_neg (by decide)] at h
    exact ⟨true, (fun h => by cases h), Option.some.inj h⟩
   | true =>
    rw [if_pos rfl] at h
    obtain ⟨e, he, h⟩ := Option.bind_eq_some_iff.mp h
    exact ⟨e, fun _ => he, Option.some.inj h⟩
  rw [← hr]
  exact wire_Check.walk ⟨a0_0, a0_1, a0_2, a0_3, a0_4, a0_5, a0_6, a0_7, a0_8, a0_9, a0_10, a0_11, a0_12, .slice A0_13 l0_13.length c0_13, l0_13⟩ w ⟨A0_13, c0_13, rfl, hr0_13, hc0_13⟩ k s hs hok b e hb he
 ·rw [if_neg hok] at h
  cases h
def field_put_uint8.l0 : Nat → List Int → Int → Int → Option (List Int)
 | 0, _, _, _ => none
 | k + 1, x0, x1, x7 => if x7 ≥ 0 then (if 0 ≤ (wrap64 (8 * x7)) then (if x0.length < 140737488355328 then (field_put_uint8.l0 k (x0 ++ [(shr .u64 (IntKind.u64.wrap (x1)) (wrap64 (8 * x7))) % 256]) x1 (wrap64 (x7 - 1))) else (none)) else (none)) else (some x0)
def field_put_uint8.f (k : Nat) (l0 : List Int) (a1 : Int) (a2 : Int) : Option (List Int) := field_put_uint8.l0 k l0 a1 (wrap64 (a2 - 1))
set_option maxHeartbeats 8000000 in
set_option maxRecDepth 100000 in
theorem field_put_uint8.calls (k : Nat) (P0_ : Nat → Prop) (u9000_ : Value) (l0 : List Int) (a1 : Int) (a2 : Int) (r : List Int) (w0 w : World) (hB : Below w0.heap.size w0 w) (ho0 : Kd.R (Kd.int .u8) 5 w w0.heap.size P0_ u9000_ l0) (h : field_put_uint8.f k l0 a1 a2 = some r) :
  Calls Try.prog 64 #[u9000_, .int .u8 a1, .int .i64 a2] w fun e w' => ∃ v0_ : Value, e = .returned (v0_) ∧ Kd.R (Kd.int .u8) 5 w' w0.heap.size (fun k_ => (P0_ k_ ∨ w.heap.size ≤ k_)) v0_ r ∧ Below w0.heap.size w0 w' ∧ Kept w w' (fun k_ => P0_ k_) := by
 have HO0 := Aside0.mk (show Kd.R (Kd.int .u8) 5 w w0.heap.size (fun k_ => (P0_ k_ ∨ w.heap.size ≤ k_)) u9000_ l0 from Kd.R_mono ho0 (fun k_ hk => (.inl hk)))
 have HK := Aside0.mk (Kept.refl w (fun k_ => P0_ k_))
 have HW0 := Aside0.mk hB.size
 have HB := Aside0.mk hB
 clear hB
 have H : (field_put_uint8.l0 k l0 a1 (wrap64 (a2 - 1))) = some r := h
 clear h
 have H' := Aside0.mk H
 clear H
 go_enter Try.func64, Try.ntmps64
 go_wp2
 go_loopg [0, 7] k (fun kq v0 v7 w' => ∃ (x0_1 : List Int) (x7_1 : Int), v7 = .int .i64 x7_1 ∧ Aside0 (field_put_uint8.l0 kq x0_1 a1 x7_1 = some r) ∧ Aside0 (kq ≤ k) ∧ Aside0 (Kd.R (Kd.int .u8) 5 w' w0.heap.size (fun k_ => (P0_ k_ ∨ w.heap.size ≤ k_)) v0 x0_1) ∧ Aside0 (Kept w w' (fun k_ => P0_ k_)) ∧ Aside0 (Below w0.heap.size w0 w'))
 case atStart => exact ⟨(l0), (wrap64 (a2 - 1)), qi, H', ⟨Nat.le_refl _⟩, ⟨by (with_reducible repeat (first | apply Kd.R_alloc | apply Kd.R_drewN | apply Kd.R_drew)); exact HO0.out⟩, ⟨by repeat (first | (with_reducible first | exact HK.out | apply Kept.alloc | apply Kept.drewN | apply Kept.drew) | exact HK.out)⟩, ⟨by repeat (first | (with_reducible first | exact HB.out | apply below_alloc | apply pw_below_drewN | apply below_drew1) | exact HB.out)⟩⟩
 case round =>
  clear H'
  try clear p2
  obtain ⟨x0_1, x7_1, rfl, HA, HK1, HO_0, HK, HB⟩ := hrel
  cases gk with
  | zero => exact absurd HA.out (by simp [field_put_uint8.l0])
  | succ k1 =>
   have H := HA.out
   clear HA
   simp only [field_put_uint8.l0] at H
   by_cases c4 : x7_1 ≥ 0
   ·rw [if_pos c4] at H
    have c4b0 : decide (0 ≤ x7_1) = true := decide_eq_true c4
    clear c4
    obtain ⟨ji5, hji5⟩ : ∃ j_ : Int, (wrap64 (8 * x7_1)) = j_ := ⟨_, rfl⟩
    replace H : (if 0 ≤ (ji5) then (if x0_1.length < 140737488355328 then (field_put_uint8.l0 k1 (x0_1 ++ [(shr .u64 (IntKind.u64.wrap (a1)) (ji5)) % 256]) a1 (wrap64 (x7_1 - 1))) else (none)) else (none)) = some r := by first | (rw [hji5] at H; exact H) | (simp only [hji5] at H ⊢; exact H)
    have hji5w : (IntKind.i64.wrap (8 * x7_1)) = ji5 := (i64_w _).trans hji5
    by_cases c6 : 0 ≤ (ji5)
    ·rw [if_pos c6] at H
     have c6b0 := eq_true c6
     have c6b1 : decide (0 ≤ (ji5)) = true := decide_eq_true c6
     clear c6
     obtain ⟨ji7, hji7⟩ : ∃ j_ : Int, (shr .u64 (IntKind.u64.wrap (a1)) (ji5)) = j_ := ⟨_, rfl⟩
     replace H : (if x0_1.length < 140737488355328 then (field_put_uint8.l0 k1 (x0_1 ++ [(ji7) % 256]) a1 (wrap64 (x7_1 - 1))) else (none)) = some r := by first | (rw [hji7] at H; exact H) | (simp only [hji7] at H ⊢; exact H)
     have hji7_ : ((IntKind.u64.wrap (a1)) / 2 ^ min (ji5).toNat 64) = ji7 := hji7
     have hji7z : (ji5) ≤ 64 → ((IntKind.u64.wrap (a1)) / 2 ^ (ji5).toNat) = ji7 := shr_small hji7
     by_cases c8 : x0_1.length < 140737488355328
     ·rw [if_pos c8] at H
      have LMc8 := Aside0.mk c8
      clear c8
      obtain ⟨y113, hy113⟩ : ∃ y_ : List Int, y_ = (x0_1 ++ [(ji7) % 256]) := ⟨_, rfl⟩
      replace H : (field_put_uint8.l0 k1 y113 a1 (wrap64 (x7_1 - 1))) = some r := by first | (rw [hy113]; with_reducible exact H) | (have H2_ := (Option.bind_some _ _).symm.trans H; rw [hy113]; with_reducible exact H2_) | (have H2_ := (Option.bind_some _ _).symm.trans H; with_reducible exact H2_) | with_reducible exact H | (rw [hy113]; exact H) | exact H
      have Ny113 := Aside0.mk hy113
      clear hy113
      have H' := Aside0.mk H
      clear H
      go_wp2_with (first | ((with_reducible refine gate_builtin (b := .append) (xs := #[.tmp 14, .tmp 21]) rfl ?_); at_builtin; refine Kd.R_append (Kd.int .u8) (w0 := w0) w0.heap.size rfl (.tmp 14) (.tmp 21) 31 5 (.int .u8 0) 1 rfl Try.underlying31 info5 rfl (by decide) (by omega) u0 x0_1 ((ji7) % 256) [.int .u8 ((ji7) % 256)] (fun k_ => (P0_ k_ ∨ w.heap.size ≤ k_)) (fun _ => False) rfl rfl ?aP (fun _ hk => hk.elim) ?aF ?aO ?aB ?aS ?aL ?_; (case aP => exact rfl); (case aB => exact qa); (case aF => exact (fun k_ hk => (.inr (Nat.le_trans qe hk)))); (case aO => exact qu); (case aS => exact (below_size qa)); (case aL => have := LMc8.out; omega); intro v114 w9 ho hb hg hat; rw [← Ny113.out] at ho; have n0_ := Aside0.mk (hb); have n1_ := Aside0.mk (Kept.of_grown (S := (fun k_ => P0_ k_)) hg qh (fun k_ e_ => (HO_0.out.1 k_ e_))); have n2_ := Aside0.mk (ho); clear HB; clear HK; clear HO_0; have HB := n0_; have HK := n1_; have HO115 := n2_; clear n0_ n1_ n2_; clear ho hb hg hat))
      go_roundg k1
      case measure => have := HK1.out; omega
      case rel => exact ⟨(y113), (wrap64 (x7_1 - 1)), qi, H', ⟨by have := HK1.out; omega⟩, ⟨by (with_reducible repeat (first | apply Kd.R_alloc | apply Kd.R_drewN | apply Kd.R_drew)); exact HO115.out⟩, ⟨by repeat (first | (with_reducible first | exact HK.out | apply Kept.alloc | apply Kept.drewN | apply Kept.drew) | exact HK.out)⟩, ⟨by repeat (first | (with_reducible first | exact HB.out | apply below_alloc | apply pw_below_drewN | apply below_drew1) | exact HB.out)⟩⟩
     ·rw [if_neg c8] at H
      exact absurd H (by simp)
    ·rw [if_neg c6] at H
     exact absurd H (by simp)
   ·rw [if_neg c4] at H
    have c4b0 : decide (0 ≤ x7_1) = false := decide_eq_false c4
    clear c4
    obtain rfl := Option.some.inj H
    go_wp2
    go_ret
    exact ⟨_, by first | rfl | (simp [errW_none, errW_some] <;> rfl) | (simp [*, errW_none, errW_some] <;> rfl), by (with_reducible repeat (first | apply Kd.R_alloc | apply Kd.R_drewN | apply Kd.R_drew)); exact HO_0.out, by repeat (first | (with_reducible first | exact HB.out | apply below_alloc | apply pw_below_drewN | apply below_drew1) | exact HB.out), by repeat (first | (with_reducible first | exact HK.out | apply Kept.alloc | apply Kept.drewN | apply Kept.drew) | exact HK.out)⟩
def field_Put8.f (k : Nat) (l0 : List Int) (a1 : Int) : Option (List Int) := (field_put_uint8.f k l0 ((a1) % 256) 1).bind fun t116 => (some t116)
set_option maxHeartbeats 8000000 in
set_option maxRecDepth 100000 in
theorem field_Put8.calls (k : Nat) (P0_ : Nat → Prop) (u9000_ : Value) (l0 : List Int) (a1 : Int) (r : List Int) (w0 w : World) (hB : Below w0.heap.size w0 w) (ho0 : Kd.R (Kd.int .u8) 5 w w0.heap.size P0_ u9000_ l0) (h : field_Put8.f k l0 a1 = some r) :
  Calls Try.prog 23 #[u9000_, .int .i64 a1] w fun e w' => ∃ v0_ : Value, e = .returned (v0_) ∧ Kd.R (Kd.int .u8) 5 w' w0.heap.size (fun k_ => (P0_ k_ ∨ w.heap.size ≤ k_)) v0_ r ∧ Below w0.heap.size w0 w' ∧ Kept w w' (fun k_ => P0_ k_) := by
 have HO0 := Aside0.mk (show Kd.R (Kd.int .u8) 5 w w0.heap.size (fun k_ => (P0_ k_ ∨ w.heap.size ≤ k_)) u9000_ l0 from Kd.R_mono ho0 (fun k_ hk => (.inl hk)))
 have HK := Aside0.mk (Kept.refl w (fun k_ => P0_ k_))
 have HW0 := Aside0.mk hB.size
 have HB := Aside0.mk hB
 clear hB
 have H : ((field_put_uint8.f k l0 ((a1) % 256) 1).bind fun t116 => (some t116)) = some r := h
 clear h
 replace H := Option.bind_eq_some_iff.mp H
 obtain ⟨t116, A30, H⟩ := H
 replace H : (some t116) = some r := H
 have A3 := Aside0.mk A30
 clear A30
 obtain rfl := Option.some.inj H
 obtain ⟨Ao4, co4, eo4⟩ := Kd.R_slice HO0.out
 subst eo4
 go_enter Try.func23, Try.ntmps23
 go_wp2_with (first | ((with_reducible refine gate_callee (f := 64) rfl ?_); refine goesL_ (some 8) rfl rfl Try.func64 (by kernel_rfl) rfl #[.slice Ao4 l0.length co4, .int .u8 ((a1) % 256), .int .i64 1] rfl qb ?_; (with_reducible refine (field_put_uint8.calls k (fun k_ => some k_ = (.slice Ao4 l0.length co4 : Value).ownBlock) (.slice Ao4 l0.length co4) l0 ((a1) % 256) 1 t116 w0 _ ?side1 ?side2 A3.out).mono ?_); (case side1 => repeat (first | (with_reducible first | exact HB.out | apply below_alloc | apply pw_below_drewN | apply below_drew1) | exact HB.out)); (case side2 => exact Kd.R_tight rfl HO0.out); rintro e w5 ⟨v117, rfl, ho0, hb, hkp⟩; refine ⟨_, rfl, ?_⟩; have n0_ := Aside0.mk (Kd.R_mono (ok' := fun k_ => (P0_ k_ ∨ w.heap.size ≤ k_)) ho0 (fun k_ hk_ => Or.elim hk_ (fun hs_ => (HO0.out.1 k_ (hs_).symm)) (fun hn_ => (.inr (Nat.le_trans qe hn_))))); have n1_ := Aside0.mk (Kept.then_ (S := (fun k_ => P0_ k_)) qh hkp (fun k_ hs_ => (fun e_ => (HO0.out.1 k_ e_.symm)) hs_)); have n2_ := Aside0.mk (hb); clear HK; clear HB; clear HO0; have HO118 := n0_; have HK := n1_; have HB := n2_; clear n0_ n1_ n2_; (try clear hb); (try clear hkp); (try clear ho0)))
 go_ret
 exact ⟨_, by first | rfl | (simp [errW_none, errW_some] <;> rfl) | (simp [*, errW_none, errW_some] <;> rfl), by (with_reducible repeat (first | apply Kd.R_alloc | apply Kd.R_drewN | apply Kd.R_drew)); exact HO118.out, by repeat (first | (with_reducible first | exact HB.out | apply below_alloc | apply pw_below_drewN | apply below_drew1) | exact HB.out), by repeat (first | (with_reducible first | exact HK.out | apply Kept.alloc | apply Kept.drewN | apply Kept.drew) | exact HK.out)⟩
def field_put_uint32.l0 : Nat → List Int → Int → Int → Option (List Int)
 | 0, _, _, _ => none
 | k + 1, x0, x1, x7 => if x7 ≥ 0 then (if 0 ≤ (wrap64 (8 * x7)) then (if x0.length < 140737488355328 then (field_put_uint32.l0 k (x0 ++ [(shr .u64 (IntKind.u64.wrap (x1)) (wrap64 (8 * x7))) % 256]) x1 (wrap64 (x7 - 1))) else (none)) else (none)) else (some x0)
def field_put_uint32.f (k : Nat) (l0 : List Int) (a1 : Int) (a2 : Int) : Option (List Int) := field_put_uint32.l0 k l0 a1 (wrap64 (a2 - 1))
set_option maxHeartbeats 8000000 in
set_option maxRecDepth 100000 in
theorem field_put_uint32.calls (k : Nat) (P0_ : Nat → Prop) (u9000_ : Value) (l0 : List Int) (a1 : Int) (a2 : Int) (r : List Int) (w0 w : World) (hB : Below w0.heap.size w0 w) (ho0 : Kd.R (Kd.int .u8) 5 w w0.heap.size P0_ u9000_ l0) (h : field_put_uint32.f k l0 a1 a2 = some r) :
  Calls Try.prog 113 #[u9000_, .int .u32 a1, .int .i64 a2] w fun e w' => ∃ v0_ : Value, e = .returned (v0_) ∧ Kd.R (Kd.int .u8) 5 w' w0.heap.size (fun k_ => (P0_ k_ ∨ w.heap.size ≤ k_)) v0_ r ∧ Below w0.heap.size w0 w' ∧ Kept w w' (fun k_ => P0_ k_) := by
 have HO0 := Aside0.mk (show Kd.R (Kd.int .u8) 5 w w0.heap.size (fun k_ => (P0_ k_ ∨ w.heap.size ≤ k_)) u9000_ l0 from Kd.R_mono ho0 (fun k_ hk => (.inl hk)))
 have HK := Aside0.mk (Kept.refl w (fun k_ => P0_ k_))
 have HW0 := Aside0.mk hB.size
 have HB := Aside0.mk hB
 clear hB
 have H : (field_put_uint32.l0 k l0 a1 (wrap64 (a2 - 1))) = some r := h
 clear h
 have H' := Aside0.mk H
 clear H
 go_enter Try.func113, Try.ntmps113
 go_wp2
 go_loopg [0, 7] k (fun kq v0 v7 w' => ∃ (x0_1 : List Int) (x7_1 : Int), v7 = .int .i64 x7_1 ∧ Aside0 (field_put_uint32.l0 kq x0_1 a1 x7_1 = some r) ∧ Aside0 (kq ≤ k) ∧ Aside0 (Kd.R (Kd.int .u8) 5 w' w0.heap.size (fun k_ => (P0_ k_ ∨ w.heap.size ≤ k_)) v0 x0_1) ∧ Aside0 (Kept w w' (fun k_ => P0_ k_)) ∧ Aside0 (Below w0.heap.size w0 w'))
 case atStart => exact ⟨(l0), (wrap64 (a2 - 1)), qi, H', ⟨Nat.le_refl _⟩, ⟨by (with_reducible repeat (first | apply Kd.R_alloc | apply Kd.R_drewN | apply Kd.R_drew)); exact HO0.out⟩, ⟨by repeat (first | (with_reducible first | exact HK.out | apply Kept.alloc | apply Kept.drewN | apply Kept.drew) | exact HK.out)⟩, ⟨by repeat (first | (with_reducible first | exact HB.out | apply below_alloc | apply pw_below_drewN | apply below_drew1) | exact HB.out)⟩⟩
 case round =>
  clear H'
  try clear c1
  try clear p2
  obtain ⟨x0_1, x7_1, rfl, HA, HK1, HO_0, HK, HB⟩ := hrel
  cases gk with
  | zero => exact absurd HA.out (by simp [field_put_uint32.l0])
  | succ k1 =>
   have H := HA.out
   clear HA
   simp only [field_put_uint32.l0] at H
   by_cases c4 : x7_1 ≥ 0
   ·rw [if_pos c4] at H
    have c4b0 : decide (0 ≤ x7_1) = true := decide_eq_true c4
    clear c4
    obtain ⟨ji5, hji5⟩ : ∃ j_ : Int, (wrap64 (8 * x7_1)) = j_ := ⟨_, rfl⟩
    replace H : (if 0 ≤ (ji5) then (if x0_1.length < 140737488355328 then (field_put_uint32.l0 k1 (x0_1 ++ [(shr .u64 (IntKind.u64.wrap (a1)) (ji5)) % 256]) a1 (wrap64 (x7_1 - 1))) else (none)) else (none)) = some r := by first | (rw [hji5] at H; exact H) | (simp only [hji5] at H ⊢; exact H)
    have hji5w : (IntKind.i64.wrap (8 * x7_1)) = ji5 := (i64_w _).trans hji5
    by_cases c6 : 0 ≤ (ji5)
    ·rw [if_pos c6] at H
     have c6b0 := eq_true c6
     have c6b1 : decide (0 ≤ (ji5)) = true := decide_eq_true c6
     clear c6
     obtain ⟨ji7, hji7⟩ : ∃ j_ : Int, (shr .u64 (IntKind.u64.wrap (a1)) (ji5)) = j_ := ⟨_, rfl⟩
     replace H : (if x0_1.length < 140737488355328 then (field_put_uint32.l0 k1 (x0_1 ++ [(ji7) % 256]) a1 (wrap64 (x7_1 - 1))) else (none)) = some r := by first | (rw [hji7] at H; exact H) | (simp only [hji7] at H ⊢; exact H)
     have hji7_ : ((IntKind.u64.wrap (a1)) / 2 ^ min (ji5).toNat 64) = ji7 := hji7
     have hji7z : (ji5) ≤ 64 → ((IntKind.u64.wrap (a1)) / 2 ^ (ji5).toNat) = ji7 := shr_small hji7
     by_cases c8 : x0_1.length < 140737488355328
     ·rw [if_pos c8] at H
      have LMc8 := Aside0.mk c8
      clear c8
      obtain ⟨y119, hy119⟩ : ∃ y_ : List Int, y_ = (x0_1 ++ [(ji7) % 256]) := ⟨_, rfl⟩
      replace H : (field_put_uint32.l0 k1 y119 a1 (wrap64 (x7_1 - 1))) = some r := by first | (rw [hy119]; with_reducible exact H) | (have H2_ := (Option.bind_some _ _).symm.trans H; rw [hy119]; with_reducible exact H2_) | (have H2_ := (Option.bind_some _ _).symm.trans H; with_reducible exact H2_) | with_reducible exact H | (rw [hy119]; exact H) | exact H
      have Ny119 := Aside0.mk hy119
      clear hy119
      have H' := Aside0.mk H
      clear H
      go_wp2_with (first | ((with_reducible refine gate_builtin (b := .append) (xs := #[.tmp 14, .tmp 21]) rfl ?_); at_builtin; refine Kd.R_append (Kd.int .u8) (w0 := w0) w0.heap.size rfl (.tmp 14) (.tmp 21) 31 5 (.int .u8 0) 1 rfl Try.underlying31 info5 rfl (by decide) (by omega) u0 x0_1 ((ji7) % 256) [.int .u8 ((ji7) % 256)] (fun k_ => (P0_ k_ ∨ w.heap.size ≤ k_)) (fun _ => False) rfl rfl ?aP (fun _ hk => hk.elim) ?aF ?aO ?aB ?aS ?aL ?_; (case aP => exact rfl); (case aB => exact qa); (case aF => exact (fun k_ hk => (.inr (Nat.le_trans qe hk)))); (case aO => exact qu); (case aS => exact (below_size qa)); (case aL => have := LMc8.out; omega); intro v120 w9 ho hb hg hat; rw [← Ny119.out] at ho; have n0_ := Aside0.mk (hb); have n1_ := Aside0.mk (Kept.of_grown (S := (fun k_ => P0_ k_)) hg qh (fun k_ e_ => (HO_0.out.1 k_ e_))); have n2_ := Aside0.mk (ho); clear HB; clear HK; clear HO_0; have HB := n0_; have HK := n1_; have HO121 := n2_; clear n0_ n1_ n2_; clear ho hb hg hat))
      go_roundg k1
      case measure => have := HK1.out; omega
      case rel => exact ⟨(y119), (wrap64 (x7_1 - 1)), qi, H', ⟨by have := HK1.out; omega⟩, ⟨by (with_reducible repeat (first | apply Kd.R_alloc | apply Kd.R_drewN | apply Kd.R_drew)); exact HO121.out⟩, ⟨by repeat (first | (with_reducible first | exact HK.out | apply Kept.alloc | apply Kept.drewN | apply Kept.drew) | exact HK.out)⟩, ⟨by repeat (first | (with_reducible first | exact HB.out | apply below_alloc | apply pw_below_drewN | apply below_drew1) | exact HB.out)⟩⟩
     ·rw [if_neg c8] at H
      exact absurd H (by simp)
    ·rw [if_neg c6] at H
     exact absurd H (by simp)
   ·rw [if_neg c4] at H
    have c4b0 : decide (0 ≤ x7_1) = false := decide_eq_false c4
    clear c4
    obtain rfl := Option.some.inj H
    go_wp2
    go_ret
    exact ⟨_, by first | rfl | (simp [errW_none, errW_some] <;> rfl) | (simp [*, errW_none, errW_some] <;> rfl), by (with_reducible repeat (first | apply Kd.R_alloc | apply Kd.R_drewN | apply Kd.R_drew)); exact HO_0.out, by repeat (first | (with_reducible first | exact HB.out | apply below_alloc | apply pw_below_drewN | apply below_drew1) | exact HB.out), by repeat (first | (with_reducible first | exact HK.out | apply Kept.alloc | apply Kept.drewN | apply Kept.drew) | exact HK.out)⟩
def field_Put32.f (k : Nat) (l0 : List Int) (a1 : Int) : Option (List Int) := (field_put_uint32.f k l0 ((a1) % 4294967296) 4).bind fun t122 => (some t122)
set_option maxHeartbeats 8000000 in
set_option maxRecDepth 100000 in
theorem field_Put32.calls (k : Nat) (P0_ : Nat → Prop) (u9000_ : Value) (l0 : List Int) (a1 : Int) (r : List Int) (w0 w : World) (hB : Below w0.heap.size w0 w) (ho0 : Kd.R (Kd.int .u8) 5 w w0.heap.size P0_ u9000_ l0) (h : field_Put32.f k l0 a1 = some r) :
  Calls Try.prog 85 #[u9000_, .int .i64 a1] w fun e w' => ∃ v0_ : Value, e = .returned (v0_) ∧ Kd.R (Kd.int .u8) 5 w' w0.heap.size (fun k_ => (P0_ k_ ∨ w.heap.size ≤ k_)) v0_ r ∧ Below w0.heap.size w0 w' ∧ Kept w w' (fun k_ => P0_ k_) := by
 have HO0 := Aside0.mk (show Kd.R (Kd.int .u8) 5 w w0.heap.size (fun k_ => (P0_ k_ ∨ w.heap.size ≤ k_)) u9000_ l0 from Kd.R_mono ho0 (fun k_ hk => (.inl hk)))
 have HK := Aside0.mk (Kept.refl w (fun k_ => P0_ k_))
 have HW0 := Aside0.mk hB.size
 have HB := Aside0.mk hB
 clear hB
 have H : ((field_put_uint32.f k l0 ((a1) % 4294967296) 4).bind fun t122 => (some t122)) = some r := h
 clear h
 replace H := Option.bind_eq_some_iff.mp H
 obtain ⟨t122, A30, H⟩ := H
 replace H : (some t122) = some r := H
 have A3 := Aside0.mk A30
 clear A30
 obtain rfl := Option.some.inj H
 obtain ⟨Ao4, co4, eo4⟩ := Kd.R_slice HO0.out
 subst eo4
 go_enter Try.func85, Try.ntmps85
 go_wp2_with (first | ((with_reducible refine gate_callee (f := 113) rfl ?_); refine goesL_ (some 8) rfl rfl Try.func113 (by kernel_rfl) rfl #[.slice Ao4 l0.length co4, .int .u32 ((a1) % 4294967296), .int .i64 4] rfl qb ?_; (with_reducible refine (field_put_uint32.calls k (fun k_ => some k_ = (.slice Ao4 l0.length co4 : Value).ownBlock) (.slice Ao4 l0.length co4) l0 ((a1) % 4294967296) 4 t122 w0 _ ?side1 ?side2 A3.out).mono ?_); (case side1 => repeat (first | (with_reducible first | exact HB.out | apply below_alloc | apply pw_below_drewN | apply below_drew1) | exact HB.out)); (case side2 => exact Kd.R_tight rfl HO0.out); rintro e w5 ⟨v123, rfl, ho0, hb, hkp⟩; refine ⟨_, rfl, ?_⟩; have n0_ := Aside0.mk (Kd.R_mono (ok' := fun k_ => (P0_ k_ ∨ w.heap.size ≤ k_)) ho0 (fun k_ hk_ => Or.elim hk_ (fun hs_ => (HO0.out.1 k_ (hs_).symm)) (fun hn_ => (.inr (Nat.le_trans qe hn_))))); have n1_ := Aside0.mk (Kept.then_ (S := (fun k_ => P0_ k_)) qh hkp (fun k_ hs_ => (fun e_ => (HO0.out.1 k_ e_.symm)) hs_)); have n2_ := Aside0.mk (hb); clear HK; clear HB; clear HO0; have HO124 := n0_; have HK := n1_; have HB := n2_; clear n0_ n1_ n2_; (try clear hb); (try clear hkp); (try clear ho0)))
 go_ret
 exact ⟨_, by first | rfl | (simp [errW_none, errW_some] <;> rfl) | (simp [*, errW_none, errW_some] <;> rfl), by (with_reducible repeat (first | apply Kd.R_alloc | apply Kd.R_drewN | apply Kd.R_drew)); exact HO124.out, by repeat (first | (with_reducible first | exact HB.out | apply below_alloc | apply pw_below_drewN | apply below_drew1) | exact HB.out), by repeat (first | (with_reducible first | exact HK.out | apply Kept.alloc | apply Kept.drewN | apply Kept.drew) | exact HK.out)⟩
end Go.Proofs.Ytmdgdndidfcapaa.QB
