import Derived.Test.YtmdgdndidfcapaaKQBx16
namespace Go.Proofs.Ytmdgdndidfcapaa.QB
open Go.RowKit Go.Proofs.YtmdgdndidfcapaaW.PrintWords Go.Proofs.YtmdgdndidfcapaaW.PrintLast Go.Proofs.YtmdgdndidfcapaaW.PrintMore
attribute [local go_sem] max2_int min2_int max_two min_two max_three min_three max_four min_four   -- for this text's walks alone
set_option linter.unusedVariables false
set_option linter.unusedSimpArgs false
def wire_putLines.l0 : Nat → List Int → List (S123) → Int → Int → List (S123) → ByteArray → Int → Bool → Option (List Int)
 | 0, _, _, _, _, _, _, _, _ => none
 | k + 1, x0, x13, x14, x15, x258000, x258001, x258002, x258003 => if x15 < x14 then (if 0 ≤ x15 then (if x15 < (x13.length : Int) then ((field_PutText.f k x0 ((rd_T123 x13 x15).f0)).bind fun t272 => ((field_Put64.f k t272 ((rd_T123 x13 x15).f1)).bind fun t275 => ((wire_putTruth.f t275 ((rd_T123 x13 x15).f2)).bind fun t278 => ((wire_putHead.f k t278 ((rd_T123 x13 x15).f3.f0) ((rd_T123 x13 x15).f3.f1.f0) ((rd_T123 x13 x15).f3.f1.f1) ((rd_T123 x13 x15).f3.f2) ((rd_T123 x13 x15).f3.f3)).bind fun t281 => (wire_putLines.l0 k t281 x13 x14 (wrap64 (x15 + 1)) x258000 x258001 x258002 x258003))))) else (none)) else (none)) else ((field_PutText.f k x0 x258001).bind fun t261 => ((field_Put64.f k t261 x258002).bind fun t264 => ((wire_putTruth.f t264 x258003).bind fun t267 => (some t267))))
def wire_putLines.f (k : Nat) (l0 : List Int) (l1_0 : List (S123)) (a1_1 : ByteArray) (a1_2 : Int) (a1_3 : Bool) : Option (List Int) := (field_Put16.f k l0 (l1_0.length : Int)).bind fun t258 => (wire_putLines.l0 k t258 l1_0 (l1_0.length : Int) 0 l1_0 a1_1 a1_2 a1_3)
def wire_putLines.T5 : Bool × List (List Nat × List Nat) := (true, [([], []), ([], []), ([1], [1]), ([0, 2], [0, 2]), ([], []), ([4], [4]), ([3, 5, 3], [3, 5]), ([], []), ([7], [7]), ([6, 8, 6], [6, 8]), ([], []), ([10], [10]), ([9, 11, 9], [9, 11]), ([12, 12, 0, 1, 2, 3, 4, 5, 6, 7, 8, 9, 10, 11, 12], [0, 12])])
def wire_putLines.B5 : List Nat := [0, 0, 2, 7, 0, 16, 63, 0, 128, 511, 0, 1024, 4095, 8191]
theorem wire_putLines.tab5 : rtab .any (opsOf Try.f38 5) = wire_putLines.T5 := by kernel_rfl
theorem wire_putLines.bits5 : waitsOk wire_putLines.T5.2 wire_putLines.B5 = true := by kernel_rfl
def wire_putLines.T7 : Bool × List (List Nat × List Nat) := (true, [([], []), ([], []), ([1], [1]), ([0, 2], [0, 2]), ([], []), ([4], [4]), ([3, 5, 3], [3, 5]), ([], []), ([7], [7]), ([6, 8, 6], [6, 8]), ([9, 9, 0, 1, 2, 3, 4, 5, 6, 7, 8, 9], [9])])
def wire_putLines.B7 : List Nat := [0, 0, 2, 7, 0, 16, 63, 0, 128, 511, 1023]
theorem wire_putLines.tab7 : rtab .any (opsOf Try.f38 7) = wire_putLines.T7 := by kernel_rfl
theorem wire_putLines.bits7 : waitsOk wire_putLines.T7.2 wire_putLines.B7 = true := by kernel_rfl
set_option maxHeartbeats 8000000 in
set_option maxRecDepth 100000 in
theorem wire_putLines.calls (k : Nat) (P0_ : Nat → Prop) (u9000_ : Value) (l0 : List Int) (A1_0 : Option Addr) (c1_0 : Nat) (l1_0 : List (S123)) (a1_1 : ByteArray) (a1_2 : Int) (a1_3 : Bool) (r : List Int) (w0 w : World) (hB : Below w0.heap.size w0 w) (ho0 : Kd.R (Kd.int .u8) 5 w w0.heap.size P0_ u9000_ l0) (hr1_0 : ∀ W_, Kept w W_ (fun k_ => P0_ k_) → Kd.C k123 W_ A1_0 l1_0.length l1_0) (hc1_0 : l1_0.length ≤ c1_0) (h : wire_putLines.f k l0 l1_0 a1_1 a1_2 a1_3 = some r) :
  Calls Try.prog 38 #[u9000_, .agg #[.slice A1_0 l1_0.length c1_0, .string a1_1, .int .i64 a1_2, .bool a1_3]] w fun e w' => ∃ v0_ : Value, e = .returned (v0_) ∧ Kd.R (Kd.int .u8) 5 w' w0.heap.size (fun k_ => (P0_ k_ ∨ w.heap.size ≤ k_)) v0_ r ∧ Below w0.heap.size w0 w' ∧ Kept w w' (fun k_ => P0_ k_) := by
 have hu50 := Try.underlying50
 have hu123 := Try.underlying123
 have hu42 := Try.underlying42
 have HO0 := Aside0.mk (show Kd.R (Kd.int .u8) 5 w w0.heap.size (fun k_ => (P0_ k_ ∨ w.heap.size ≤ k_)) u9000_ l0 from Kd.R_mono ho0 (fun k_ hk => (.inl hk)))
 have HR1_0 := Aside0.mk hr1_0
 have HC1_0 := Aside0.mk hc1_0
 clear hr1_0 hc1_0
 have HK := Aside0.mk (Kept.refl w (fun k_ => P0_ k_))
 have HW0 := Aside0.mk hB.size
 have HB := Aside0.mk hB
 clear hB
 have H : ((field_Put16.f k l0 (l1_0.length : Int)).bind fun t258 => (wire_putLines.l0 k t258 l1_0 (l1_0.length : Int) 0 l1_0 a1_1 a1_2 a1_3)) = some r := h
 clear h
 replace H := Option.bind_eq_some_iff.mp H
 obtain ⟨t258, A30, H⟩ := H
 replace H : (wire_putLines.l0 k t258 l1_0 (l1_0.length : Int) 0 l1_0 a1_1 a1_2 a1_3) = some r := H
 have A3 := Aside0.mk A30
 clear A30
 have H' := Aside0.mk H
 clear H
 go_enter Try.func38, Try.ntmps38
 go_wp2_with (first | ((with_reducible refine gate_dst (N := 3) rfl ?_); refine box_event ?hg (N := 3) ?hd (cs := #[.slice A1_0 l1_0.length c1_0, .string a1_1, .int .i64 a1_2, .bool a1_3]) (t := 50) ?hr ?_; (case hd => rfl); (case hg => rfl); (case hr => first | (go_simp; done) | (go_simp; rfl)); intro gb257 hg w4 hbox hb; have n0_ := Aside0.mk (Kd.R_below (ql HO0.out) hb); have n1_ := Aside0.mk (Kept.below (S := (fun k_ => P0_ k_)) qh hb); have n2_ := Aside0.mk (below_step qa hb); have n3_ := Aside0.mk (hbox); have n4_ := Aside0.mk ((by rw [hg]; exact qe : w.heap.size ≤ gb257)); have n5_ := Aside0.mk ((by rw [hg]; exact (below_size qa) : w0.heap.size ≤ gb257)); clear HO0; clear HK; clear HB; have HO0 := n0_; have HK := n1_; have HB := n2_; have BK257 := n3_; have GW257 := n4_; have GE257 := n5_; clear n0_ n1_ n2_ n3_ n4_ n5_; clear hb hbox hg; have hcz5_0 : w4.cell? ⟨gb257, 0, none⟩ = some (.slice A1_0 l1_0.length c1_0) := (blk_cell BK257.out 0).trans rfl; have hcz5_1 : w4.cell? ⟨gb257, 1, none⟩ = some (.string a1_1) := (blk_cell BK257.out 1).trans rfl; have hcz5_2 : w4.cell? ⟨gb257, 2, none⟩ = some (.int .i64 a1_2) := (blk_cell BK257.out 2).trans rfl; have hcz5_3 : w4.cell? ⟨gb257, 3, none⟩ = some (.bool a1_3) := (blk_cell BK257.out 3).trans rfl; have hfz5_0 := blk_frozen BK257.out 0; have hfz5_1 := blk_frozen BK257.out 1; have hfz5_2 := blk_frozen BK257.out 2; have hfz5_3 := blk_frozen BK257.out 3; obtain ⟨Ao6, co6, eo6⟩ := Kd.R_slice HO0.out; subst eo6) | ((with_reducible refine gate_callee (f := 40) rfl ?_); refine goesL_ (some 11) rfl rfl Try.func40 (by kernel_rfl) rfl #[.slice Ao6 l0.length co6, .int .i64 (l1_0.length : Int)] rfl qb ?_; (with_reducible refine (field_Put16.calls k (fun k_ => some k_ = (.slice Ao6 l0.length co6 : Value).ownBlock) (.slice Ao6 l0.length co6) l0 (l1_0.length : Int) t258 w0 _ ?side1 ?side2 A3.out).mono ?_); (case side1 => repeat (first | (with_reducible first | exact HB.out | apply below_alloc | apply pw_below_drewN | apply below_drew1 | refine below_set ?_ GE257.out) | exact HB.out)); (case side2 => exact Kd.R_tight rfl HO0.out); rintro e w7 ⟨v259, rfl, ho0, hb, hkp⟩; refine ⟨_, rfl, ?_⟩; have n0_ := Aside0.mk (blk_kept (qc BK257.out) hkp (fun hs_ => (fun e_ => (Kd.R_ne HO0.out BK257.out (by decide)) e_) hs_)); have n1_ := Aside0.mk (Kd.R_mono (ok' := fun k_ => (P0_ k_ ∨ w.heap.size ≤ k_)) ho0 (fun k_ hk_ => Or.elim hk_ (fun hs_ => (HO0.out.1 k_ (hs_).symm)) (fun hn_ => (.inr (Nat.le_trans (qf GW257.out) hn_))))); have n2_ := Aside0.mk (Kept.then_ (S := (fun k_ => P0_ k_)) (qg GW257.out) hkp (fun k_ hs_ => (fun e_ => (HO0.out.1 k_ e_.symm)) hs_)); have n3_ := Aside0.mk (hb); clear BK257; clear HK; clear HB; clear HO0; have BK257 := n0_; have HO260 := n1_; have HK := n2_; have HB := n3_; clear n0_ n1_ n2_ n3_; (try clear hb); (try clear hkp); (try clear ho0); have hcz8_0 : w7.cell? ⟨gb257, 0, none⟩ = some (.slice A1_0 l1_0.length c1_0) := (blk_cell BK257.out 0).trans rfl; have hcz8_1 : w7.cell? ⟨gb257, 1, none⟩ = some (.string a1_1) := (blk_cell BK257.out 1).trans rfl; have hcz8_2 : w7.cell? ⟨gb257, 2, none⟩ = some (.int .i64 a1_2) := (blk_cell BK257.out 2).trans rfl; have hcz8_3 : w7.cell? ⟨gb257, 3, none⟩ = some (.bool a1_3) := (blk_cell BK257.out 3).trans rfl; have hfz8_0 := blk_frozen BK257.out 0; have hfz8_1 := blk_frozen BK257.out 1; have hfz8_2 := blk_frozen BK257.out 2; have hfz8_3 := blk_frozen BK257.out 3))
 go_loopg [0, 15] k (fun kq v0 v15 w' => ∃ (x0_1 : List Int) (x15_1 : Int), v15 = .int .i64 x15_1 ∧ Aside0 (wire_putLines.l0 kq x0_1 l1_0 (l1_0.length : Int) x15_1 l1_0 a1_1 a1_2 a1_3 = some r) ∧ Aside0 (kq ≤ k) ∧ Aside0 (Kd.R (Kd.int .u8) 5 w' w0.heap.size (fun k_ => (P0_ k_ ∨ w.heap.size ≤ k_)) v0 x0_1) ∧ Aside0 (w'.heap[gb257]? = some (.cells #[(.slice A1_0 l1_0.length c1_0), .string a1_1, .int .i64 a1_2, .bool a1_3] 50 (0, 0))) ∧ Aside0 (Kept w w' (fun k_ => P0_ k_)) ∧ Aside0 (Below w0.heap.size w0 w'))
 case atStart => exact ⟨(t258), (0), qi, H', ⟨Nat.le_refl _⟩, ⟨by (with_reducible repeat (first | apply Kd.R_alloc | apply Kd.R_drewN | apply Kd.R_drew)); exact HO260.out⟩, ⟨by (with_reducible repeat (first | refine blk_drewN ?_ _ | refine blk_drew ?_ | refine blk_alloc ?_ _)); exact BK257.out⟩, ⟨by repeat (first | (with_reducible first | exact HK.out | apply Kept.alloc | apply Kept.drewN | apply Kept.drew | refine Kept.setCell ?_ (.inr GW257.out) _) | exact HK.out)⟩, ⟨by repeat (first | (with_reducible first | exact HB.out | apply below_alloc | apply pw_below_drewN | apply below_drew1 | refine below_set ?_ GE257.out) | exact HB.out)⟩⟩
 case round =>
  clear H'
  try clear c1
  try clear p2
  try clear c3
  try clear c4
  try clear hcz5_0 hcz5_1 hcz5_2 hcz5_3
  try clear hcz8_0 hcz8_1 hcz8_2 hcz8_3
  try clear hfz5_0
  try clear hfz8_0
  obtain ⟨x0_1, x15_1, rfl, HA, HK1, HO_0, BK257, HK, HB⟩ := hrel
  cases gk with
  | zero => exact absurd HA.out (by simp [wire_putLines.l0])
  | succ k1 =>
   have H := HA.out
   clear HA
   simp only [wire_putLines.l0] at H
   by_cases c9 : x15_1 < (l1_0.length : Int)
   ·rw [if_pos c9] at H
    have c9b0 : decide (x15_1 < (l1_0.length : Int)) = true := decide_eq_true c9
    clear c9
    by_cases c10 : 0 ≤ x15_1
    ·rw [if_pos c10] at H
     have c10b0 : decide (0 ≤ x15_1) = true := decide_eq_true c10
     clear c10
     by_cases c11 : x15_1 < (l1_0.length : Int)
     ·rw [if_pos c11] at H
      have c11b0 : decide (x15_1 < (l1_0.length : Int)) = true := decide_eq_true c11
      clear c11
      replace H := Option.bind_eq_some_iff.mp H
      obtain ⟨t272, A120, H⟩ := H
      replace H : ((field_Put64.f k1 t272 ((rd_T123 l1_0 x15_1).f1)).bind fun t275 => ((wire_putTruth.f t275 ((rd_T123 l1_0 x15_1).f2)).bind fun t278 => ((wire_putHead.f k1 t278 ((rd_T123 l1_0 x15_1).f3.f0) ((rd_T123 l1_0 x15_1).f3.f1.f0) ((rd_T123 l1_0 x15_1).f3.f1.f1) ((rd_T123 l1_0 x15_1).f3.f2) ((rd_T123 l1_0 x15_1).f3.f3)).bind fun t281 => (wire_putLines.l0 k1 t281 l1_0 (l1_0.length : Int) (wrap64 (x15_1 + 1)) l1_0 a1_1 a1_2 a1_3)))) = some r := H
      have A12 := Aside0.mk A120
      clear A120
      replace H := Option.bind_eq_some_iff.mp H
      obtain ⟨t275, A130, H⟩ := H
      replace H : ((wire_putTruth.f t275 ((rd_T123 l1_0 x15_1).f2)).bind fun t278 => ((wire_putHead.f k1 t278 ((rd_T123 l1_0 x15_1).f3.f0) ((rd_T123 l1_0 x15_1).f3.f1.f0) ((rd_T123 l1_0 x15_1).f3.f1.f1) ((rd_T123 l1_0 x15_1).f3.f2) ((rd_T123 l1_0 x15_1).f3.f3)).bind fun t281 => (wire_putLines.l0 k1 t281 l1_0 (l1_0.length : Int) (wrap64 (x15_1 + 1)) l1_0 a1_1 a1_2 a1_3))) = some r := H
      have A13 := Aside0.mk A130
      clear A130
      replace H := Option.bind_eq_some_iff.mp H
      obtain ⟨t278, A140, H⟩ := H
      replace H : ((wire_putHead.f k1 t278 ((rd_T123 l1_0 x15_1).f3.f0) ((rd_T123 l1_0 x15_1).f3.f1.f0) ((rd_T123 l1_0 x15_1).f3.f1.f1) ((rd_T123 l1_0 x15_1).f3.f2) ((rd_T123 l1_0 x15_1).f3.f3)).bind fun t281 => (wire_putLines.l0 k1 t281 l1_0 (l1_0.length : Int) (wrap64 (x15_1 + 1)) l1_0 a1_1 a1_2 a1_3)) = some r := H
      have A14 := Aside0.mk A140
      clear A140
      replace H := Option.bind_eq_some_iff.mp H
      obtain ⟨t281, A150, H⟩ := H
      replace H : (wire_putLines.l0 k1 t281 l1_0 (l1_0.length : Int) (wrap64 (x15_1 + 1)) l1_0 a1_1 a1_2 a1_3) = some r := H
      have A15 := Aside0.mk A150
      clear A150
      have H' := Aside0.mk H
      clear H
      have p270 : 0 ≤ (x15_1 : Int) := of_decide_eq_true qr
      have q270 : x15_1 < (l1_0.length : Int) := of_decide_eq_true qr
      obtain ⟨ad270, e270, hx270_0, hx270_1, hx270_2, hx270_3, hx270_4, hx270_5, hx270_6, hx270_7⟩ := at_T123 (Kd.C_kept_now HR1_0.out HK.out) x15_1 p270 q270
      cases e270
      replace p270 := eq_true p270
      replace q270 := eq_true q270
      try go_wp2_with (first | ((with_reducible refine gate_dst (N := 6) rfl ?_); refine box_event ?hg (N := 6) ?hd (cs := #[.string (⟨#[]⟩ : ByteArray), .int .i64 0, .bool false, .int .i64 0, .int .i64 0, .int .i64 0, .bool false, .bool false]) (t := 123) ?hr ?_; (case hd => rfl); (case hg => rfl); (case hr => first | (go_simp; done) | (go_simp; rfl)); intro gb271 hg w16 hbox hb; have n0_ := Aside0.mk (Kd.R_below qu hb); have n1_ := Aside0.mk (blk_below (g := gb257) (o := .cells #[.slice (some ad270) l1_0.length c1_0, .string a1_1, .int .i64 a1_2, .bool a1_3] 50 (0, 0)) (qc BK257.out) hb); have n2_ := Aside0.mk (Kept.below (S := (fun k_ => P0_ k_)) (qg GW257.out) hb); have n3_ := Aside0.mk (below_step (qd GE257.out) hb); have n4_ := Aside0.mk (hbox); have n5_ := Aside0.mk ((by rw [hg]; exact (qf GW257.out) : w.heap.size ≤ gb271)); have n6_ := Aside0.mk ((by rw [hg]; exact (below_size (qd GE257.out)) : w0.heap.size ≤ gb271)); have n7_ := Aside0.mk ((by rw [hg]; exact Nat.ne_of_lt (blk_lt (g := gb257) (o := .cells #[.slice (some ad270) l1_0.length c1_0, .string a1_1, .int .i64 a1_2, .bool a1_3] 50 (0, 0)) (qc BK257.out)) : gb257 ≠ gb271)); have n8_ := Aside0.mk ((by rw [hg]; exact Nat.ne_of_gt (blk_lt (g := gb257) (o := .cells #[.slice (some ad270) l1_0.length c1_0, .string a1_1, .int .i64 a1_2, .bool a1_3] 50 (0, 0)) (qc BK257.out)) : gb271 ≠ gb257)); clear HO_0; clear BK257; clear HK; clear HB; have HO_0 := n0_; have BK257 := n1_; have HK := n2_; have HB := n3_; have BK271 := n4_; have GW271 := n5_; have GE271 := n6_; have NB257_271 := n7_; have NB271_257 := n8_; clear n0_ n1_ n2_ n3_ n4_ n5_ n6_ n7_ n8_; clear hb hbox hg; have hnb17 := NB271_257.out; have hnc17 := NB257_271.out; have hcz18_0 : w16.cell? ⟨gb271, 0, none⟩ = some (.string (⟨#[]⟩ : ByteArray)) := (blk_cell BK271.out 0).trans rfl; have hcz18_1 : w16.cell? ⟨gb271, 1, none⟩ = some (.int .i64 0) := (blk_cell BK271.out 1).trans rfl; have hcz18_2 : w16.cell? ⟨gb271, 2, none⟩ = some (.bool false) := (blk_cell BK271.out 2).trans rfl; have hcz18_3 : w16.cell? ⟨gb271, 3, none⟩ = some (.int .i64 0) := (blk_cell BK271.out 3).trans rfl; have hcz18_4 : w16.cell? ⟨gb271, 4, none⟩ = some (.int .i64 0) := (blk_cell BK271.out 4).trans rfl; have hcz18_5 : w16.cell? ⟨gb271, 5, none⟩ = some (.int .i64 0) := (blk_cell BK271.out 5).trans rfl; have hcz18_6 : w16.cell? ⟨gb271, 6, none⟩ = some (.bool false) := (blk_cell BK271.out 6).trans rfl; have hcz18_7 : w16.cell? ⟨gb271, 7, none⟩ = some (.bool false) := (blk_cell BK271.out 7).trans rfl; have hfz18_0 := blk_frozen BK271.out 0; have hfz18_1 := blk_frozen BK271.out 1; have hfz18_2 := blk_frozen BK271.out 2; have hfz18_3 := blk_frozen BK271.out 3; have hfz18_4 := blk_frozen BK271.out 4; have hfz18_5 := blk_frozen BK271.out 5; have hfz18_6 := blk_frozen BK271.out 6; have hfz18_7 := blk_frozen BK271.out 7))
      have n0_ : Aside0 (Kd.R (Kd.int .u8) 5 ((((((((w16.setCell ⟨gb271, 0, none⟩ (.string ((rd_T123 l1_0 x15_1).f0))).setCell ⟨gb271, 1, none⟩ (.int .i64 ((rd_T123 l1_0 x15_1).f1))).setCell ⟨gb271, 2, none⟩ (.bool ((rd_T123 l1_0 x15_1).f2))).setCell ⟨gb271, 3, none⟩ (.int .i64 ((rd_T123 l1_0 x15_1).f3.f0))).setCell ⟨gb271, 4, none⟩ (.int .i64 ((rd_T123 l1_0 x15_1).f3.f1.f0))).setCell ⟨gb271, 5, none⟩ (.int .i64 ((rd_T123 l1_0 x15_1).f3.f1.f1))).setCell ⟨gb271, 6, none⟩ (.bool ((rd_T123 l1_0 x15_1).f3.f2))).setCell ⟨gb271, 7, none⟩ (.bool ((rd_T123 l1_0 x15_1).f3.f3))) w0.heap.size (fun k_ => (P0_ k_ ∨ w.heap.size ≤ k_)) u0 x0_1) := ⟨by (with_reducible repeat (first | apply Kd.R_alloc | apply Kd.R_drewN | apply Kd.R_drew)); exact Kd.R_mono (Kd.R_far (p := ⟨gb271, 7, none⟩) (Kd.R_far (p := ⟨gb271, 6, none⟩) (Kd.R_far (p := ⟨gb271, 5, none⟩) (Kd.R_far (p := ⟨gb271, 4, none⟩) (Kd.R_far (p := ⟨gb271, 3, none⟩) (Kd.R_far (p := ⟨gb271, 2, none⟩) (Kd.R_far (p := ⟨gb271, 1, none⟩) (Kd.R_far (p := ⟨gb271, 0, none⟩) (Kd.R_types HO_0.out BK271.out (by decide)) (fun _ hk => hk.2) (.string ((rd_T123 l1_0 x15_1).f0))) (fun _ hk => hk.2) (.int .i64 ((rd_T123 l1_0 x15_1).f1))) (fun _ hk => hk.2) (.bool ((rd_T123 l1_0 x15_1).f2))) (fun _ hk => hk.2) (.int .i64 ((rd_T123 l1_0 x15_1).f3.f0))) (fun _ hk => hk.2) (.int .i64 ((rd_T123 l1_0 x15_1).f3.f1.f0))) (fun _ hk => hk.2) (.int .i64 ((rd_T123 l1_0 x15_1).f3.f1.f1))) (fun _ hk => hk.2) (.bool ((rd_T123 l1_0 x15_1).f3.f2))) (fun _ hk => hk.2) (.bool ((rd_T123 l1_0 x15_1).f3.f3))) (fun _ hk => hk.1)⟩
      have n1_ : Aside0 (((((((((w16.setCell ⟨gb271, 0, none⟩ (.string ((rd_T123 l1_0 x15_1).f0))).setCell ⟨gb271, 1, none⟩ (.int .i64 ((rd_T123 l1_0 x15_1).f1))).setCell ⟨gb271, 2, none⟩ (.bool ((rd_T123 l1_0 x15_1).f2))).setCell ⟨gb271, 3, none⟩ (.int .i64 ((rd_T123 l1_0 x15_1).f3.f0))).setCell ⟨gb271, 4, none⟩ (.int .i64 ((rd_T123 l1_0 x15_1).f3.f1.f0))).setCell ⟨gb271, 5, none⟩ (.int .i64 ((rd_T123 l1_0 x15_1).f3.f1.f1))).setCell ⟨gb271, 6, none⟩ (.bool ((rd_T123 l1_0 x15_1).f3.f2))).setCell ⟨gb271, 7, none⟩ (.bool ((rd_T123 l1_0 x15_1).f3.f3))).heap[gb257]? = some (.cells #[.slice (some ad270) l1_0.length c1_0, .string a1_1, .int .i64 a1_2, .bool a1_3] 50 (0, 0))) := ⟨by (with_reducible repeat (first | refine blk_drewN ?_ _ | refine blk_drew ?_ | refine blk_alloc ?_ _)); refine blk_far ?_ NB257_271.out _; (with_reducible repeat (first | refine blk_drewN ?_ _ | refine blk_drew ?_ | refine blk_alloc ?_ _)); refine blk_far ?_ NB257_271.out _; (with_reducible repeat (first | refine blk_drewN ?_ _ | refine blk_drew ?_ | refine blk_alloc ?_ _)); refine blk_far ?_ NB257_271.out _; (with_reducible repeat (first | refine blk_drewN ?_ _ | refine blk_drew ?_ | refine blk_alloc ?_ _)); refine blk_far ?_ NB257_271.out _; (with_reducible repeat (first | refine blk_drewN ?_ _ | refine blk_drew ?_ | refine blk_alloc ?_ _)); refine blk_far ?_ NB257_271.out _; (with_reducible repeat (first | refine blk_drewN ?_ _ | refine blk_drew ?_ | refine blk_alloc ?_ _)); refine blk_far ?_ NB257_271.out _; (with_reducible repeat (first | refine blk_drewN ?_ _ | refine blk_drew ?_ | refine blk_alloc ?_ _)); refine blk_far ?_ NB257_271.out _; (with_reducible repeat (first | refine blk_drewN ?_ _ | refine blk_drew ?_ | refine blk_alloc ?_ _)); refine blk_far ?_ NB257_271.out _; (with_reducible repeat (first | refine blk_drewN ?_ _ | refine blk_drew ?_ | refine blk_alloc ?_ _)); exact BK257.out⟩
      have n2_ : Aside0 (((((((((w16.setCell ⟨gb271, 0, none⟩ (.string ((rd_T123 l1_0 x15_1).f0))).setCell ⟨gb271, 1, none⟩ (.int .i64 ((rd_T123 l1_0 x15_1).f1))).setCell ⟨gb271, 2, none⟩ (.bool ((rd_T123 l1_0 x15_1).f2))).setCell ⟨gb271, 3, none⟩ (.int .i64 ((rd_T123 l1_0 x15_1).f3.f0))).setCell ⟨gb271, 4, none⟩ (.int .i64 ((rd_T123 l1_0 x15_1).f3.f1.f0))).setCell ⟨gb271, 5, none⟩ (.int .i64 ((rd_T123 l1_0 x15_1).f3.f1.f1))).setCell ⟨gb271, 6, none⟩ (.bool ((rd_T123 l1_0 x15_1).f3.f2))).setCell ⟨gb271, 7, none⟩ (.bool ((rd_T123 l1_0 x15_1).f3.f3))).heap[gb271]? = some (.cells #[.string ((rd_T123 l1_0 x15_1).f0), .int .i64 ((rd_T123 l1_0 x15_1).f1), .bool ((rd_T123 l1_0 x15_1).f2), .int .i64 ((rd_T123 l1_0 x15_1).f3.f0), .int .i64 ((rd_T123 l1_0 x15_1).f3.f1.f0), .int .i64 ((rd_T123 l1_0 x15_1).f3.f1.f1), .bool ((rd_T123 l1_0 x15_1).f3.f2), .bool ((rd_T123 l1_0 x15_1).f3.f3)] 123 (0, 0))) := ⟨by (with_reducible repeat (first | refine blk_drewN ?_ _ | refine blk_drew ?_ | refine blk_alloc ?_ _)); refine blk_put (cs := #[.string ((rd_T123 l1_0 x15_1).f0), .int .i64 ((rd_T123 l1_0 x15_1).f1), .bool ((rd_T123 l1_0 x15_1).f2), .int .i64 ((rd_T123 l1_0 x15_1).f3.f0), .int .i64 ((rd_T123 l1_0 x15_1).f3.f1.f0), .int .i64 ((rd_T123 l1_0 x15_1).f3.f1.f1), .bool ((rd_T123 l1_0 x15_1).f3.f2), .bool false]) ?_ 7 _ rfl; (with_reducible repeat (first | refine blk_drewN ?_ _ | refine blk_drew ?_ | refine blk_alloc ?_ _)); refine blk_put (cs := #[.string ((rd_T123 l1_0 x15_1).f0), .int .i64 ((rd_T123 l1_0 x15_1).f1), .bool ((rd_T123 l1_0 x15_1).f2), .int .i64 ((rd_T123 l1_0 x15_1).f3.f0), .int .i64 ((rd_T123 l1_0 x15_1).f3.f1.f0), .int .i64 ((rd_T123 l1_0 x15_1).f3.f1.f1), .bool false, .bool false]) ?_ 6 _ rfl; (with_reducible repeat (first | refine blk_drewN ?_ _ | refine blk_drew ?_ | refine blk_alloc ?_ _)); refine blk_put (cs := #[.string ((rd_T123 l1_0 x15_1).f0), .int .i64 ((rd_T123 l1_0 x15_1).f1), .bool ((rd_T123 l1_0 x15_1).f2), .int .i64 ((rd_T123 l1_0 x15_1).f3.f0), .int .i64 ((rd_T123 l1_0 x15_1).f3.f1.f0), .int .i64 0, .bool false, .bool false]) ?_ 5 _ rfl; (with_reducible repeat (first | refine blk_drewN ?_ _ | refine blk_drew ?_ | refine blk_alloc ?_ _)); refine blk_put (cs := #[.string ((rd_T123 l1_0 x15_1).f0), .int .i64 ((rd_T123 l1_0 x15_1).f1), .bool ((rd_T123 l1_0 x15_1).f2), .int .i64 ((rd_T123 l1_0 x15_1).f3.f0), .int .i64 0, .int .i64 0, .bool false, .bool false]) ?_ 4 _ rfl; (with_reducible repeat (first | refine blk_drewN ?_ _ | refine blk_drew ?_ | refine blk_alloc ?_ _)); refine blk_put (cs := #[.string ((rd_T123 l1_0 x15_1).f0), .int .i64 ((rd_T123 l1_0 x15_1).f1), .bool ((rd_T123 l1_0 x15_1).f2), .int .i64 0, .int .i64 0, .int .i64 0, .bool false, .bool false]) ?_ 3 _ rfl; (with_reducible repeat (first | refine blk_drewN ?_ _ | refine blk_drew ?_ | refine blk_alloc ?_ _)); refine blk_put (cs := #[.string ((rd_T123 l1_0 x15_1).f0), .int .i64 ((rd_T123 l1_0 x15_1).f1), .bool false, .int .i64 0, .int .i64 0, .int .i64 0, .bool false, .bool false]) ?_ 2 _ rfl; (with_reducible repeat (first | refine blk_drewN ?_ _ | refine blk_drew ?_ | refine blk_alloc ?_ _)); refine blk_put (cs := #[.string ((rd_T123 l1_0 x15_1).f0), .int .i64 0, .bool false, .int .i64 0, .int .i64 0, .int .i64 0, .bool false, .bool false]) ?_ 1 _ rfl; (with_reducible repeat (first | refine blk_drewN ?_ _ | refine blk_drew ?_ | refine blk_alloc ?_ _)); refine blk_put (cs := #[.string (⟨#[]⟩ : ByteArray), .int .i64 0, .bool false, .int .i64 0, .int .i64 0, .int .i64 0, .bool false, .bool false]) ?_ 0 _ rfl; (with_reducible repeat (first | refine blk_drewN ?_ _ | refine blk_drew ?_ | refine blk_alloc ?_ _)); exact BK271.out⟩
      have n3_ : Aside0 (Kept w ((((((((w16.setCell ⟨gb271, 0, none⟩ (.string ((rd_T123 l1_0 x15_1).f0))).setCell ⟨gb271, 1, none⟩ (.int .i64 ((rd_T123 l1_0 x15_1).f1))).setCell ⟨gb271, 2, none⟩ (.bool ((rd_T123 l1_0 x15_1).f2))).setCell ⟨gb271, 3, none⟩ (.int .i64 ((rd_T123 l1_0 x15_1).f3.f0))).setCell ⟨gb271, 4, none⟩ (.int .i64 ((rd_T123 l1_0 x15_1).f3.f1.f0))).setCell ⟨gb271, 5, none⟩ (.int .i64 ((rd_T123 l1_0 x15_1).f3.f1.f1))).setCell ⟨gb271, 6, none⟩ (.bool ((rd_T123 l1_0 x15_1).f3.f2))).setCell ⟨gb271, 7, none⟩ (.bool ((rd_T123 l1_0 x15_1).f3.f3))) (fun k_ => P0_ k_)) := ⟨by repeat (first | (with_reducible first | exact HK.out | apply Kept.alloc | apply Kept.drewN | apply Kept.drew | refine Kept.setCell ?_ (.inr GW257.out) _ | refine Kept.setCell ?_ (.inr GW271.out) _) | exact HK.out)⟩
      have n4_ : Aside0 (Below w0.heap.size w0 ((((((((w16.setCell ⟨gb271, 0, none⟩ (.string ((rd_T123 l1_0 x15_1).f0))).setCell ⟨gb271, 1, none⟩ (.int .i64 ((rd_T123 l1_0 x15_1).f1))).setCell ⟨gb271, 2, none⟩ (.bool ((rd_T123 l1_0 x15_1).f2))).setCell ⟨gb271, 3, none⟩ (.int .i64 ((rd_T123 l1_0 x15_1).f3.f0))).setCell ⟨gb271, 4, none⟩ (.int .i64 ((rd_T123 l1_0 x15_1).f3.f1.f0))).setCell ⟨gb271, 5, none⟩ (.int .i64 ((rd_T123 l1_0 x15_1).f3.f1.f1))).setCell ⟨gb271, 6, none⟩ (.bool ((rd_T123 l1_0 x15_1).f3.f2))).setCell ⟨gb271, 7, none⟩ (.bool ((rd_T123 l1_0 x15_1).f3.f3)))) := ⟨by repeat (first | (with_reducible first | exact HB.out | apply below_alloc | apply pw_below_drewN | apply below_drew1 | refine below_set ?_ GE257.out | refine below_set ?_ GE271.out) | exact HB.out)⟩
      (try clear HO_0)
      (try clear BK257)
      (try clear BK271)
      (try clear HK)
      (try clear HB)
      generalize ((((((((w16.setCell ⟨gb271, 0, none⟩ (.string ((rd_T123 l1_0 x15_1).f0))).setCell ⟨gb271, 1, none⟩ (.int .i64 ((rd_T123 l1_0 x15_1).f1))).setCell ⟨gb271, 2, none⟩ (.bool ((rd_T123 l1_0 x15_1).f2))).setCell ⟨gb271, 3, none⟩ (.int .i64 ((rd_T123 l1_0 x15_1).f3.f0))).setCell ⟨gb271, 4, none⟩ (.int .i64 ((rd_T123 l1_0 x15_1).f3.f1.f0))).setCell ⟨gb271, 5, none⟩ (.int .i64 ((rd_T123 l1_0 x15_1).f3.f1.f1))).setCell ⟨gb271, 6, none⟩ (.bool ((rd_T123 l1_0 x15_1).f3.f2))).setCell ⟨gb271, 7, none⟩ (.bool ((rd_T123 l1_0 x15_1).f3.f3))) = w19 at n0_ n1_ n2_ n3_ n4_ ⊢
      have HO_0 := n0_
      have BK257 := n1_
      have BK271 := n2_
      have HK := n3_
      have HB := n4_
      clear n0_ n1_ n2_ n3_ n4_
      have n0_ := Aside0.mk (Kd.R_drew HO_0.out)
      have n1_ := Aside0.mk (blk_drew BK257.out)
      have n2_ := Aside0.mk (blk_drew BK271.out)
      have n3_ := Aside0.mk (Kept.drew HK.out)
      have n4_ := Aside0.mk (below_drew1 HB.out)
      clear HO_0
      clear BK257
      clear BK271
      clear HK
      clear HB
      have HO_0 := n0_
      have BK257 := n1_
      have BK271 := n2_
      have HK := n3_
      have HB := n4_
      clear n0_ n1_ n2_ n3_ n4_
      obtain ⟨Ao21, co21, eo21⟩ := Kd.R_slice HO_0.out
      (first | subst eo21 | (injection eo21 with f1_ f2_ f3_; have f4_ := f1_.symm; have f5_ := f3_.symm; clear f1_ f2_ f3_; subst f4_; subst f5_))
      refine start_ (n := 14) (S := fun w' => w'.cell? ⟨gb271, 0, none⟩ = some (.string ((rd_T123 l1_0 x15_1).f0)) ∧ w'.cell? ⟨gb271, 1, none⟩ = some (.int .i64 ((rd_T123 l1_0 x15_1).f1)) ∧ w'.cell? ⟨gb271, 2, none⟩ = some (.bool ((rd_T123 l1_0 x15_1).f2)) ∧ w'.cell? ⟨gb271, 3, none⟩ = some (.int .i64 ((rd_T123 l1_0 x15_1).f3.f0)) ∧ w'.cell? ⟨gb271, 4, none⟩ = some (.int .i64 ((rd_T123 l1_0 x15_1).f3.f1.f0)) ∧ w'.cell? ⟨gb271, 5, none⟩ = some (.int .i64 ((rd_T123 l1_0 x15_1).f3.f1.f1)) ∧ w'.cell? ⟨gb271, 6, none⟩ = some (.bool ((rd_T123 l1_0 x15_1).f3.f2)) ∧ w'.cell? ⟨gb271, 7, none⟩ = some (.bool ((rd_T123 l1_0 x15_1).f3.f3))) (ds := []) (fl 14 0) (by kernel_rfl) rfl rfl ⟨(blk_cell BK271.out 0).trans rfl, (blk_cell BK271.out 1).trans rfl, (blk_cell BK271.out 2).trans rfl, (blk_cell BK271.out 3).trans rfl, (blk_cell BK271.out 4).trans rfl, (blk_cell BK271.out 5).trans rfl, (blk_cell BK271.out 6).trans rfl, (blk_cell BK271.out 7).trans rfl⟩ (fun hHeld => ?_); refine with_tabW wire_putLines.tab5 wire_putLines.bits5 (fun HT_ HW_ => ?_)
      generalize w19.drew = w20 at HO_0 BK257 BK271 HK HB hHeld ⊢
      refine pu_ 0 19 (fl 14 1) ?_
      refine pu_ 1 20 (fl 14 3) ?_
      refine pu_ 4 23 (fl 14 19) ?_
      refine pu_ 7 26 (fl 14 147) ?_
      refine pu_ 10 29 (fl 14 1171) ?_
      refine take_ (i := 2) (N := some 21) (v := ?_) (a' := ?_) (fl 14 1175) rfl rfl (take_ofW HT_.out HW_.out (by kernel_rfl)) (fun _ _ _ h => h) (Or.inl ⟨by rfl, ?_⟩) hHeld ?_ ?_
      rotate_left
      ·rintro w' ⟨s0, s1, s2, s3, s4, s5, s6, s7⟩
       go_simp
       with_reducible rfl
      rotate_left
      ·simp only [Act.put, List.setIfInBounds_toArray, List.set_cons_zero, List.set_cons_succ, i64_w, i32_w]
       rfl
      refine take_ (i := 5) (N := some 24) (v := ?_) (a' := ?_) (fl 14 1207) rfl rfl (take_ofW HT_.out HW_.out (by kernel_rfl)) (fun _ _ _ h => h) (Or.inl ⟨by rfl, ?_⟩) hHeld ?_ ?_
      rotate_left
      ·rintro w' ⟨s0, s1, s2, s3, s4, s5, s6, s7⟩
       go_simp
       with_reducible rfl
      rotate_left
      ·simp only [Act.put, List.setIfInBounds_toArray, List.set_cons_zero, List.set_cons_succ, i64_w, i32_w]
       rfl
      refine take_ (i := 8) (N := some 27) (v := ?_) (a' := ?_) (fl 14 1463) rfl rfl (take_ofW HT_.out HW_.out (by kernel_rfl)) (fun _ _ _ h => h) (Or.inl ⟨by rfl, ?_⟩) hHeld ?_ ?_
      rotate_left
      ·rintro w' ⟨s0, s1, s2, s3, s4, s5, s6, s7⟩
       go_simp
       with_reducible rfl
      rotate_left
      ·simp only [Act.put, List.setIfInBounds_toArray, List.set_cons_zero, List.set_cons_succ, i64_w, i32_w]
       rfl
      refine take_ (i := 11) (N := some 30) (v := ?_) (a' := ?_) (fl 14 3511) rfl rfl (take_ofW HT_.out HW_.out (by kernel_rfl)) (fun _ _ _ h => h) (Or.inl ⟨by rfl, ?_⟩) hHeld ?_ ?_
      rotate_left
      ·rintro w' ⟨s0, s1, s2, s3, s4, s5, s6, s7⟩
       go_simp
       with_reducible rfl
      rotate_left
      ·simp only [Act.put, List.setIfInBounds_toArray, List.set_cons_zero, List.set_cons_succ, i64_w, i32_w]
       rfl
      refine on_ 3 (some 22) (fl 14 3519) fun K hK => ?_
      refine goes_ Try.func34 (by kernel_rfl) rfl #[.slice Ao21 x0_1.length co21, .string ((rd_T123 l1_0 x15_1).f0)] (by rfl) rfl rfl qb ?_
      with_reducible refine (field_PutText.calls k1 (fun k_ => some k_ = (.slice Ao21 x0_1.length co21 : Value).ownBlock) (.slice Ao21 x0_1.length co21) x0_1 ((rd_T123 l1_0 x15_1).f0) t272 w0 _ ?side1 ?side2 A12.out).mono ?_
      (case side1 => repeat (first | (with_reducible first | exact HB.out | apply below_alloc | apply pw_below_drewN | apply below_drew1 | refine below_set ?_ GE257.out | refine below_set ?_ GE271.out) | exact HB.out))
      (case side2 => exact Kd.R_tight rfl HO_0.out)
      rintro e w22 ⟨v273, rfl, ho0, hb, hkp⟩
      refine ⟨_, rfl, ?_⟩
      have n0_ := Aside0.mk (blk_kept (qc BK257.out) hkp (fun hs_ => (fun e_ => (Kd.R_ne HO_0.out BK257.out (by decide)) e_) hs_))
      have n1_ := Aside0.mk (blk_kept (qc BK271.out) hkp (fun hs_ => (fun e_ => (Kd.R_ne HO_0.out BK271.out (by decide)) e_) hs_))
      have n2_ := Aside0.mk (Kd.R_mono (ok' := fun k_ => (P0_ k_ ∨ w.heap.size ≤ k_)) ho0 (fun k_ hk_ => Or.elim hk_ (fun hs_ => (HO_0.out.1 k_ (hs_).symm)) (fun hn_ => (.inr (Nat.le_trans (by first | exact HK.out.1 | exact (show Kept w _ (fun k_ => P0_ k_) from by repeat (first | (with_reducible first | exact HK.out | apply Kept.alloc | apply Kept.drewN | apply Kept.drew | refine Kept.setCell ?_ (.inr GW257.out) _ | refine Kept.setCell ?_ (.inr GW271.out) _) | exact HK.out)).1) hn_)))))
      have n3_ := Aside0.mk (Kept.then_ (S := (fun k_ => P0_ k_)) (by repeat (first | (with_reducible first | exact HK.out | apply Kept.alloc | apply Kept.drewN | apply Kept.drew | refine Kept.setCell ?_ (.inr GW257.out) _ | refine Kept.setCell ?_ (.inr GW271.out) _) | exact HK.out)) hkp (fun k_ hs_ => (fun e_ => (HO_0.out.1 k_ e_.symm)) hs_))
      have n4_ := Aside0.mk (hb)
      clear BK257
      clear BK271
      clear HK
      clear HB
      clear HO_0
      have BK257 := n0_
      have BK271 := n1_
      have HO274 := n2_
      have HK := n3_
      have HB := n4_
      clear n0_ n1_ n2_ n3_ n4_
      (try clear hb)
      (try clear hkp)
      (try clear ho0)
      obtain ⟨Ao23, co23, eo23⟩ := Kd.R_slice HO274.out
      (first | subst eo23 | (injection eo23 with f1_ f2_ f3_; have f4_ := f1_.symm; have f5_ := f3_.symm; clear f1_ f2_ f3_; subst f4_; subst f5_))
      refine nm_ hK ⟨(blk_cell BK271.out 0).trans rfl, (blk_cell BK271.out 1).trans rfl, (blk_cell BK271.out 2).trans rfl, (blk_cell BK271.out 3).trans rfl, (blk_cell BK271.out 4).trans rfl, (blk_cell BK271.out 5).trans rfl, (blk_cell BK271.out 6).trans rfl, (blk_cell BK271.out 7).trans rfl⟩ fun hHeld => ?_
      clear hK K
      refine on_ 6 (some 25) (fl 14 3583) fun K hK => ?_
      refine goes_ Try.func35 (by kernel_rfl) rfl #[.slice Ao23 t272.length co23, .int .i64 ((rd_T123 l1_0 x15_1).f1)] (by rfl) rfl rfl qb ?_
      with_reducible refine (field_Put64.calls k1 (fun k_ => some k_ = (.slice Ao23 t272.length co23 : Value).ownBlock) (.slice Ao23 t272.length co23) t272 ((rd_T123 l1_0 x15_1).f1) t275 w0 _ ?side1 ?side2 A13.out).mono ?_
      (case side1 => repeat (first | (with_reducible first | exact HB.out | apply below_alloc | apply pw_below_drewN | apply below_drew1 | refine below_set ?_ GE257.out | refine below_set ?_ GE271.out) | exact HB.out))
      (case side2 => exact Kd.R_tight rfl HO274.out)
      rintro e w24 ⟨v276, rfl, ho0, hb, hkp⟩
      refine ⟨_, rfl, ?_⟩
      have n0_ := Aside0.mk (blk_kept (qc BK257.out) hkp (fun hs_ => (fun e_ => (Kd.R_ne HO274.out BK257.out (by decide)) e_) hs_))
      have n1_ := Aside0.mk (blk_kept (qc BK271.out) hkp (fun hs_ => (fun e_ => (Kd.R_ne HO274.out BK271.out (by decide)) e_) hs_))
      have n2_ := Aside0.mk (Kd.R_mono (ok' := fun k_ => (P0_ k_ ∨ w.heap.size ≤ k_)) ho0 (fun k_ hk_ => Or.elim hk_ (fun hs_ => (HO274.out.1 k_ (hs_).symm)) (fun hn_ => (.inr (Nat.le_trans (by first | exact HK.out.1 | exact (show Kept w _ (fun k_ => P0_ k_) from by repeat (first | (with_reducible first | exact HK.out | apply Kept.alloc | apply Kept.drewN | apply Kept.drew | refine Kept.setCell ?_ (.inr GW257.out) _ | refine Kept.setCell ?_ (.inr GW271.out) _) | exact HK.out)).1) hn_)))))
      have n3_ := Aside0.mk (Kept.then_ (S := (fun k_ => P0_ k_)) (by repeat (first | (with_reducible first | exact HK.out | apply Kept.alloc | apply Kept.drewN | apply Kept.drew | refine Kept.setCell ?_ (.inr GW257.out) _ | refine Kept.setCell ?_ (.inr GW271.out) _) | exact HK.out)) hkp (fun k_ hs_ => (fun e_ => (HO274.out.1 k_ e_.symm)) hs_))
      have n4_ := Aside0.mk (hb)
      clear BK257
      clear BK271
      clear HK
      clear HB
      clear HO274
      have BK257 := n0_
      have BK271 := n1_
      have HO277 := n2_
      have HK := n3_
      have HB := n4_
      clear n0_ n1_ n2_ n3_ n4_
      (try clear hb)
      (try clear hkp)
      (try clear ho0)
      obtain ⟨Ao25, co25, eo25⟩ := Kd.R_slice HO277.out
      (first | subst eo25 | (injection eo25 with f1_ f2_ f3_; have f4_ := f1_.symm; have f5_ := f3_.symm; clear f1_ f2_ f3_; subst f4_; subst f5_))
      refine nm_ hK ⟨(blk_cell BK271.out 0).trans rfl, (blk_cell BK271.out 1).trans rfl, (blk_cell BK271.out 2).trans rfl, (blk_cell BK271.out 3).trans rfl, (blk_cell BK271.out 4).trans rfl, (blk_cell BK271.out 5).trans rfl, (blk_cell BK271.out 6).trans rfl, (blk_cell BK271.out 7).trans rfl⟩ fun hHeld => ?_
      clear hK K
      refine on_ 9 (some 28) (fl 14 4095) fun K hK => ?_
      refine goes_ Try.func39 (by kernel_rfl) rfl #[.slice Ao25 t275.length co25, .bool ((rd_T123 l1_0 x15_1).f2)] (by rfl) rfl rfl qb ?_
      with_reducible refine (wire_putTruth.calls (fun k_ => some k_ = (.slice Ao25 t275.length co25 : Value).ownBlock) (.slice Ao25 t275.length co25) t275 ((rd_T123 l1_0 x15_1).f2) t278 w0 _ ?side1 ?side2 A14.out).mono ?_
      (case side1 => repeat (first | (with_reducible first | exact HB.out | apply below_alloc | apply pw_below_drewN | apply below_drew1 | refine below_set ?_ GE257.out | refine below_set ?_ GE271.out) | exact HB.out))
      (case side2 => exact Kd.R_tight rfl HO277.out)
      rintro e w26 ⟨v279, rfl, ho0, hb, hkp⟩
      refine ⟨_, rfl, ?_⟩
      have n0_ := Aside0.mk (blk_kept (qc BK257.out) hkp (fun hs_ => (fun e_ => (Kd.R_ne HO277.out BK257.out (by decide)) e_) hs_))
      have n1_ := Aside0.mk (blk_kept (qc BK271.out) hkp (fun hs_ => (fun e_ => (Kd.R_ne HO277.out BK271.out (by decide)) e_) hs_))
      have n2_ := Aside0.mk (Kd.R_mono (ok' := fun k_ => (P0_ k_ ∨ w.heap.size ≤ k_)) ho0 (fun k_ hk_ => Or.elim hk_ (fun hs_ => (HO277.out.1 k_ (hs_).symm)) (fun hn_ => (.inr (Nat.le_trans (by first | exact HK.out.1 | exact (show Kept w _ (fun k_ => P0_ k_) from by repeat (first | (with_reducible first | exact HK.out | apply Kept.alloc | apply Kept.drewN | apply Kept.drew | refine Kept.setCell ?_ (.inr GW257.out) _ | refine Kept.setCell ?_ (.inr GW271.out) _) | exact HK.out)).1) hn_)))))
      have n3_ := Aside0.mk (Kept.then_ (S := (fun k_ => P0_ k_)) (by repeat (first | (with_reducible first | exact HK.out | apply Kept.alloc | apply Kept.drewN | apply Kept.drew | refine Kept.setCell ?_ (.inr GW257.out) _ | refine Kept.setCell ?_ (.inr GW271.out) _) | exact HK.out)) hkp (fun k_ hs_ => (fun e_ => (HO277.out.1 k_ e_.symm)) hs_))
      have n4_ := Aside0.mk (hb)
      clear BK257
      clear BK271
      clear HK
      clear HB
      clear HO277
      have BK257 := n0_
      have BK271 := n1_
      have HO280 := n2_
      have HK := n3_
      have HB := n4_
      clear n0_ n1_ n2_ n3_ n4_
      (try clear hb)
      (try clear hkp)
      (try clear ho0)
      obtain ⟨Ao27, co27, eo27⟩ := Kd.R_slice HO280.out
      (first | subst eo27 | (injection eo27 with f1_ f2_ f3_; have f4_ := f1_.symm; have f5_ := f3_.symm; clear f1_ f2_ f3_; subst f4_; subst f5_))
      refine nm_ hK ⟨(blk_cell BK271.out 0).trans rfl, (blk_cell BK271.out 1).trans rfl, (blk_cell BK271.out 2).trans rfl, (blk_cell BK271.out 3).trans rfl, (blk_cell BK271.out 4).trans rfl, (blk_cell BK271.out 5).trans rfl, (blk_cell BK271.out 6).trans rfl, (blk_cell BK271.out 7).trans rfl⟩ fun hHeld => ?_
      clear hK K
      refine on_ 12 (some 31) (fl 14 8191) fun K hK => ?_
      refine goes_ Try.func36 (by kernel_rfl) rfl #[.slice Ao27 t278.length co27, .agg #[.int .i64 ((rd_T123 l1_0 x15_1).f3.f0), .int .i64 ((rd_T123 l1_0 x15_1).f3.f1.f0), .int .i64 ((rd_T123 l1_0 x15_1).f3.f1.f1), .bool ((rd_T123 l1_0 x15_1).f3.f2), .bool ((rd_T123 l1_0 x15_1).f3.f3)]] (by rfl) rfl rfl qb ?_
      with_reducible refine (wire_putHead.calls k1 (fun k_ => some k_ = (.slice Ao27 t278.length co27 : Value).ownBlock) (.slice Ao27 t278.length co27) t278 ((rd_T123 l1_0 x15_1).f3.f0) ((rd_T123 l1_0 x15_1).f3.f1.f0) ((rd_T123 l1_0 x15_1).f3.f1.f1) ((rd_T123 l1_0 x15_1).f3.f2) ((rd_T123 l1_0 x15_1).f3.f3) t281 w0 _ ?side1 ?side2 A15.out).mono ?_
      (case side1 => repeat (first | (with_reducible first | exact HB.out | apply below_alloc | apply pw_below_drewN | apply below_drew1 | refine below_set ?_ GE257.out | refine below_set ?_ GE271.out) | exact HB.out))
      (case side2 => exact Kd.R_tight rfl HO280.out)
      rintro e w28 ⟨v282, rfl, ho0, hb, hkp⟩
      refine ⟨_, rfl, ?_⟩
      have n0_ := Aside0.mk (blk_kept (qc BK257.out) hkp (fun hs_ => (fun e_ => (Kd.R_ne HO280.out BK257.out (by decide)) e_) hs_))
      have n1_ := Aside0.mk (blk_kept (qc BK271.out) hkp (fun hs_ => (fun e_ => (Kd.R_ne HO280.out BK271.out (by decide)) e_) hs_))
      have n2_ := Aside0.mk (Kd.R_mono (ok' := fun k_ => (P0_ k_ ∨ w.heap.size ≤ k_)) ho0 (fun k_ hk_ => Or.elim hk_ (fun hs_ => (HO280.out.1 k_ (hs_).symm)) (fun hn_ => (.inr (Nat.le_trans (by first | exact HK.out.1 | exact (show Kept w _ (fun k_ => P0_ k_) from by repeat (first | (with_reducible first | exact HK.out | apply Kept.alloc | apply Kept.drewN | apply Kept.drew | refine Kept.setCell ?_ (.inr GW257.out) _ | refine Kept.setCell ?_ (.inr GW271.out) _) | exact HK.out)).1) hn_)))))
      have n3_ := Aside0.mk (Kept.then_ (S := (fun k_ => P0_ k_)) (by repeat (first | (with_reducible first | exact HK.out | apply Kept.alloc | apply Kept.drewN | apply Kept.drew | refine Kept.setCell ?_ (.inr GW257.out) _ | refine Kept.setCell ?_ (.inr GW271.out) _) | exact HK.out)) hkp (fun k_ hs_ => (fun e_ => (HO280.out.1 k_ e_.symm)) hs_))
      have n4_ := Aside0.mk (hb)
      clear BK257
      clear BK271
      clear HK
      clear HB
      clear HO280
      have BK257 := n0_
      have BK271 := n1_
      have HO283 := n2_
      have HK := n3_
      have HB := n4_
      clear n0_ n1_ n2_ n3_ n4_
      (try clear hb)
      (try clear hkp)
      (try clear ho0)
      refine nm_ hK ⟨(blk_cell BK271.out 0).trans rfl, (blk_cell BK271.out 1).trans rfl, (blk_cell BK271.out 2).trans rfl, (blk_cell BK271.out 3).trans rfl, (blk_cell BK271.out 4).trans rfl, (blk_cell BK271.out 5).trans rfl, (blk_cell BK271.out 6).trans rfl, (blk_cell BK271.out 7).trans rfl⟩ fun hHeld => ?_
      clear hK K
      refine pu_ 13 0 (fl 14 16383) ?_
      refine dn_ ?_
      try go_wp2
      go_roundg k1
      case measure => have := HK1.out; omega
      case rel => exact ⟨(t281), (wrap64 (x15_1 + 1)), qi, H', ⟨by have := HK1.out; omega⟩, ⟨by (with_reducible repeat (first | apply Kd.R_alloc | apply Kd.R_drewN | apply Kd.R_drew)); exact HO283.out⟩, ⟨by (with_reducible repeat (first | refine blk_drewN ?_ _ | refine blk_drew ?_ | refine blk_alloc ?_ _)); exact BK257.out⟩, ⟨by repeat (first | (with_reducible first | exact HK.out | apply Kept.alloc | apply Kept.drewN | apply Kept.drew | refine Kept.setCell ?_ (.inr GW257.out) _ | refine Kept.setCell ?_ (.inr GW271.out) _) | exact HK.out)⟩, ⟨by repeat (first | (with_reducible first | exact HB.out | apply below_alloc | apply pw_below_drewN | apply below_drew1 | refine below_set ?_ GE257.out | refine below_set ?_ GE271.out) | exact HB.out)⟩⟩
     ·rw [if_neg c11] at H
      exact absurd H (by simp)
    ·rw [if_neg c10] at H
     exact absurd H (by simp)
   ·rw [if_neg c9] at H
    have c9b0 : decide (x15_1 < (l1_0.length : Int)) = false := decide_eq_false c9
    clear c9
    replace H := Option.bind_eq_some_iff.mp H
    obtain ⟨t261, A290, H⟩ := H
    replace H : ((field_Put64.f k1 t261 a1_2).bind fun t264 => ((wire_putTruth.f t264 a1_3).bind fun t267 => (some t267))) = some r := H
    have A29 := Aside0.mk A290
    clear A290
    replace H := Option.bind_eq_some_iff.mp H
    obtain ⟨t264, A300, H⟩ := H
    replace H : ((wire_putTruth.f t264 a1_3).bind fun t267 => (some t267)) = some r := H
    have A30 := Aside0.mk A300
    clear A300
    replace H := Option.bind_eq_some_iff.mp H
    obtain ⟨t267, A310, H⟩ := H
    replace H : (some t267) = some r := H
    have A31 := Aside0.mk A310
    clear A310
    obtain rfl := Option.some.inj H
    try go_wp2
    have n0_ := Aside0.mk (Kd.R_drew HO_0.out)
    have n1_ := Aside0.mk (blk_drew BK257.out)
    have n2_ := Aside0.mk (Kept.drew HK.out)
    have n3_ := Aside0.mk (below_drew1 HB.out)
    clear HO_0
    clear BK257
    clear HK
    clear HB
    have HO_0 := n0_
    have BK257 := n1_
    have HK := n2_
    have HB := n3_
    clear n0_ n1_ n2_ n3_
    obtain ⟨Ao33, co33, eo33⟩ := Kd.R_slice HO_0.out
    (first | subst eo33 | (injection eo33 with f1_ f2_ f3_; have f4_ := f1_.symm; have f5_ := f3_.symm; clear f1_ f2_ f3_; subst f4_; subst f5_))
    refine start_ (n := 11) (S := fun w' => w'.cell? ⟨gb257, 0, none⟩ = some (.slice A1_0 l1_0.length c1_0) ∧ w'.cell? ⟨gb257, 1, none⟩ = some (.string a1_1) ∧ w'.cell? ⟨gb257, 2, none⟩ = some (.int .i64 a1_2) ∧ w'.cell? ⟨gb257, 3, none⟩ = some (.bool a1_3)) (ds := []) (fl 11 0) (by kernel_rfl) rfl rfl ⟨(blk_cell BK257.out 0).trans rfl, (blk_cell BK257.out 1).trans rfl, (blk_cell BK257.out 2).trans rfl, (blk_cell BK257.out 3).trans rfl⟩ (fun hHeld => ?_); refine with_tabW wire_putLines.tab7 wire_putLines.bits7 (fun HT_ HW_ => ?_)
    generalize wr.drew = w32 at HO_0 BK257 HK HB hHeld ⊢
    refine pu_ 0 33 (fl 11 1) ?_
    refine pu_ 1 34 (fl 11 3) ?_
    refine pu_ 4 37 (fl 11 19) ?_
    refine pu_ 7 40 (fl 11 147) ?_
    refine take_ (i := 2) (N := some 35) (v := ?_) (a' := ?_) (fl 11 151) rfl rfl (take_ofW HT_.out HW_.out (by kernel_rfl)) (fun _ _ _ h => h) (Or.inl ⟨by rfl, ?_⟩) hHeld ?_ ?_
    rotate_left
    ·rintro w' ⟨s0, s1, s2, s3⟩
     go_simp
     with_reducible rfl
    rotate_left
    ·simp only [Act.put, List.setIfInBounds_toArray, List.set_cons_zero, List.set_cons_succ, i64_w, i32_w]
     rfl
    refine take_ (i := 5) (N := some 38) (v := ?_) (a' := ?_) (fl 11 183) rfl rfl (take_ofW HT_.out HW_.out (by kernel_rfl)) (fun _ _ _ h => h) (Or.inl ⟨by rfl, ?_⟩) hHeld ?_ ?_
    rotate_left
    ·rintro w' ⟨s0, s1, s2, s3⟩
     go_simp
     with_reducible rfl
    rotate_left
    ·simp only [Act.put, List.setIfInBounds_toArray, List.set_cons_zero, List.set_cons_succ, i64_w, i32_w]
     rfl
    refine take_ (i := 8) (N := some 41) (v := ?_) (a' := ?_) (fl 11 439) rfl rfl (take_ofW HT_.out HW_.out (by kernel_rfl)) (fun _ _ _ h => h) (Or.inl ⟨by rfl, ?_⟩) hHeld ?_ ?_
    rotate_left
    ·rintro w' ⟨s0, s1, s2, s3⟩
     go_simp
     with_reducible rfl
    rotate_left
    ·simp only [Act.put, List.setIfInBounds_toArray, List.set_cons_zero, List.set_cons_succ, i64_w, i32_w]
     rfl
    refine on_ 3 (some 36) (fl 11 447) fun K hK => ?_
    refine goes_ Try.func34 (by kernel_rfl) rfl #[.slice Ao33 x0_1.length co33, .string a1_1] (by rfl) rfl rfl qb ?_
    with_reducible refine (field_PutText.calls k1 (fun k_ => some k_ = (.slice Ao33 x0_1.length co33 : Value).ownBlock) (.slice Ao33 x0_1.length co33) x0_1 a1_1 t261 w0 _ ?side1 ?side2 A29.out).mono ?_
    (case side1 => repeat (first | (with_reducible first | exact HB.out | apply below_alloc | apply pw_below_drewN | apply below_drew1 | refine below_set ?_ GE257.out) | exact HB.out))
    (case side2 => exact Kd.R_tight rfl HO_0.out)
    rintro e w34 ⟨v262, rfl, ho0, hb, hkp⟩
    refine ⟨_, rfl, ?_⟩
    have n0_ := Aside0.mk (blk_kept (qc BK257.out) hkp (fun hs_ => (fun e_ => (Kd.R_ne HO_0.out BK257.out (by decide)) e_) hs_))
    have n1_ := Aside0.mk (Kd.R_mono (ok' := fun k_ => (P0_ k_ ∨ w.heap.size ≤ k_)) ho0 (fun k_ hk_ => Or.elim hk_ (fun hs_ => (HO_0.out.1 k_ (hs_).symm)) (fun hn_ => (.inr (Nat.le_trans (qf GW257.out) hn_)))))
    have n2_ := Aside0.mk (Kept.then_ (S := (fun k_ => P0_ k_)) (qg GW257.out) hkp (fun k_ hs_ => (fun e_ => (HO_0.out.1 k_ e_.symm)) hs_))
    have n3_ := Aside0.mk (hb)
    clear BK257
    clear HK
    clear HB
    clear HO_0
    have BK257 := n0_
    have HO263 := n1_
    have HK := n2_
    have HB := n3_
    clear n0_ n1_ n2_ n3_
    (try clear hb)
    (try clear hkp)
    (try clear ho0)
    obtain ⟨Ao35, co35, eo35⟩ := Kd.R_slice HO263.out
    (first | subst eo35 | (injection eo35 with f1_ f2_ f3_; have f4_ := f1_.symm; have f5_ := f3_.symm; clear f1_ f2_ f3_; subst f4_; subst f5_))
    refine nm_ hK ⟨(blk_cell BK257.out 0).trans rfl, (blk_cell BK257.out 1).trans rfl, (blk_cell BK257.out 2).trans rfl, (blk_cell BK257.out 3).trans rfl⟩ fun hHeld => ?_
    clear hK K
    refine on_ 6 (some 39) (fl 11 511) fun K hK => ?_
    refine goes_ Try.func35 (by kernel_rfl) rfl #[.slice Ao35 t261.length co35, .int .i64 a1_2] (by rfl) rfl rfl qb ?_
    with_reducible refine (field_Put64.calls k1 (fun k_ => some k_ = (.slice Ao35 t261.length co35 : Value).ownBlock) (.slice Ao35 t261.length co35) t261 a1_2 t264 w0 _ ?side1 ?side2 A30.out).mono ?_
    (case side1 => repeat (first | (with_reducible first | exact HB.out | apply below_alloc | apply pw_below_drewN | apply below_drew1 | refine below_set ?_ GE257.out) | exact HB.out))
    (case side2 => exact Kd.R_tight rfl HO263.out)
    rintro e w36 ⟨v265, rfl, ho0, hb, hkp⟩
    refine ⟨_, rfl, ?_⟩
    have n0_ := Aside0.mk (blk_kept (qc BK257.out) hkp (fun hs_ => (fun e_ => (Kd.R_ne HO263.out BK257.out (by decide)) e_) hs_))
    have n1_ := Aside0.mk (Kd.R_mono (ok' := fun k_ => (P0_ k_ ∨ w.heap.size ≤ k_)) ho0 (fun k_ hk_ => Or.elim hk_ (fun hs_ => (HO263.out.1 k_ (hs_).symm)) (fun hn_ => (.inr (Nat.le_trans (qf GW257.out) hn_)))))
    have n2_ := Aside0.mk (Kept.then_ (S := (fun k_ => P0_ k_)) (qg GW257.out) hkp (fun k_ hs_ => (fun e_ => (HO263.out.1 k_ e_.symm)) hs_))
    have n3_ := Aside0.mk (hb)
    clear BK257
    clear HK
    clear HB
    clear HO263
    have BK257 := n0_
    have HO266 := n1_
    have HK := n2_
    have HB := n3_
    clear n0_ n1_ n2_ n3_
    (try clear hb)
    (try clear hkp)
    (try clear ho0)
    obtain ⟨Ao37, co37, eo37⟩ := Kd.R_slice HO266.out
    (first | subst eo37 | (injection eo37 with f1_ f2_ f3_; have f4_ := f1_.symm; have f5_ := f3_.symm; clear f1_ f2_ f3_; subst f4_; subst f5_))
    refine nm_ hK ⟨(blk_cell BK257.out 0).trans rfl, (blk_cell BK257.out 1).trans rfl, (blk_cell BK257.out 2).trans rfl, (blk_cell BK257.out 3).trans rfl⟩ fun hHeld => ?_
    clear hK K
    refine on_ 9 (some 42) (fl 11 1023) fun K hK => ?_
    refine goes_ Try.func39 (by kernel_rfl) rfl #[.slice Ao37 t264.length co37, .bool a1_3] (by rfl) rfl rfl qb ?_
    with_reducible refine (wire_putTruth.calls (fun k_ => some k_ = (.slice Ao37 t264.length co37 : Value).ownBlock) (.slice Ao37 t264.length co37) t264 a1_3 t267 w0 _ ?side1 ?side2 A31.out).mono ?_
    (case side1 => repeat (first | (with_reducible first | exact HB.out | apply below_alloc | apply pw_below_drewN | apply below_drew1 | refine below_set ?_ GE257.out) | exact HB.out))
    (case side2 => exact Kd.R_tight rfl HO266.out)
    rintro e w38 ⟨v268, rfl, ho0, hb, hkp⟩
    refine ⟨_, rfl, ?_⟩
    have n0_ := Aside0.mk (blk_kept (qc BK257.out) hkp (fun hs_ => (fun e_ => (Kd.R_ne HO266.out BK257.out (by decide)) e_) hs_))
    have n1_ := Aside0.mk (Kd.R_mono (ok' := fun k_ => (P0_ k_ ∨ w.heap.size ≤ k_)) ho0 (fun k_ hk_ => Or.elim hk_ (fun hs_ => (HO266.out.1 k_ (hs_).symm)) (fun hn_ => (.inr (Nat.le_trans (qf GW257.out) hn_)))))
    have n2_ := Aside0.mk (Kept.then_ (S := (fun k_ => P0_ k_)) (qg GW257.out) hkp (fun k_ hs_ => (fun e_ => (HO266.out.1 k_ e_.symm)) hs_))
    have n3_ := Aside0.mk (hb)
    clear BK257
    clear HK
    clear HB
    clear HO266
    have BK257 := n0_
    have HO269 := n1_
    have HK := n2_
    have HB := n3_
    clear n0_ n1_ n2_ n3_
    (try clear hb)
    (try clear hkp)
    (try clear ho0)
    refine nm_ hK ⟨(blk_cell BK257.out 0).trans rfl, (blk_cell BK257.out 1).trans rfl, (blk_cell BK257.out 2).trans rfl, (blk_cell BK257.out 3).trans rfl⟩ fun hHeld => ?_
    clear hK K
    refine pu_ 10 4 (fl 11 2047) ?_
    refine dn_ ?_
    try go_wp2
    go_ret
    exact ⟨_, by first | rfl | (simp [errW_none, errW_some] <;> rfl) | (simp [*, errW_none, errW_some] <;> rfl), by (with_reducible repeat (first | apply Kd.R_alloc | apply Kd.R_drewN | apply Kd.R_drew)); exact HO269.out, by repeat (first | (with_reducible first | exact HB.out | apply below_alloc | apply pw_below_drewN | apply below_drew1 | refine below_set ?_ GE257.out) | exact HB.out), by repeat (first | (with_reducible first | exact HK.out | apply Kept.alloc | apply Kept.drewN | apply Kept.drew | refine Kept.setCell ?_ (.inr GW257.out) _) | exact HK.out)⟩
end Go.Proofs.Ytmdgdndidfcapaa.QB
