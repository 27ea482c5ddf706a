import Derived.Test.YtmdgdndidfcapaaKQBx14
namespace Go.Proofs.Ytmdgdndidfcapaa.QB
open Go.RowKit Go.Proofs.YtmdgdndidfcapaaW.PrintWords Go.Proofs.YtmdgdndidfcapaaW.PrintLast Go.Proofs.YtmdgdndidfcapaaW.PrintMore
attribute [local go_sem] max2_int min2_int max_two min_two max_three min_three max_four min_four   -- for this text's walks alone
set_option linter.unusedVariables false
set_option linter.unusedSimpArgs false
mutual
def wire_may.j0 : Nat → Nat → Nat → Nat → Bool → Int → Int → Int → ByteArray → Int → Int → ByteArray → Int → Int → Int → Bool → Bool → ByteArray → List ByteArray → List ByteArray → List ByteArray → ByteArray → Bool → List (S123) → ByteArray → Int → Bool → List (S87) → List (S89) → Option (Bool)
 | 0, _, _, _, _, _, _, _, _, _, _, _, _, _, _, _, _, _, _, _, _, _, _, _, _, _, _, _, _ => none
 | k + 1, x3, x4, x5, x6, x207000, x207001, x207002, x207003, x207004, x207005, x207006, x207007, x207008, x207009, x207010, x207011, x207012, x207013, x207014, x207015, x207016, x207017, x207018, x207019, x207020, x207021, x207022, x207023 => if x6 = true then (some false) else ((wire_texts.f (([x207003, x207006, x207012, x207016, x207019] : List ByteArray))).bind fun t212 => (if t212 = true then ((wire_texts.f x207013).bind fun t213 => (if t213 = true then ((wire_texts.f x207014).bind fun t214 => (if t214 = true then ((wire_texts.f x207015).bind fun t215 => (wire_may.j1 k x3 x4 x5 (!t215) x207000 x207001 x207002 x207003 x207004 x207005 x207006 x207007 x207008 x207009 x207010 x207011 x207012 x207013 x207014 x207015 x207016 x207017 x207018 x207019 x207020 x207021 x207022 x207023)) else (wire_may.j1 k x3 x4 x5 true x207000 x207001 x207002 x207003 x207004 x207005 x207006 x207007 x207008 x207009 x207010 x207011 x207012 x207013 x207014 x207015 x207016 x207017 x207018 x207019 x207020 x207021 x207022 x207023))) else (wire_may.j1 k x3 x4 x5 true x207000 x207001 x207002 x207003 x207004 x207005 x207006 x207007 x207008 x207009 x207010 x207011 x207012 x207013 x207014 x207015 x207016 x207017 x207018 x207019 x207020 x207021 x207022 x207023))) else (wire_may.j1 k x3 x4 x5 true x207000 x207001 x207002 x207003 x207004 x207005 x207006 x207007 x207008 x207009 x207010 x207011 x207012 x207013 x207014 x207015 x207016 x207017 x207018 x207019 x207020 x207021 x207022 x207023)))
def wire_may.j1 : Nat → Nat → Nat → Nat → Bool → Int → Int → Int → ByteArray → Int → Int → ByteArray → Int → Int → Int → Bool → Bool → ByteArray → List ByteArray → List ByteArray → List ByteArray → ByteArray → Bool → List (S123) → ByteArray → Int → Bool → List (S87) → List (S89) → Option (Bool)
 | 0, _, _, _, _, _, _, _, _, _, _, _, _, _, _, _, _, _, _, _, _, _, _, _, _, _, _, _, _ => none
 | k + 1, x3, x4, x5, x28, x207000, x207001, x207002, x207003, x207004, x207005, x207006, x207007, x207008, x207009, x207010, x207011, x207012, x207013, x207014, x207015, x207016, x207017, x207018, x207019, x207020, x207021, x207022, x207023 => if x28 = true then (some false) else (if (x207018.length : Int) > 65535 then (wire_may.j2 k x4 x5 true x207000 x207001 x207002 x207003 x207004 x207005 x207006 x207007 x207008 x207009 x207010 x207011 x207012 x207013 x207014 x207015 x207016 x207017 x207018 x207019 x207020 x207021 x207022 x207023) else ((api_Line_82.f x207018 x3).bind fun t216 => (wire_may.j2 k x4 x5 t216 x207000 x207001 x207002 x207003 x207004 x207005 x207006 x207007 x207008 x207009 x207010 x207011 x207012 x207013 x207014 x207015 x207016 x207017 x207018 x207019 x207020 x207021 x207022 x207023)))
def wire_may.j2 : Nat → Nat → Nat → Bool → Int → Int → Int → ByteArray → Int → Int → ByteArray → Int → Int → Int → Bool → Bool → ByteArray → List ByteArray → List ByteArray → List ByteArray → ByteArray → Bool → List (S123) → ByteArray → Int → Bool → List (S87) → List (S89) → Option (Bool)
 | 0, _, _, _, _, _, _, _, _, _, _, _, _, _, _, _, _, _, _, _, _, _, _, _, _, _, _, _ => none
 | k + 1, x4, x5, x66, x207000, x207001, x207002, x207003, x207004, x207005, x207006, x207007, x207008, x207009, x207010, x207011, x207012, x207013, x207014, x207015, x207016, x207017, x207018, x207019, x207020, x207021, x207022, x207023 => if x66 = true then (some false) else (if (x207022.length : Int) ≤ 65535 then ((api_Upload_83.f x207022 x4).bind fun t217 => (if t217 = true then (some false) else (if (x207023.length : Int) ≤ 65535 then ((api_UploadPart_84.f x207023 x5).bind fun t218 => (some (!t218))) else (some false)))) else (some false))
end
def wire_may.f (k : Nat) (a0_0 : Int) (a0_1 : Int) (a0_2 : Int) (a0_3 : ByteArray) (a0_4 : Int) (a0_5 : Int) (a0_6 : ByteArray) (a0_7 : Int) (a0_8 : Int) (a0_9 : Int) (a0_10 : Bool) (a0_11 : Bool) (a0_12 : ByteArray) (l0_13 : List ByteArray) (l0_14 : List ByteArray) (l0_15 : List ByteArray) (a0_16 : ByteArray) (a0_17 : Bool) (l0_18 : List (S123)) (a0_19 : ByteArray) (a0_20 : Int) (a0_21 : Bool) (l0_22 : List (S87)) (l0_23 : List (S89)) : Option (Bool) := if a0_0 < 0 then (wire_may.j0 k 77 80 81 true a0_0 a0_1 a0_2 a0_3 a0_4 a0_5 a0_6 a0_7 a0_8 a0_9 a0_10 a0_11 a0_12 l0_13 l0_14 l0_15 a0_16 a0_17 l0_18 a0_19 a0_20 a0_21 l0_22 l0_23) else (if a0_0 > 20 then (wire_may.j0 k 77 80 81 true a0_0 a0_1 a0_2 a0_3 a0_4 a0_5 a0_6 a0_7 a0_8 a0_9 a0_10 a0_11 a0_12 l0_13 l0_14 l0_15 a0_16 a0_17 l0_18 a0_19 a0_20 a0_21 l0_22 l0_23) else ((tag_Check.f a0_4 a0_5).bind fun t207 => (if t207 = 0 then ((wire_heads.f a0_7 a0_8 a0_9 a0_10 a0_11).bind fun t208 => (wire_may.j0 k 77 80 81 (!t208) a0_0 a0_1 a0_2 a0_3 a0_4 a0_5 a0_6 a0_7 a0_8 a0_9 a0_10 a0_11 a0_12 l0_13 l0_14 l0_15 a0_16 a0_17 l0_18 a0_19 a0_20 a0_21 l0_22 l0_23)) else (wire_may.j0 k 77 80 81 true a0_0 a0_1 a0_2 a0_3 a0_4 a0_5 a0_6 a0_7 a0_8 a0_9 a0_10 a0_11 a0_12 l0_13 l0_14 l0_15 a0_16 a0_17 l0_18 a0_19 a0_20 a0_21 l0_22 l0_23))))
set_option maxHeartbeats 8000000 in
set_option maxRecDepth 100000 in
theorem wire_may.calls (k : Nat) (a0_0 : Int) (a0_1 : Int) (a0_2 : Int) (a0_3 : ByteArray) (a0_4 : Int) (a0_5 : Int) (a0_6 : ByteArray) (a0_7 : Int) (a0_8 : Int) (a0_9 : Int) (a0_10 : Bool) (a0_11 : Bool) (a0_12 : ByteArray) (A0_13 : Option Addr) (c0_13 : Nat) (l0_13 : List ByteArray) (A0_14 : Option Addr) (c0_14 : Nat) (l0_14 : List ByteArray) (A0_15 : Option Addr) (c0_15 : Nat) (l0_15 : List ByteArray) (a0_16 : ByteArray) (a0_17 : Bool) (A0_18 : Option Addr) (c0_18 : Nat) (l0_18 : List (S123)) (a0_19 : ByteArray) (a0_20 : Int) (a0_21 : Bool) (A0_22 : Option Addr) (c0_22 : Nat) (l0_22 : List (S87)) (A0_23 : Option Addr) (c0_23 : Nat) (l0_23 : List (S89)) (r : Bool) (w : World) (hr0_13 : Kd.C Kd.string w A0_13 l0_13.length l0_13) (hc0_13 : l0_13.length ≤ c0_13) (hr0_14 : Kd.C Kd.string w A0_14 l0_14.length l0_14) (hc0_14 : l0_14.length ≤ c0_14) (hr0_15 : Kd.C Kd.string w A0_15 l0_15.length l0_15) (hc0_15 : l0_15.length ≤ c0_15) (hr0_18 : Kd.C k123 w A0_18 l0_18.length l0_18) (hc0_18 : l0_18.length ≤ c0_18) (hr0_22 : Kd.C k87 w A0_22 l0_22.length l0_22) (hc0_22 : l0_22.length ≤ c0_22) (hr0_23 : Kd.C k89 w A0_23 l0_23.length l0_23) (hc0_23 : l0_23.length ≤ c0_23) (h : wire_may.f k a0_0 a0_1 a0_2 a0_3 a0_4 a0_5 a0_6 a0_7 a0_8 a0_9 a0_10 a0_11 a0_12 l0_13 l0_14 l0_15 a0_16 a0_17 l0_18 a0_19 a0_20 a0_21 l0_22 l0_23 = some r) :
  Calls Try.prog 32 #[.agg #[.int .i64 a0_0, .int .i64 a0_1, .int .i64 a0_2, .string a0_3, .int .i64 a0_4, .int .i64 a0_5, .string a0_6, .int .i64 a0_7, .int .i64 a0_8, .int .i64 a0_9, .bool a0_10, .bool a0_11, .string a0_12, .slice A0_13 l0_13.length c0_13, .slice A0_14 l0_14.length c0_14, .slice A0_15 l0_15.length c0_15, .string a0_16, .bool a0_17, .slice A0_18 l0_18.length c0_18, .string a0_19, .int .i64 a0_20, .bool a0_21, .slice A0_22 l0_22.length c0_22, .slice A0_23 l0_23.length c0_23]] w fun e w' => e = .returned (.bool r) ∧ Below w.heap.size w w' := by
 have hu54 := Try.underlying54
 have hu25 := Try.underlying25
 have hu42 := Try.underlying42
 have HR0_13 := Aside0.mk hr0_13
 have HC0_13 := Aside0.mk hc0_13
 clear hr0_13 hc0_13
 have HR0_14 := Aside0.mk hr0_14
 have HC0_14 := Aside0.mk hc0_14
 clear hr0_14 hc0_14
 have HR0_15 := Aside0.mk hr0_15
 have HC0_15 := Aside0.mk hc0_15
 clear hr0_15 hc0_15
 have HR0_18 := Aside0.mk hr0_18
 have HC0_18 := Aside0.mk hc0_18
 clear hr0_18 hc0_18
 have HR0_22 := Aside0.mk hr0_22
 have HC0_22 := Aside0.mk hc0_22
 clear hr0_22 hc0_22
 have HR0_23 := Aside0.mk hr0_23
 have HC0_23 := Aside0.mk hc0_23
 clear hr0_23 hc0_23
 have HB := Aside0.mk (Below.refl w.heap.size w)
 have H : (if a0_0 < 0 then (wire_may.j0 k 77 80 81 true a0_0 a0_1 a0_2 a0_3 a0_4 a0_5 a0_6 a0_7 a0_8 a0_9 a0_10 a0_11 a0_12 l0_13 l0_14 l0_15 a0_16 a0_17 l0_18 a0_19 a0_20 a0_21 l0_22 l0_23) else (if a0_0 > 20 then (wire_may.j0 k 77 80 81 true a0_0 a0_1 a0_2 a0_3 a0_4 a0_5 a0_6 a0_7 a0_8 a0_9 a0_10 a0_11 a0_12 l0_13 l0_14 l0_15 a0_16 a0_17 l0_18 a0_19 a0_20 a0_21 l0_22 l0_23) else ((tag_Check.f a0_4 a0_5).bind fun t207 => (if t207 = 0 then ((wire_heads.f a0_7 a0_8 a0_9 a0_10 a0_11).bind fun t208 => (wire_may.j0 k 77 80 81 (!t208) a0_0 a0_1 a0_2 a0_3 a0_4 a0_5 a0_6 a0_7 a0_8 a0_9 a0_10 a0_11 a0_12 l0_13 l0_14 l0_15 a0_16 a0_17 l0_18 a0_19 a0_20 a0_21 l0_22 l0_23)) else (wire_may.j0 k 77 80 81 true a0_0 a0_1 a0_2 a0_3 a0_4 a0_5 a0_6 a0_7 a0_8 a0_9 a0_10 a0_11 a0_12 l0_13 l0_14 l0_15 a0_16 a0_17 l0_18 a0_19 a0_20 a0_21 l0_22 l0_23))))) = some r := h
 clear h
 have HC2 := Aside0.mk H
 clear H
 go_enter Try.func32, Try.ntmps32
 go_upto_region 4 with (first | ((with_reducible refine gate_dst (N := 1) rfl ?_); (try (refine gate_guard (by rfl) ?_; dsimp only)); refine box_event ?hg (N := 1) ?hd (cs := #[.int .i64 a0_0, .int .i64 a0_1, .int .i64 a0_2, .string a0_3, .int .i64 a0_4, .int .i64 a0_5, .string a0_6, .int .i64 a0_7, .int .i64 a0_8, .int .i64 a0_9, .bool a0_10, .bool a0_11, .string a0_12, .slice A0_13 l0_13.length c0_13, .slice A0_14 l0_14.length c0_14, .slice A0_15 l0_15.length c0_15, .string a0_16, .bool a0_17, .slice A0_18 l0_18.length c0_18, .string a0_19, .int .i64 a0_20, .bool a0_21, .slice A0_22 l0_22.length c0_22, .slice A0_23 l0_23.length c0_23]) (t := 54) ?hr ?_; (case hd => rfl); (case hg => rfl); (case hr => first | (go_simp; done) | (go_simp; rfl)); intro gb206 hg w3 hbox hb; have n0_ := Aside0.mk (below_step qa hb); have n1_ := Aside0.mk (hbox); have n2_ := Aside0.mk ((by rw [hg]; exact (below_size qa) : w.heap.size ≤ gb206)); have n3_ := Aside0.mk ((by rw [hg]; exact (below_size qa) : w.heap.size ≤ gb206)); clear HB; have HB := n0_; have BK206 := n1_; have GW206 := n2_; have GE206 := n3_; clear n0_ n1_ n2_ n3_; clear hb hbox hg))
 (try simp only [Act.put, List.setIfInBounds_toArray, List.set_cons_zero, List.set_cons_succ])
 go_cut [6] (fun v6 wc => ∃ (kq : Nat) (x6_1 : Bool), v6 = .bool x6_1 ∧ Aside0 (wire_may.j0 kq 77 80 81 x6_1 a0_0 a0_1 a0_2 a0_3 a0_4 a0_5 a0_6 a0_7 a0_8 a0_9 a0_10 a0_11 a0_12 l0_13 l0_14 l0_15 a0_16 a0_17 l0_18 a0_19 a0_20 a0_21 l0_22 l0_23 = some r) ∧ Aside0 (kq ≤ k) ∧ Aside0 (wc.heap[gb206]? = some (.cells #[.int .i64 a0_0, .int .i64 a0_1, .int .i64 a0_2, .string a0_3, .int .i64 a0_4, .int .i64 a0_5, .string a0_6, .int .i64 a0_7, .int .i64 a0_8, .int .i64 a0_9, .bool a0_10, .bool a0_11, .string a0_12, (.slice A0_13 l0_13.length c0_13), (.slice A0_14 l0_14.length c0_14), (.slice A0_15 l0_15.length c0_15), .string a0_16, .bool a0_17, (.slice A0_18 l0_18.length c0_18), .string a0_19, .int .i64 a0_20, .bool a0_21, (.slice A0_22 l0_22.length c0_22), (.slice A0_23 l0_23.length c0_23)] 54 (0, 0))) ∧ Aside0 (Below w.heap.size w wc))
 case first =>
  have H := HC2.out
  clear HC2
  by_cases c4 : a0_0 < 0
  ·rw [if_pos c4] at H
   have c4b0 : decide (a0_0 < 0) = true := decide_eq_true c4
   clear c4
   (first | rw [c4b0] | (simp only [i64_w, i32_w]; rw [c4b0]) | skip)
   have H' := Aside0.mk H
   clear H
   obtain ⟨hcz5_0, hcz5_1, hcz5_2, hcz5_3, hcz5_4, hcz5_5, hcz5_6, hcz5_7, hcz5_8, hcz5_9, hcz5_10, hcz5_11, hcz5_12, hcz5_13, hcz5_14, hcz5_15, hcz5_16, hcz5_17, hcz5_18, hcz5_19, hcz5_20, hcz5_21, hcz5_22, hcz5_23⟩ := cells_24 BK206.out
   have hfz5_0 := blk_frozen BK206.out
   go_wp2
   go_meet
   case rel => exact ⟨_, (true), qi, H', ⟨by first | omega | exact Nat.le_refl _⟩, ⟨by (with_reducible repeat (first | refine blk_drewN ?_ _ | refine blk_drew ?_ | refine blk_alloc ?_ _)); exact BK206.out⟩, ⟨by repeat (first | (with_reducible first | exact HB.out | apply below_alloc | apply pw_below_drewN | apply below_drew1 | refine below_set ?_ GE206.out) | exact HB.out)⟩⟩
  ·rw [if_neg c4] at H
   have c4b0 : decide (a0_0 < 0) = false := decide_eq_false c4
   clear c4
   (first | rw [c4b0] | (simp only [i64_w, i32_w]; rw [c4b0]) | skip)
   by_cases c6 : a0_0 > 20
   ·rw [if_pos c6] at H
    have c6b0 : decide (20 < a0_0) = true := decide_eq_true c6
    clear c6
    have H' := Aside0.mk H
    clear H
    obtain ⟨hcz7_0, hcz7_1, hcz7_2, hcz7_3, hcz7_4, hcz7_5, hcz7_6, hcz7_7, hcz7_8, hcz7_9, hcz7_10, hcz7_11, hcz7_12, hcz7_13, hcz7_14, hcz7_15, hcz7_16, hcz7_17, hcz7_18, hcz7_19, hcz7_20, hcz7_21, hcz7_22, hcz7_23⟩ := cells_24 BK206.out
    have hfz7_0 := blk_frozen BK206.out
    go_wp2
    go_meet
    case rel => exact ⟨_, (true), qi, H', ⟨by first | omega | exact Nat.le_refl _⟩, ⟨by (with_reducible repeat (first | refine blk_drewN ?_ _ | refine blk_drew ?_ | refine blk_alloc ?_ _)); exact BK206.out⟩, ⟨by repeat (first | (with_reducible first | exact HB.out | apply below_alloc | apply pw_below_drewN | apply below_drew1 | refine below_set ?_ GE206.out) | exact HB.out)⟩⟩
   ·rw [if_neg c6] at H
    have c6b0 : decide (20 < a0_0) = false := decide_eq_false c6
    clear c6
    replace H := Option.bind_eq_some_iff.mp H
    obtain ⟨t207, A80, H⟩ := H
    replace H : (if t207 = 0 then ((wire_heads.f a0_7 a0_8 a0_9 a0_10 a0_11).bind fun t208 => (wire_may.j0 k 77 80 81 (!t208) a0_0 a0_1 a0_2 a0_3 a0_4 a0_5 a0_6 a0_7 a0_8 a0_9 a0_10 a0_11 a0_12 l0_13 l0_14 l0_15 a0_16 a0_17 l0_18 a0_19 a0_20 a0_21 l0_22 l0_23)) else (wire_may.j0 k 77 80 81 true a0_0 a0_1 a0_2 a0_3 a0_4 a0_5 a0_6 a0_7 a0_8 a0_9 a0_10 a0_11 a0_12 l0_13 l0_14 l0_15 a0_16 a0_17 l0_18 a0_19 a0_20 a0_21 l0_22 l0_23)) = some r := H
    have A8 := Aside0.mk A80
    clear A80
    by_cases c9 : t207 = 0
    ·rw [if_pos c9] at H
     have c9b0 : (t207 == 0) = true := beq_iff_eq.mpr c9
     have c9b1 : (t207 != 0) = false := bne_eq_false_iff_eq.mpr c9
     clear c9
     replace H := Option.bind_eq_some_iff.mp H
     obtain ⟨t208, A100, H⟩ := H
     replace H : (wire_may.j0 k 77 80 81 (!t208) a0_0 a0_1 a0_2 a0_3 a0_4 a0_5 a0_6 a0_7 a0_8 a0_9 a0_10 a0_11 a0_12 l0_13 l0_14 l0_15 a0_16 a0_17 l0_18 a0_19 a0_20 a0_21 l0_22 l0_23) = some r := H
     have A10 := Aside0.mk A100
     clear A100
     have H' := Aside0.mk H
     clear H
     obtain ⟨hcz11_0, hcz11_1, hcz11_2, hcz11_3, hcz11_4, hcz11_5, hcz11_6, hcz11_7, hcz11_8, hcz11_9, hcz11_10, hcz11_11, hcz11_12, hcz11_13, hcz11_14, hcz11_15, hcz11_16, hcz11_17, hcz11_18, hcz11_19, hcz11_20, hcz11_21, hcz11_22, hcz11_23⟩ := cells_24 BK206.out
     have hfz11_0 := blk_frozen BK206.out
     go_wp2_with (first | (go_at_call 76; (with_reducible refine (tag_Check.calls a0_4 a0_5 t207 _ A8.out).mono ?_); rintro e w12 ⟨rfl, hb⟩; have n0_ := Aside0.mk (blk_below (g := gb206) (o := .cells #[.int .i64 a0_0, .int .i64 a0_1, .int .i64 a0_2, .string a0_3, .int .i64 a0_4, .int .i64 a0_5, .string a0_6, .int .i64 a0_7, .int .i64 a0_8, .int .i64 a0_9, .bool a0_10, .bool a0_11, .string a0_12, .slice A0_13 l0_13.length c0_13, .slice A0_14 l0_14.length c0_14, .slice A0_15 l0_15.length c0_15, .string a0_16, .bool a0_17, .slice A0_18 l0_18.length c0_18, .string a0_19, .int .i64 a0_20, .bool a0_21, .slice A0_22 l0_22.length c0_22, .slice A0_23 l0_23.length c0_23] 54 (0, 0)) (qc BK206.out) hb); have n1_ := Aside0.mk (below_step (qd GE206.out) hb); clear BK206; clear HB; have BK206 := n0_; have HB := n1_; clear n0_ n1_; (try clear hb); (try clear hb2); (try clear hk); (try clear hi); have hcz13_0 : w12.cell? ⟨gb206, 0, none⟩ = some (.int .i64 a0_0) := (blk_cell BK206.out 0).trans rfl; have hcz13_1 : w12.cell? ⟨gb206, 1, none⟩ = some (.int .i64 a0_1) := (blk_cell BK206.out 1).trans rfl; have hcz13_2 : w12.cell? ⟨gb206, 2, none⟩ = some (.int .i64 a0_2) := (blk_cell BK206.out 2).trans rfl; have hcz13_3 : w12.cell? ⟨gb206, 3, none⟩ = some (.string a0_3) := (blk_cell BK206.out 3).trans rfl; have hcz13_4 : w12.cell? ⟨gb206, 4, none⟩ = some (.int .i64 a0_4) := (blk_cell BK206.out 4).trans rfl; have hcz13_5 : w12.cell? ⟨gb206, 5, none⟩ = some (.int .i64 a0_5) := (blk_cell BK206.out 5).trans rfl; have hcz13_6 : w12.cell? ⟨gb206, 6, none⟩ = some (.string a0_6) := (blk_cell BK206.out 6).trans rfl; have hcz13_7 : w12.cell? ⟨gb206, 7, none⟩ = some (.int .i64 a0_7) := (blk_cell BK206.out 7).trans rfl; have hcz13_8 : w12.cell? ⟨gb206, 8, none⟩ = some (.int .i64 a0_8) := (blk_cell BK206.out 8).trans rfl; have hcz13_9 : w12.cell? ⟨gb206, 9, none⟩ = some (.int .i64 a0_9) := (blk_cell BK206.out 9).trans rfl; have hcz13_10 : w12.cell? ⟨gb206, 10, none⟩ = some (.bool a0_10) := (blk_cell BK206.out 10).trans rfl; have hcz13_11 : w12.cell? ⟨gb206, 11, none⟩ = some (.bool a0_11) := (blk_cell BK206.out 11).trans rfl; have hcz13_12 : w12.cell? ⟨gb206, 12, none⟩ = some (.string a0_12) := (blk_cell BK206.out 12).trans rfl; have hcz13_13 : w12.cell? ⟨gb206, 13, none⟩ = some (.slice A0_13 l0_13.length c0_13) := (blk_cell BK206.out 13).trans rfl; have hcz13_14 : w12.cell? ⟨gb206, 14, none⟩ = some (.slice A0_14 l0_14.length c0_14) := (blk_cell BK206.out 14).trans rfl; have hcz13_15 : w12.cell? ⟨gb206, 15, none⟩ = some (.slice A0_15 l0_15.length c0_15) := (blk_cell BK206.out 15).trans rfl; have hcz13_16 : w12.cell? ⟨gb206, 16, none⟩ = some (.string a0_16) := (blk_cell BK206.out 16).trans rfl; have hcz13_17 : w12.cell? ⟨gb206, 17, none⟩ = some (.bool a0_17) := (blk_cell BK206.out 17).trans rfl; have hcz13_18 : w12.cell? ⟨gb206, 18, none⟩ = some (.slice A0_18 l0_18.length c0_18) := (blk_cell BK206.out 18).trans rfl; have hcz13_19 : w12.cell? ⟨gb206, 19, none⟩ = some (.string a0_19) := (blk_cell BK206.out 19).trans rfl; have hcz13_20 : w12.cell? ⟨gb206, 20, none⟩ = some (.int .i64 a0_20) := (blk_cell BK206.out 20).trans rfl; have hcz13_21 : w12.cell? ⟨gb206, 21, none⟩ = some (.bool a0_21) := (blk_cell BK206.out 21).trans rfl; have hcz13_22 : w12.cell? ⟨gb206, 22, none⟩ = some (.slice A0_22 l0_22.length c0_22) := (blk_cell BK206.out 22).trans rfl; have hcz13_23 : w12.cell? ⟨gb206, 23, none⟩ = some (.slice A0_23 l0_23.length c0_23) := (blk_cell BK206.out 23).trans rfl; have hfz13_0 := blk_frozen BK206.out 0; have hfz13_1 := blk_frozen BK206.out 1; have hfz13_2 := blk_frozen BK206.out 2; have hfz13_3 := blk_frozen BK206.out 3; have hfz13_4 := blk_frozen BK206.out 4; have hfz13_5 := blk_frozen BK206.out 5; have hfz13_6 := blk_frozen BK206.out 6; have hfz13_7 := blk_frozen BK206.out 7; have hfz13_8 := blk_frozen BK206.out 8; have hfz13_9 := blk_frozen BK206.out 9; have hfz13_10 := blk_frozen BK206.out 10; have hfz13_11 := blk_frozen BK206.out 11; have hfz13_12 := blk_frozen BK206.out 12; have hfz13_13 := blk_frozen BK206.out 13; have hfz13_14 := blk_frozen BK206.out 14; have hfz13_15 := blk_frozen BK206.out 15; have hfz13_16 := blk_frozen BK206.out 16; have hfz13_17 := blk_frozen BK206.out 17; have hfz13_18 := blk_frozen BK206.out 18; have hfz13_19 := blk_frozen BK206.out 19; have hfz13_20 := blk_frozen BK206.out 20; have hfz13_21 := blk_frozen BK206.out 21; have hfz13_22 := blk_frozen BK206.out 22; have hfz13_23 := blk_frozen BK206.out 23) | (go_at_call 79; (with_reducible refine (wire_heads.calls a0_7 a0_8 a0_9 a0_10 a0_11 t208 _ A10.out).mono ?_); rintro e w14 ⟨rfl, hb⟩; have n0_ := Aside0.mk (blk_below (g := gb206) (o := .cells #[.int .i64 a0_0, .int .i64 a0_1, .int .i64 a0_2, .string a0_3, .int .i64 a0_4, .int .i64 a0_5, .string a0_6, .int .i64 a0_7, .int .i64 a0_8, .int .i64 a0_9, .bool a0_10, .bool a0_11, .string a0_12, .slice A0_13 l0_13.length c0_13, .slice A0_14 l0_14.length c0_14, .slice A0_15 l0_15.length c0_15, .string a0_16, .bool a0_17, .slice A0_18 l0_18.length c0_18, .string a0_19, .int .i64 a0_20, .bool a0_21, .slice A0_22 l0_22.length c0_22, .slice A0_23 l0_23.length c0_23] 54 (0, 0)) (qc BK206.out) hb); have n1_ := Aside0.mk (below_step (qd GE206.out) hb); clear BK206; clear HB; have BK206 := n0_; have HB := n1_; clear n0_ n1_; (try clear hb); (try clear hb2); (try clear hk); (try clear hi)))
     go_meet
     case rel => exact ⟨_, (!t208), qi, H', ⟨by first | omega | exact Nat.le_refl _⟩, ⟨by (with_reducible repeat (first | refine blk_drewN ?_ _ | refine blk_drew ?_ | refine blk_alloc ?_ _)); exact BK206.out⟩, ⟨by repeat (first | (with_reducible first | exact HB.out | apply below_alloc | apply pw_below_drewN | apply below_drew1 | refine below_set ?_ GE206.out) | exact HB.out)⟩⟩
    ·rw [if_neg c9] at H
     have c9b0 : (t207 == 0) = false := beq_eq_false_iff_ne.mpr c9
     have c9b1 : (t207 != 0) = true := bne_iff_ne.mpr c9
     have H' := Aside0.mk H
     clear H
     obtain ⟨hcz15_0, hcz15_1, hcz15_2, hcz15_3, hcz15_4, hcz15_5, hcz15_6, hcz15_7, hcz15_8, hcz15_9, hcz15_10, hcz15_11, hcz15_12, hcz15_13, hcz15_14, hcz15_15, hcz15_16, hcz15_17, hcz15_18, hcz15_19, hcz15_20, hcz15_21, hcz15_22, hcz15_23⟩ := cells_24 BK206.out
     have hfz15_0 := blk_frozen BK206.out
     go_wp2_with (first | (go_at_call 76; (with_reducible refine (tag_Check.calls a0_4 a0_5 t207 _ A8.out).mono ?_); rintro e w16 ⟨rfl, hb⟩; have n0_ := Aside0.mk (blk_below (g := gb206) (o := .cells #[.int .i64 a0_0, .int .i64 a0_1, .int .i64 a0_2, .string a0_3, .int .i64 a0_4, .int .i64 a0_5, .string a0_6, .int .i64 a0_7, .int .i64 a0_8, .int .i64 a0_9, .bool a0_10, .bool a0_11, .string a0_12, .slice A0_13 l0_13.length c0_13, .slice A0_14 l0_14.length c0_14, .slice A0_15 l0_15.length c0_15, .string a0_16, .bool a0_17, .slice A0_18 l0_18.length c0_18, .string a0_19, .int .i64 a0_20, .bool a0_21, .slice A0_22 l0_22.length c0_22, .slice A0_23 l0_23.length c0_23] 54 (0, 0)) (qc BK206.out) hb); have n1_ := Aside0.mk (below_step (qd GE206.out) hb); clear BK206; clear HB; have BK206 := n0_; have HB := n1_; clear n0_ n1_; (try clear hb); (try clear hb2); (try clear hk); (try clear hi)))
     go_meet
     case rel => exact ⟨_, (true), qi, H', ⟨by first | omega | exact Nat.le_refl _⟩, ⟨by (with_reducible repeat (first | refine blk_drewN ?_ _ | refine blk_drew ?_ | refine blk_alloc ?_ _)); exact BK206.out⟩, ⟨by repeat (first | (with_reducible first | exact HB.out | apply below_alloc | apply pw_below_drewN | apply below_drew1 | refine below_set ?_ GE206.out) | exact HB.out)⟩⟩
 case rest =>
  clear HC2
  try clear p2
  try clear c3
  try clear c4
  try clear c4b0
  try clear c6
  try clear c6b0
  try clear c9
  try clear c9b0
  try clear c9b1
  try clear hcz11_0 hcz11_1 hcz11_2 hcz11_3 hcz11_4 hcz11_5 hcz11_6 hcz11_7 hcz11_8 hcz11_9 hcz11_10 hcz11_11 hcz11_12 hcz11_13 hcz11_14 hcz11_15 hcz11_16 hcz11_17 hcz11_18 hcz11_19 hcz11_20 hcz11_21 hcz11_22 hcz11_23
  try clear hcz13_0 hcz13_1 hcz13_2 hcz13_3 hcz13_4 hcz13_5 hcz13_6 hcz13_7 hcz13_8 hcz13_9 hcz13_10 hcz13_11 hcz13_12 hcz13_13 hcz13_14 hcz13_15 hcz13_16 hcz13_17 hcz13_18 hcz13_19 hcz13_20 hcz13_21 hcz13_22 hcz13_23
  try clear hcz15_0 hcz15_1 hcz15_2 hcz15_3 hcz15_4 hcz15_5 hcz15_6 hcz15_7 hcz15_8 hcz15_9 hcz15_10 hcz15_11 hcz15_12 hcz15_13 hcz15_14 hcz15_15 hcz15_16 hcz15_17 hcz15_18 hcz15_19 hcz15_20 hcz15_21 hcz15_22 hcz15_23
  try clear hcz5_0 hcz5_1 hcz5_2 hcz5_3 hcz5_4 hcz5_5 hcz5_6 hcz5_7 hcz5_8 hcz5_9 hcz5_10 hcz5_11 hcz5_12 hcz5_13 hcz5_14 hcz5_15 hcz5_16 hcz5_17 hcz5_18 hcz5_19 hcz5_20 hcz5_21 hcz5_22 hcz5_23
  try clear hcz7_0 hcz7_1 hcz7_2 hcz7_3 hcz7_4 hcz7_5 hcz7_6 hcz7_7 hcz7_8 hcz7_9 hcz7_10 hcz7_11 hcz7_12 hcz7_13 hcz7_14 hcz7_15 hcz7_16 hcz7_17 hcz7_18 hcz7_19 hcz7_20 hcz7_21 hcz7_22 hcz7_23
  try clear hfz11_0
  try clear hfz13_0
  try clear hfz15_0
  try clear hfz5_0
  try clear hfz7_0
  obtain ⟨kq, x6_1, rfl, HA, HJ1, BK206, HB⟩ := hcut
  cases kq with
  | zero => exact absurd HA.out (by simp [wire_may.j0])
  | succ kj1 =>
   have H := HA.out
   clear HA
   simp only [wire_may.j0] at H
   by_cases c17 : x6_1 = true
   ·subst c17
    have H1 : (some false) = some r := by rw [if_pos rfl] at H; exact H
    clear H
    have H := H1
    clear H1
    obtain rfl := Option.some.inj H
    go_wp2
    go_ret
    exact ⟨by first | rfl | (simp [errW_none, errW_some] <;> rfl) | (simp [*, errW_none, errW_some] <;> rfl), by repeat (first | (with_reducible first | exact HB.out | apply below_alloc | apply pw_below_drewN | apply below_drew1 | refine below_set ?_ GE206.out) | exact HB.out)⟩
   ·replace c17 := Bool.eq_false_iff.mpr c17
    subst c17
    have H1 : ((wire_texts.f (([a0_3, a0_6, a0_12, a0_16, a0_19] : List ByteArray))).bind fun t212 => (if t212 = true then ((wire_texts.f l0_13).bind fun t213 => (if t213 = true then ((wire_texts.f l0_14).bind fun t214 => (if t214 = true then ((wire_texts.f l0_15).bind fun t215 => (wire_may.j1 kj1 77 80 81 (!t215) a0_0 a0_1 a0_2 a0_3 a0_4 a0_5 a0_6 a0_7 a0_8 a0_9 a0_10 a0_11 a0_12 l0_13 l0_14 l0_15 a0_16 a0_17 l0_18 a0_19 a0_20 a0_21 l0_22 l0_23)) else (wire_may.j1 kj1 77 80 81 true a0_0 a0_1 a0_2 a0_3 a0_4 a0_5 a0_6 a0_7 a0_8 a0_9 a0_10 a0_11 a0_12 l0_13 l0_14 l0_15 a0_16 a0_17 l0_18 a0_19 a0_20 a0_21 l0_22 l0_23))) else (wire_may.j1 kj1 77 80 81 true a0_0 a0_1 a0_2 a0_3 a0_4 a0_5 a0_6 a0_7 a0_8 a0_9 a0_10 a0_11 a0_12 l0_13 l0_14 l0_15 a0_16 a0_17 l0_18 a0_19 a0_20 a0_21 l0_22 l0_23))) else (wire_may.j1 kj1 77 80 81 true a0_0 a0_1 a0_2 a0_3 a0_4 a0_5 a0_6 a0_7 a0_8 a0_9 a0_10 a0_11 a0_12 l0_13 l0_14 l0_15 a0_16 a0_17 l0_18 a0_19 a0_20 a0_21 l0_22 l0_23))) = some r := by rw [if_neg (show ¬ (false = true) by decide)] at H; exact H
    clear H
    have H := H1
    clear H1
    have HC18 := Aside0.mk H
    clear H
    go_upto_region 6 with (fail)
    go_cut [28] (fun v28 wc => ∃ (kq : Nat) (x28_17 : Bool), v28 = .bool x28_17 ∧ Aside0 (wire_may.j1 kq 77 80 81 x28_17 a0_0 a0_1 a0_2 a0_3 a0_4 a0_5 a0_6 a0_7 a0_8 a0_9 a0_10 a0_11 a0_12 l0_13 l0_14 l0_15 a0_16 a0_17 l0_18 a0_19 a0_20 a0_21 l0_22 l0_23 = some r) ∧ Aside0 (kq ≤ kj1) ∧ Aside0 (wc.heap[gb206]? = some (.cells #[.int .i64 a0_0, .int .i64 a0_1, .int .i64 a0_2, .string a0_3, .int .i64 a0_4, .int .i64 a0_5, .string a0_6, .int .i64 a0_7, .int .i64 a0_8, .int .i64 a0_9, .bool a0_10, .bool a0_11, .string a0_12, (.slice A0_13 l0_13.length c0_13), (.slice A0_14 l0_14.length c0_14), (.slice A0_15 l0_15.length c0_15), .string a0_16, .bool a0_17, (.slice A0_18 l0_18.length c0_18), .string a0_19, .int .i64 a0_20, .bool a0_21, (.slice A0_22 l0_22.length c0_22), (.slice A0_23 l0_23.length c0_23)] 54 (0, 0))) ∧ Aside0 (Below w.heap.size w wc))
    case first =>
     have H := HC18.out
     clear HC18
     obtain ⟨y209, hy209⟩ : ∃ y_ : List ByteArray, y_ = (([a0_3, a0_6, a0_12, a0_16, a0_19] : List ByteArray)) := ⟨_, rfl⟩
     replace H : ((wire_texts.f y209).bind fun t212 => (if t212 = true then ((wire_texts.f l0_13).bind fun t213 => (if t213 = true then ((wire_texts.f l0_14).bind fun t214 => (if t214 = true then ((wire_texts.f l0_15).bind fun t215 => (wire_may.j1 kj1 77 80 81 (!t215) a0_0 a0_1 a0_2 a0_3 a0_4 a0_5 a0_6 a0_7 a0_8 a0_9 a0_10 a0_11 a0_12 l0_13 l0_14 l0_15 a0_16 a0_17 l0_18 a0_19 a0_20 a0_21 l0_22 l0_23)) else (wire_may.j1 kj1 77 80 81 true a0_0 a0_1 a0_2 a0_3 a0_4 a0_5 a0_6 a0_7 a0_8 a0_9 a0_10 a0_11 a0_12 l0_13 l0_14 l0_15 a0_16 a0_17 l0_18 a0_19 a0_20 a0_21 l0_22 l0_23))) else (wire_may.j1 kj1 77 80 81 true a0_0 a0_1 a0_2 a0_3 a0_4 a0_5 a0_6 a0_7 a0_8 a0_9 a0_10 a0_11 a0_12 l0_13 l0_14 l0_15 a0_16 a0_17 l0_18 a0_19 a0_20 a0_21 l0_22 l0_23))) else (wire_may.j1 kj1 77 80 81 true a0_0 a0_1 a0_2 a0_3 a0_4 a0_5 a0_6 a0_7 a0_8 a0_9 a0_10 a0_11 a0_12 l0_13 l0_14 l0_15 a0_16 a0_17 l0_18 a0_19 a0_20 a0_21 l0_22 l0_23))) = some r := by first | (rw [hy209]; with_reducible exact H) | (have H2_ := (Option.bind_some _ _).symm.trans H; rw [hy209]; with_reducible exact H2_) | (have H2_ := (Option.bind_some _ _).symm.trans H; with_reducible exact H2_) | with_reducible exact H | (rw [hy209]; exact H) | exact H
     have Ny209 := Aside0.mk hy209
     clear hy209
     replace H := Option.bind_eq_some_iff.mp H
     obtain ⟨t212, A190, H⟩ := H
     replace H : (if t212 = true then ((wire_texts.f l0_13).bind fun t213 => (if t213 = true then ((wire_texts.f l0_14).bind fun t214 => (if t214 = true then ((wire_texts.f l0_15).bind fun t215 => (wire_may.j1 kj1 77 80 81 (!t215) a0_0 a0_1 a0_2 a0_3 a0_4 a0_5 a0_6 a0_7 a0_8 a0_9 a0_10 a0_11 a0_12 l0_13 l0_14 l0_15 a0_16 a0_17 l0_18 a0_19 a0_20 a0_21 l0_22 l0_23)) else (wire_may.j1 kj1 77 80 81 true a0_0 a0_1 a0_2 a0_3 a0_4 a0_5 a0_6 a0_7 a0_8 a0_9 a0_10 a0_11 a0_12 l0_13 l0_14 l0_15 a0_16 a0_17 l0_18 a0_19 a0_20 a0_21 l0_22 l0_23))) else (wire_may.j1 kj1 77 80 81 true a0_0 a0_1 a0_2 a0_3 a0_4 a0_5 a0_6 a0_7 a0_8 a0_9 a0_10 a0_11 a0_12 l0_13 l0_14 l0_15 a0_16 a0_17 l0_18 a0_19 a0_20 a0_21 l0_22 l0_23))) else (wire_may.j1 kj1 77 80 81 true a0_0 a0_1 a0_2 a0_3 a0_4 a0_5 a0_6 a0_7 a0_8 a0_9 a0_10 a0_11 a0_12 l0_13 l0_14 l0_15 a0_16 a0_17 l0_18 a0_19 a0_20 a0_21 l0_22 l0_23)) = some r := H
     have A19 := Aside0.mk A190
     clear A190
     by_cases c20 : t212 = true
     ·subst c20
      have H1 : ((wire_texts.f l0_13).bind fun t213 => (if t213 = true then ((wire_texts.f l0_14).bind fun t214 => (if t214 = true then ((wire_texts.f l0_15).bind fun t215 => (wire_may.j1 kj1 77 80 81 (!t215) a0_0 a0_1 a0_2 a0_3 a0_4 a0_5 a0_6 a0_7 a0_8 a0_9 a0_10 a0_11 a0_12 l0_13 l0_14 l0_15 a0_16 a0_17 l0_18 a0_19 a0_20 a0_21 l0_22 l0_23)) else (wire_may.j1 kj1 77 80 81 true a0_0 a0_1 a0_2 a0_3 a0_4 a0_5 a0_6 a0_7 a0_8 a0_9 a0_10 a0_11 a0_12 l0_13 l0_14 l0_15 a0_16 a0_17 l0_18 a0_19 a0_20 a0_21 l0_22 l0_23))) else (wire_may.j1 kj1 77 80 81 true a0_0 a0_1 a0_2 a0_3 a0_4 a0_5 a0_6 a0_7 a0_8 a0_9 a0_10 a0_11 a0_12 l0_13 l0_14 l0_15 a0_16 a0_17 l0_18 a0_19 a0_20 a0_21 l0_22 l0_23))) = some r := by rw [if_pos rfl] at H; exact H
      clear H
      have H := H1
      clear H1
      replace H := Option.bind_eq_some_iff.mp H
      obtain ⟨t213, A210, H⟩ := H
      replace H : (if t213 = true then ((wire_texts.f l0_14).bind fun t214 => (if t214 = true then ((wire_texts.f l0_15).bind fun t215 => (wire_may.j1 kj1 77 80 81 (!t215) a0_0 a0_1 a0_2 a0_3 a0_4 a0_5 a0_6 a0_7 a0_8 a0_9 a0_10 a0_11 a0_12 l0_13 l0_14 l0_15 a0_16 a0_17 l0_18 a0_19 a0_20 a0_21 l0_22 l0_23)) else (wire_may.j1 kj1 77 80 81 true a0_0 a0_1 a0_2 a0_3 a0_4 a0_5 a0_6 a0_7 a0_8 a0_9 a0_10 a0_11 a0_12 l0_13 l0_14 l0_15 a0_16 a0_17 l0_18 a0_19 a0_20 a0_21 l0_22 l0_23))) else (wire_may.j1 kj1 77 80 81 true a0_0 a0_1 a0_2 a0_3 a0_4 a0_5 a0_6 a0_7 a0_8 a0_9 a0_10 a0_11 a0_12 l0_13 l0_14 l0_15 a0_16 a0_17 l0_18 a0_19 a0_20 a0_21 l0_22 l0_23)) = some r := H
      have A21 := Aside0.mk A210
      clear A210
      by_cases c22 : t213 = true
      ·subst c22
       have H1 : ((wire_texts.f l0_14).bind fun t214 => (if t214 = true then ((wire_texts.f l0_15).bind fun t215 => (wire_may.j1 kj1 77 80 81 (!t215) a0_0 a0_1 a0_2 a0_3 a0_4 a0_5 a0_6 a0_7 a0_8 a0_9 a0_10 a0_11 a0_12 l0_13 l0_14 l0_15 a0_16 a0_17 l0_18 a0_19 a0_20 a0_21 l0_22 l0_23)) else (wire_may.j1 kj1 77 80 81 true a0_0 a0_1 a0_2 a0_3 a0_4 a0_5 a0_6 a0_7 a0_8 a0_9 a0_10 a0_11 a0_12 l0_13 l0_14 l0_15 a0_16 a0_17 l0_18 a0_19 a0_20 a0_21 l0_22 l0_23))) = some r := by rw [if_pos rfl] at H; exact H
       clear H
       have H := H1
       clear H1
       replace H := Option.bind_eq_some_iff.mp H
       obtain ⟨t214, A230, H⟩ := H
       replace H : (if t214 = true then ((wire_texts.f l0_15).bind fun t215 => (wire_may.j1 kj1 77 80 81 (!t215) a0_0 a0_1 a0_2 a0_3 a0_4 a0_5 a0_6 a0_7 a0_8 a0_9 a0_10 a0_11 a0_12 l0_13 l0_14 l0_15 a0_16 a0_17 l0_18 a0_19 a0_20 a0_21 l0_22 l0_23)) else (wire_may.j1 kj1 77 80 81 true a0_0 a0_1 a0_2 a0_3 a0_4 a0_5 a0_6 a0_7 a0_8 a0_9 a0_10 a0_11 a0_12 l0_13 l0_14 l0_15 a0_16 a0_17 l0_18 a0_19 a0_20 a0_21 l0_22 l0_23)) = some r := H
       have A23 := Aside0.mk A230
       clear A230
       by_cases c24 : t214 = true
       ·subst c24
        have H1 : ((wire_texts.f l0_15).bind fun t215 => (wire_may.j1 kj1 77 80 81 (!t215) a0_0 a0_1 a0_2 a0_3 a0_4 a0_5 a0_6 a0_7 a0_8 a0_9 a0_10 a0_11 a0_12 l0_13 l0_14 l0_15 a0_16 a0_17 l0_18 a0_19 a0_20 a0_21 l0_22 l0_23)) = some r := by rw [if_pos rfl] at H; exact H
        clear H
        have H := H1
        clear H1
        replace H := Option.bind_eq_some_iff.mp H
        obtain ⟨t215, A250, H⟩ := H
        replace H : (wire_may.j1 kj1 77 80 81 (!t215) a0_0 a0_1 a0_2 a0_3 a0_4 a0_5 a0_6 a0_7 a0_8 a0_9 a0_10 a0_11 a0_12 l0_13 l0_14 l0_15 a0_16 a0_17 l0_18 a0_19 a0_20 a0_21 l0_22 l0_23) = some r := H
        have A25 := Aside0.mk A250
        clear A250
        have H' := Aside0.mk H
        clear H
        obtain ⟨hcz26_0, hcz26_1, hcz26_2, hcz26_3, hcz26_4, hcz26_5, hcz26_6, hcz26_7, hcz26_8, hcz26_9, hcz26_10, hcz26_11, hcz26_12, hcz26_13, hcz26_14, hcz26_15, hcz26_16, hcz26_17, hcz26_18, hcz26_19, hcz26_20, hcz26_21, hcz26_22, hcz26_23⟩ := cells_24 BK206.out
        have hfz26_0 := blk_frozen BK206.out
        go_wp2_with (first | ((with_reducible refine gate_dst (N := 43) rfl ?_); (try (refine gate_guard (by rfl) ?_; dsimp only)); refine Kd.R_lit Kd.string _ 9 ?hg (N := 43) ?hd (xs := ([a0_3, a0_6, a0_12, a0_16, a0_19] : List ByteArray)) (inner := [.string a0_3, .string a0_6, .string a0_12, .string a0_16, .string a0_19]) (ok := fun _ => True) (okp := fun _ => True) ?hr ?hp (fun _ hk => hk) trivial (Below.refl _ _) (Nat.le_refl _) (by simp) ?_; (case hd => rfl); (case hg => rfl); (case hr => first | (go_simp; done) | (go_simp; rfl)); (case hp => exact (Reps.one (show Kd.M Kd.string _ _ _ a0_3 [.string a0_3] from rfl) (Reps.one (show Kd.M Kd.string _ _ _ a0_6 [.string a0_6] from rfl) (Reps.one (show Kd.M Kd.string _ _ _ a0_12 [.string a0_12] from rfl) (Reps.one (show Kd.M Kd.string _ _ _ a0_16 [.string a0_16] from rfl) (Reps.one (show Kd.M Kd.string _ _ _ a0_19 [.string a0_19] from rfl) (Reps.none _ _))))))); intro v210 w27 ho28 hb hg_ hnew_; clear hg_ hnew_; (first | rw [← Ny209.out] at ho28 | (simp only [Int.reduceToNat] at ho28; rw [← Ny209.out] at ho28)); have n0_ := Aside0.mk (Kd.R_lower ho28 (below_size (qd GE206.out))); have n1_ := Aside0.mk (blk_below (g := gb206) (o := .cells #[.int .i64 a0_0, .int .i64 a0_1, .int .i64 a0_2, .string a0_3, .int .i64 a0_4, .int .i64 a0_5, .string a0_6, .int .i64 a0_7, .int .i64 a0_8, .int .i64 a0_9, .bool a0_10, .bool a0_11, .string a0_12, .slice A0_13 l0_13.length c0_13, .slice A0_14 l0_14.length c0_14, .slice A0_15 l0_15.length c0_15, .string a0_16, .bool a0_17, .slice A0_18 l0_18.length c0_18, .string a0_19, .int .i64 a0_20, .bool a0_21, .slice A0_22 l0_22.length c0_22, .slice A0_23 l0_23.length c0_23] 54 (0, 0)) (qc BK206.out) hb); have n2_ := Aside0.mk (below_step (qd GE206.out) hb); clear BK206; clear HB; have HO211 := n0_; have BK206 := n1_; have HB := n2_; clear n0_ n1_ n2_; clear hb ho28; obtain ⟨Ao29, co29, eo29⟩ := Kd.R_slice HO211.out; subst eo29) | ((with_reducible refine gate_callee (f := 78) rfl ?_); refine goesL_ (some 44) rfl rfl Try.func78 (by kernel_rfl) rfl #[.slice Ao29 y209.length co29] rfl qb ?_; (with_reducible refine (wire_texts.calls _ _ y209 true _ ?side1 ?side2 A19.out).mono ?_); (case side1 => repeat (first | exact (Kd.R_reads' HO211.out).2.2 | (with_reducible refine Kd.C_alloc ?_ _) | (with_reducible refine Kd.C_drewN ?_ _) | (with_reducible refine Kd.C_drew ?_))); (case side2 => exact (Kd.R_reads' HO211.out).2.1); rintro e w' ⟨rfl, ⟨nd, rfl⟩⟩; refine ⟨_, rfl, ?_⟩; have hcz30_0 : w27.cell? ⟨gb206, 0, none⟩ = some (.int .i64 a0_0) := (blk_cell BK206.out 0).trans rfl; have hcz30_1 : w27.cell? ⟨gb206, 1, none⟩ = some (.int .i64 a0_1) := (blk_cell BK206.out 1).trans rfl; have hcz30_2 : w27.cell? ⟨gb206, 2, none⟩ = some (.int .i64 a0_2) := (blk_cell BK206.out 2).trans rfl; have hcz30_3 : w27.cell? ⟨gb206, 3, none⟩ = some (.string a0_3) := (blk_cell BK206.out 3).trans rfl; have hcz30_4 : w27.cell? ⟨gb206, 4, none⟩ = some (.int .i64 a0_4) := (blk_cell BK206.out 4).trans rfl; have hcz30_5 : w27.cell? ⟨gb206, 5, none⟩ = some (.int .i64 a0_5) := (blk_cell BK206.out 5).trans rfl; have hcz30_6 : w27.cell? ⟨gb206, 6, none⟩ = some (.string a0_6) := (blk_cell BK206.out 6).trans rfl; have hcz30_7 : w27.cell? ⟨gb206, 7, none⟩ = some (.int .i64 a0_7) := (blk_cell BK206.out 7).trans rfl; have hcz30_8 : w27.cell? ⟨gb206, 8, none⟩ = some (.int .i64 a0_8) := (blk_cell BK206.out 8).trans rfl; have hcz30_9 : w27.cell? ⟨gb206, 9, none⟩ = some (.int .i64 a0_9) := (blk_cell BK206.out 9).trans rfl; have hcz30_10 : w27.cell? ⟨gb206, 10, none⟩ = some (.bool a0_10) := (blk_cell BK206.out 10).trans rfl; have hcz30_11 : w27.cell? ⟨gb206, 11, none⟩ = some (.bool a0_11) := (blk_cell BK206.out 11).trans rfl; have hcz30_12 : w27.cell? ⟨gb206, 12, none⟩ = some (.string a0_12) := (blk_cell BK206.out 12).trans rfl; have hcz30_13 : w27.cell? ⟨gb206, 13, none⟩ = some (.slice A0_13 l0_13.length c0_13) := (blk_cell BK206.out 13).trans rfl; have hcz30_14 : w27.cell? ⟨gb206, 14, none⟩ = some (.slice A0_14 l0_14.length c0_14) := (blk_cell BK206.out 14).trans rfl; have hcz30_15 : w27.cell? ⟨gb206, 15, none⟩ = some (.slice A0_15 l0_15.length c0_15) := (blk_cell BK206.out 15).trans rfl; have hcz30_16 : w27.cell? ⟨gb206, 16, none⟩ = some (.string a0_16) := (blk_cell BK206.out 16).trans rfl; have hcz30_17 : w27.cell? ⟨gb206, 17, none⟩ = some (.bool a0_17) := (blk_cell BK206.out 17).trans rfl; have hcz30_18 : w27.cell? ⟨gb206, 18, none⟩ = some (.slice A0_18 l0_18.length c0_18) := (blk_cell BK206.out 18).trans rfl; have hcz30_19 : w27.cell? ⟨gb206, 19, none⟩ = some (.string a0_19) := (blk_cell BK206.out 19).trans rfl; have hcz30_20 : w27.cell? ⟨gb206, 20, none⟩ = some (.int .i64 a0_20) := (blk_cell BK206.out 20).trans rfl; have hcz30_21 : w27.cell? ⟨gb206, 21, none⟩ = some (.bool a0_21) := (blk_cell BK206.out 21).trans rfl; have hcz30_22 : w27.cell? ⟨gb206, 22, none⟩ = some (.slice A0_22 l0_22.length c0_22) := (blk_cell BK206.out 22).trans rfl; have hcz30_23 : w27.cell? ⟨gb206, 23, none⟩ = some (.slice A0_23 l0_23.length c0_23) := (blk_cell BK206.out 23).trans rfl; have hfz30_0 := blk_frozen BK206.out 0; have hfz30_1 := blk_frozen BK206.out 1; have hfz30_2 := blk_frozen BK206.out 2; have hfz30_3 := blk_frozen BK206.out 3; have hfz30_4 := blk_frozen BK206.out 4; have hfz30_5 := blk_frozen BK206.out 5; have hfz30_6 := blk_frozen BK206.out 6; have hfz30_7 := blk_frozen BK206.out 7; have hfz30_8 := blk_frozen BK206.out 8; have hfz30_9 := blk_frozen BK206.out 9; have hfz30_10 := blk_frozen BK206.out 10; have hfz30_11 := blk_frozen BK206.out 11; have hfz30_12 := blk_frozen BK206.out 12; have hfz30_13 := blk_frozen BK206.out 13; have hfz30_14 := blk_frozen BK206.out 14; have hfz30_15 := blk_frozen BK206.out 15; have hfz30_16 := blk_frozen BK206.out 16; have hfz30_17 := blk_frozen BK206.out 17; have hfz30_18 := blk_frozen BK206.out 18; have hfz30_19 := blk_frozen BK206.out 19; have hfz30_20 := blk_frozen BK206.out 20; have hfz30_21 := blk_frozen BK206.out 21; have hfz30_22 := blk_frozen BK206.out 22; have hfz30_23 := blk_frozen BK206.out 23) | (go_at_call 78; (with_reducible refine (wire_texts.calls _ _ l0_13 true _ ?side1 ?side2 A21.out).mono ?_); (case side1 => repeat (first | exact (Kd.C_below HR0_13.out (qd GE206.out)) | (with_reducible refine Kd.C_alloc ?_ _) | (with_reducible refine Kd.C_drewN ?_ _) | (with_reducible refine Kd.C_drew ?_))); (case side2 => exact HC0_13.out); rintro e w' ⟨rfl, ⟨nd, rfl⟩⟩) | (go_at_call 78; (with_reducible refine (wire_texts.calls _ _ l0_14 true _ ?side1 ?side2 A23.out).mono ?_); (case side1 => repeat (first | exact (Kd.C_below HR0_14.out (qd GE206.out)) | (with_reducible refine Kd.C_alloc ?_ _) | (with_reducible refine Kd.C_drewN ?_ _) | (with_reducible refine Kd.C_drew ?_))); (case side2 => exact HC0_14.out); rintro e w' ⟨rfl, ⟨nd, rfl⟩⟩) | (go_at_call 78; (with_reducible refine (wire_texts.calls _ _ l0_15 t215 _ ?side1 ?side2 A25.out).mono ?_); (case side1 => repeat (first | exact (Kd.C_below HR0_15.out (qd GE206.out)) | (with_reducible refine Kd.C_alloc ?_ _) | (with_reducible refine Kd.C_drewN ?_ _) | (with_reducible refine Kd.C_drew ?_))); (case side2 => exact HC0_15.out); rintro e w' ⟨rfl, ⟨nd, rfl⟩⟩))
        go_meet
        case rel => exact ⟨_, (!t215), qi, H', ⟨by have := HJ1.out; first | omega | exact Nat.le_refl _⟩, ⟨by (with_reducible repeat (first | refine blk_drewN ?_ _ | refine blk_drew ?_ | refine blk_alloc ?_ _)); exact BK206.out⟩, ⟨by repeat (first | (with_reducible first | exact HB.out | apply below_alloc | apply pw_below_drewN | apply below_drew1 | refine below_set ?_ GE206.out) | exact HB.out)⟩⟩
       ·replace c24 := Bool.eq_false_iff.mpr c24
        subst c24
        have H1 : (wire_may.j1 kj1 77 80 81 true a0_0 a0_1 a0_2 a0_3 a0_4 a0_5 a0_6 a0_7 a0_8 a0_9 a0_10 a0_11 a0_12 l0_13 l0_14 l0_15 a0_16 a0_17 l0_18 a0_19 a0_20 a0_21 l0_22 l0_23) = some r := by rw [if_neg (show ¬ (false = true) by decide)] at H; exact H
        clear H
        have H := H1
        clear H1
        have H' := Aside0.mk H
        clear H
        obtain ⟨hcz31_0, hcz31_1, hcz31_2, hcz31_3, hcz31_4, hcz31_5, hcz31_6, hcz31_7, hcz31_8, hcz31_9, hcz31_10, hcz31_11, hcz31_12, hcz31_13, hcz31_14, hcz31_15, hcz31_16, hcz31_17, hcz31_18, hcz31_19, hcz31_20, hcz31_21, hcz31_22, hcz31_23⟩ := cells_24 BK206.out
        have hfz31_0 := blk_frozen BK206.out
        go_wp2_with (first | ((with_reducible refine gate_dst (N := 43) rfl ?_); (try (refine gate_guard (by rfl) ?_; dsimp only)); refine Kd.R_lit Kd.string _ 9 ?hg (N := 43) ?hd (xs := ([a0_3, a0_6, a0_12, a0_16, a0_19] : List ByteArray)) (inner := [.string a0_3, .string a0_6, .string a0_12, .string a0_16, .string a0_19]) (ok := fun _ => True) (okp := fun _ => True) ?hr ?hp (fun _ hk => hk) trivial (Below.refl _ _) (Nat.le_refl _) (by simp) ?_; (case hd => rfl); (case hg => rfl); (case hr => first | (go_simp; done) | (go_simp; rfl)); (case hp => exact (Reps.one (show Kd.M Kd.string _ _ _ a0_3 [.string a0_3] from rfl) (Reps.one (show Kd.M Kd.string _ _ _ a0_6 [.string a0_6] from rfl) (Reps.one (show Kd.M Kd.string _ _ _ a0_12 [.string a0_12] from rfl) (Reps.one (show Kd.M Kd.string _ _ _ a0_16 [.string a0_16] from rfl) (Reps.one (show Kd.M Kd.string _ _ _ a0_19 [.string a0_19] from rfl) (Reps.none _ _))))))); intro v210 w32 ho33 hb hg_ hnew_; clear hg_ hnew_; (first | rw [← Ny209.out] at ho33 | (simp only [Int.reduceToNat] at ho33; rw [← Ny209.out] at ho33)); have n0_ := Aside0.mk (Kd.R_lower ho33 (below_size (qd GE206.out))); have n1_ := Aside0.mk (blk_below (g := gb206) (o := .cells #[.int .i64 a0_0, .int .i64 a0_1, .int .i64 a0_2, .string a0_3, .int .i64 a0_4, .int .i64 a0_5, .string a0_6, .int .i64 a0_7, .int .i64 a0_8, .int .i64 a0_9, .bool a0_10, .bool a0_11, .string a0_12, .slice A0_13 l0_13.length c0_13, .slice A0_14 l0_14.length c0_14, .slice A0_15 l0_15.length c0_15, .string a0_16, .bool a0_17, .slice A0_18 l0_18.length c0_18, .string a0_19, .int .i64 a0_20, .bool a0_21, .slice A0_22 l0_22.length c0_22, .slice A0_23 l0_23.length c0_23] 54 (0, 0)) (qc BK206.out) hb); have n2_ := Aside0.mk (below_step (qd GE206.out) hb); clear BK206; clear HB; have HO211 := n0_; have BK206 := n1_; have HB := n2_; clear n0_ n1_ n2_; clear hb ho33; obtain ⟨Ao34, co34, eo34⟩ := Kd.R_slice HO211.out; subst eo34) | ((with_reducible refine gate_callee (f := 78) rfl ?_); refine goesL_ (some 44) rfl rfl Try.func78 (by kernel_rfl) rfl #[.slice Ao34 y209.length co34] rfl qb ?_; (with_reducible refine (wire_texts.calls _ _ y209 true _ ?side1 ?side2 A19.out).mono ?_); (case side1 => repeat (first | exact (Kd.R_reads' HO211.out).2.2 | (with_reducible refine Kd.C_alloc ?_ _) | (with_reducible refine Kd.C_drewN ?_ _) | (with_reducible refine Kd.C_drew ?_))); (case side2 => exact (Kd.R_reads' HO211.out).2.1); rintro e w' ⟨rfl, ⟨nd, rfl⟩⟩; refine ⟨_, rfl, ?_⟩; have hcz35_0 : w32.cell? ⟨gb206, 0, none⟩ = some (.int .i64 a0_0) := (blk_cell BK206.out 0).trans rfl; have hcz35_1 : w32.cell? ⟨gb206, 1, none⟩ = some (.int .i64 a0_1) := (blk_cell BK206.out 1).trans rfl; have hcz35_2 : w32.cell? ⟨gb206, 2, none⟩ = some (.int .i64 a0_2) := (blk_cell BK206.out 2).trans rfl; have hcz35_3 : w32.cell? ⟨gb206, 3, none⟩ = some (.string a0_3) := (blk_cell BK206.out 3).trans rfl; have hcz35_4 : w32.cell? ⟨gb206, 4, none⟩ = some (.int .i64 a0_4) := (blk_cell BK206.out 4).trans rfl; have hcz35_5 : w32.cell? ⟨gb206, 5, none⟩ = some (.int .i64 a0_5) := (blk_cell BK206.out 5).trans rfl; have hcz35_6 : w32.cell? ⟨gb206, 6, none⟩ = some (.string a0_6) := (blk_cell BK206.out 6).trans rfl; have hcz35_7 : w32.cell? ⟨gb206, 7, none⟩ = some (.int .i64 a0_7) := (blk_cell BK206.out 7).trans rfl; have hcz35_8 : w32.cell? ⟨gb206, 8, none⟩ = some (.int .i64 a0_8) := (blk_cell BK206.out 8).trans rfl; have hcz35_9 : w32.cell? ⟨gb206, 9, none⟩ = some (.int .i64 a0_9) := (blk_cell BK206.out 9).trans rfl; have hcz35_10 : w32.cell? ⟨gb206, 10, none⟩ = some (.bool a0_10) := (blk_cell BK206.out 10).trans rfl; have hcz35_11 : w32.cell? ⟨gb206, 11, none⟩ = some (.bool a0_11) := (blk_cell BK206.out 11).trans rfl; have hcz35_12 : w32.cell? ⟨gb206, 12, none⟩ = some (.string a0_12) := (blk_cell BK206.out 12).trans rfl; have hcz35_13 : w32.cell? ⟨gb206, 13, none⟩ = some (.slice A0_13 l0_13.length c0_13) := (blk_cell BK206.out 13).trans rfl; have hcz35_14 : w32.cell? ⟨gb206, 14, none⟩ = some (.slice A0_14 l0_14.length c0_14) := (blk_cell BK206.out 14).trans rfl; have hcz35_15 : w32.cell? ⟨gb206, 15, none⟩ = some (.slice A0_15 l0_15.length c0_15) := (blk_cell BK206.out 15).trans rfl; have hcz35_16 : w32.cell? ⟨gb206, 16, none⟩ = some (.string a0_16) := (blk_cell BK206.out 16).trans rfl; have hcz35_17 : w32.cell? ⟨gb206, 17, none⟩ = some (.bool a0_17) := (blk_cell BK206.out 17).trans rfl; have hcz35_18 : w32.cell? ⟨gb206, 18, none⟩ = some (.slice A0_18 l0_18.length c0_18) := (blk_cell BK206.out 18).trans rfl; have hcz35_19 : w32.cell? ⟨gb206, 19, none⟩ = some (.string a0_19) := (blk_cell BK206.out 19).trans rfl; have hcz35_20 : w32.cell? ⟨gb206, 20, none⟩ = some (.int .i64 a0_20) := (blk_cell BK206.out 20).trans rfl; have hcz35_21 : w32.cell? ⟨gb206, 21, none⟩ = some (.bool a0_21) := (blk_cell BK206.out 21).trans rfl; have hcz35_22 : w32.cell? ⟨gb206, 22, none⟩ = some (.slice A0_22 l0_22.length c0_22) := (blk_cell BK206.out 22).trans rfl; have hcz35_23 : w32.cell? ⟨gb206, 23, none⟩ = some (.slice A0_23 l0_23.length c0_23) := (blk_cell BK206.out 23).trans rfl; have hfz35_0 := blk_frozen BK206.out 0; have hfz35_1 := blk_frozen BK206.out 1; have hfz35_2 := blk_frozen BK206.out 2; have hfz35_3 := blk_frozen BK206.out 3; have hfz35_4 := blk_frozen BK206.out 4; have hfz35_5 := blk_frozen BK206.out 5; have hfz35_6 := blk_frozen BK206.out 6; have hfz35_7 := blk_frozen BK206.out 7; have hfz35_8 := blk_frozen BK206.out 8; have hfz35_9 := blk_frozen BK206.out 9; have hfz35_10 := blk_frozen BK206.out 10; have hfz35_11 := blk_frozen BK206.out 11; have hfz35_12 := blk_frozen BK206.out 12; have hfz35_13 := blk_frozen BK206.out 13; have hfz35_14 := blk_frozen BK206.out 14; have hfz35_15 := blk_frozen BK206.out 15; have hfz35_16 := blk_frozen BK206.out 16; have hfz35_17 := blk_frozen BK206.out 17; have hfz35_18 := blk_frozen BK206.out 18; have hfz35_19 := blk_frozen BK206.out 19; have hfz35_20 := blk_frozen BK206.out 20; have hfz35_21 := blk_frozen BK206.out 21; have hfz35_22 := blk_frozen BK206.out 22; have hfz35_23 := blk_frozen BK206.out 23) | (go_at_call 78; (with_reducible refine (wire_texts.calls _ _ l0_13 true _ ?side1 ?side2 A21.out).mono ?_); (case side1 => repeat (first | exact (Kd.C_below HR0_13.out (qd GE206.out)) | (with_reducible refine Kd.C_alloc ?_ _) | (with_reducible refine Kd.C_drewN ?_ _) | (with_reducible refine Kd.C_drew ?_))); (case side2 => exact HC0_13.out); rintro e w' ⟨rfl, ⟨nd, rfl⟩⟩) | (go_at_call 78; (with_reducible refine (wire_texts.calls _ _ l0_14 false _ ?side1 ?side2 A23.out).mono ?_); (case side1 => repeat (first | exact (Kd.C_below HR0_14.out (qd GE206.out)) | (with_reducible refine Kd.C_alloc ?_ _) | (with_reducible refine Kd.C_drewN ?_ _) | (with_reducible refine Kd.C_drew ?_))); (case side2 => exact HC0_14.out); rintro e w' ⟨rfl, ⟨nd, rfl⟩⟩))
        go_meet
        case rel => exact ⟨_, (true), qi, H', ⟨by have := HJ1.out; first | omega | exact Nat.le_refl _⟩, ⟨by (with_reducible repeat (first | refine blk_drewN ?_ _ | refine blk_drew ?_ | refine blk_alloc ?_ _)); exact BK206.out⟩, ⟨by repeat (first | (with_reducible first | exact HB.out | apply below_alloc | apply pw_below_drewN | apply below_drew1 | refine below_set ?_ GE206.out) | exact HB.out)⟩⟩
      ·replace c22 := Bool.eq_false_iff.mpr c22
       subst c22
       have H1 : (wire_may.j1 kj1 77 80 81 true a0_0 a0_1 a0_2 a0_3 a0_4 a0_5 a0_6 a0_7 a0_8 a0_9 a0_10 a0_11 a0_12 l0_13 l0_14 l0_15 a0_16 a0_17 l0_18 a0_19 a0_20 a0_21 l0_22 l0_23) = some r := by rw [if_neg (show ¬ (false = true) by decide)] at H; exact H
       clear H
       have H := H1
       clear H1
       have H' := Aside0.mk H
       clear H
       obtain ⟨hcz36_0, hcz36_1, hcz36_2, hcz36_3, hcz36_4, hcz36_5, hcz36_6, hcz36_7, hcz36_8, hcz36_9, hcz36_10, hcz36_11, hcz36_12, hcz36_13, hcz36_14, hcz36_15, hcz36_16, hcz36_17, hcz36_18, hcz36_19, hcz36_20, hcz36_21, hcz36_22, hcz36_23⟩ := cells_24 BK206.out
       have hfz36_0 := blk_frozen BK206.out
       go_wp2_with (first | ((with_reducible refine gate_dst (N := 43) rfl ?_); (try (refine gate_guard (by rfl) ?_; dsimp only)); refine Kd.R_lit Kd.string _ 9 ?hg (N := 43) ?hd (xs := ([a0_3, a0_6, a0_12, a0_16, a0_19] : List ByteArray)) (inner := [.string a0_3, .string a0_6, .string a0_12, .string a0_16, .string a0_19]) (ok := fun _ => True) (okp := fun _ => True) ?hr ?hp (fun _ hk => hk) trivial (Below.refl _ _) (Nat.le_refl _) (by simp) ?_; (case hd => rfl); (case hg => rfl); (case hr => first | (go_simp; done) | (go_simp; rfl)); (case hp => exact (Reps.one (show Kd.M Kd.string _ _ _ a0_3 [.string a0_3] from rfl) (Reps.one (show Kd.M Kd.string _ _ _ a0_6 [.string a0_6] from rfl) (Reps.one (show Kd.M Kd.string _ _ _ a0_12 [.string a0_12] from rfl) (Reps.one (show Kd.M Kd.string _ _ _ a0_16 [.string a0_16] from rfl) (Reps.one (show Kd.M Kd.string _ _ _ a0_19 [.string a0_19] from rfl) (Reps.none _ _))))))); intro v210 w37 ho38 hb hg_ hnew_; clear hg_ hnew_; (first | rw [← Ny209.out] at ho38 | (simp only [Int.reduceToNat] at ho38; rw [← Ny209.out] at ho38)); have n0_ := Aside0.mk (Kd.R_lower ho38 (below_size (qd GE206.out))); have n1_ := Aside0.mk (blk_below (g := gb206) (o := .cells #[.int .i64 a0_0, .int .i64 a0_1, .int .i64 a0_2, .string a0_3, .int .i64 a0_4, .int .i64 a0_5, .string a0_6, .int .i64 a0_7, .int .i64 a0_8, .int .i64 a0_9, .bool a0_10, .bool a0_11, .string a0_12, .slice A0_13 l0_13.length c0_13, .slice A0_14 l0_14.length c0_14, .slice A0_15 l0_15.length c0_15, .string a0_16, .bool a0_17, .slice A0_18 l0_18.length c0_18, .string a0_19, .int .i64 a0_20, .bool a0_21, .slice A0_22 l0_22.length c0_22, .slice A0_23 l0_23.length c0_23] 54 (0, 0)) (qc BK206.out) hb); have n2_ := Aside0.mk (below_step (qd GE206.out) hb); clear BK206; clear HB; have HO211 := n0_; have BK206 := n1_; have HB := n2_; clear n0_ n1_ n2_; clear hb ho38; obtain ⟨Ao39, co39, eo39⟩ := Kd.R_slice HO211.out; subst eo39) | ((with_reducible refine gate_callee (f := 78) rfl ?_); refine goesL_ (some 44) rfl rfl Try.func78 (by kernel_rfl) rfl #[.slice Ao39 y209.length co39] rfl qb ?_; (with_reducible refine (wire_texts.calls _ _ y209 true _ ?side1 ?side2 A19.out).mono ?_); (case side1 => repeat (first | exact (Kd.R_reads' HO211.out).2.2 | (with_reducible refine Kd.C_alloc ?_ _) | (with_reducible refine Kd.C_drewN ?_ _) | (with_reducible refine Kd.C_drew ?_))); (case side2 => exact (Kd.R_reads' HO211.out).2.1); rintro e w' ⟨rfl, ⟨nd, rfl⟩⟩; refine ⟨_, rfl, ?_⟩; have hcz40_0 : w37.cell? ⟨gb206, 0, none⟩ = some (.int .i64 a0_0) := (blk_cell BK206.out 0).trans rfl; have hcz40_1 : w37.cell? ⟨gb206, 1, none⟩ = some (.int .i64 a0_1) := (blk_cell BK206.out 1).trans rfl; have hcz40_2 : w37.cell? ⟨gb206, 2, none⟩ = some (.int .i64 a0_2) := (blk_cell BK206.out 2).trans rfl; have hcz40_3 : w37.cell? ⟨gb206, 3, none⟩ = some (.string a0_3) := (blk_cell BK206.out 3).trans rfl; have hcz40_4 : w37.cell? ⟨gb206, 4, none⟩ = some (.int .i64 a0_4) := (blk_cell BK206.out 4).trans rfl; have hcz40_5 : w37.cell? ⟨gb206, 5, none⟩ = some (.int .i64 a0_5) := (blk_cell BK206.out 5).trans rfl; have hcz40_6 : w37.cell? ⟨gb206, 6, none⟩ = some (.string a0_6) := (blk_cell BK206.out 6).trans rfl; have hcz40_7 : w37.cell? ⟨gb206, 7, none⟩ = some (.int .i64 a0_7) := (blk_cell BK206.out 7).trans rfl; have hcz40_8 : w37.cell? ⟨gb206, 8, none⟩ = some (.int .i64 a0_8) := (blk_cell BK206.out 8).trans rfl; have hcz40_9 : w37.cell? ⟨gb206, 9, none⟩ = some (.int .i64 a0_9) := (blk_cell BK206.out 9).trans rfl; have hcz40_10 : w37.cell? ⟨gb206, 10, none⟩ = some (.bool a0_10) := (blk_cell BK206.out 10).trans rfl; have hcz40_11 : w37.cell? ⟨gb206, 11, none⟩ = some (.bool a0_11) := (blk_cell BK206.out 11).trans rfl; have hcz40_12 : w37.cell? ⟨gb206, 12, none⟩ = some (.string a0_12) := (blk_cell BK206.out 12).trans rfl; have hcz40_13 : w37.cell? ⟨gb206, 13, none⟩ = some (.slice A0_13 l0_13.length c0_13) := (blk_cell BK206.out 13).trans rfl; have hcz40_14 : w37.cell? ⟨gb206, 14, none⟩ = some (.slice A0_14 l0_14.length c0_14) := (blk_cell BK206.out 14).trans rfl; have hcz40_15 : w37.cell? ⟨gb206, 15, none⟩ = some (.slice A0_15 l0_15.length c0_15) := (blk_cell BK206.out 15).trans rfl; have hcz40_16 : w37.cell? ⟨gb206, 16, none⟩ = some (.string a0_16) := (blk_cell BK206.out 16).trans rfl; have hcz40_17 : w37.cell? ⟨gb206, 17, none⟩ = some (.bool a0_17) := (blk_cell BK206.out 17).trans rfl; have hcz40_18 : w37.cell? ⟨gb206, 18, none⟩ = some (.slice A0_18 l0_18.length c0_18) := (blk_cell BK206.out 18).trans rfl; have hcz40_19 : w37.cell? ⟨gb206, 19, none⟩ = some (.string a0_19) := (blk_cell BK206.out 19).trans rfl; have hcz40_20 : w37.cell? ⟨gb206, 20, none⟩ = some (.int .i64 a0_20) := (blk_cell BK206.out 20).trans rfl; have hcz40_21 : w37.cell? ⟨gb206, 21, none⟩ = some (.bool a0_21) := (blk_cell BK206.out 21).trans rfl; have hcz40_22 : w37.cell? ⟨gb206, 22, none⟩ = some (.slice A0_22 l0_22.length c0_22) := (blk_cell BK206.out 22).trans rfl; have hcz40_23 : w37.cell? ⟨gb206, 23, none⟩ = some (.slice A0_23 l0_23.length c0_23) := (blk_cell BK206.out 23).trans rfl; have hfz40_0 := blk_frozen BK206.out 0; have hfz40_1 := blk_frozen BK206.out 1; have hfz40_2 := blk_frozen BK206.out 2; have hfz40_3 := blk_frozen BK206.out 3; have hfz40_4 := blk_frozen BK206.out 4; have hfz40_5 := blk_frozen BK206.out 5; have hfz40_6 := blk_frozen BK206.out 6; have hfz40_7 := blk_frozen BK206.out 7; have hfz40_8 := blk_frozen BK206.out 8; have hfz40_9 := blk_frozen BK206.out 9; have hfz40_10 := blk_frozen BK206.out 10; have hfz40_11 := blk_frozen BK206.out 11; have hfz40_12 := blk_frozen BK206.out 12; have hfz40_13 := blk_frozen BK206.out 13; have hfz40_14 := blk_frozen BK206.out 14; have hfz40_15 := blk_frozen BK206.out 15; have hfz40_16 := blk_frozen BK206.out 16; have hfz40_17 := blk_frozen BK206.out 17; have hfz40_18 := blk_frozen BK206.out 18; have hfz40_19 := blk_frozen BK206.out 19; have hfz40_20 := blk_frozen BK206.out 20; have hfz40_21 := blk_frozen BK206.out 21; have hfz40_22 := blk_frozen BK206.out 22; have hfz40_23 := blk_frozen BK206.out 23) | (go_at_call 78; (with_reducible refine (wire_texts.calls _ _ l0_13 false _ ?side1 ?side2 A21.out).mono ?_); (case side1 => repeat (first | exact (Kd.C_below HR0_13.out (qd GE206.out)) | (with_reducible refine Kd.C_alloc ?_ _) | (with_reducible refine Kd.C_drewN ?_ _) | (with_reducible refine Kd.C_drew ?_))); (case side2 => exact HC0_13.out); rintro e w' ⟨rfl, ⟨nd, rfl⟩⟩))
       go_meet
       case rel => exact ⟨_, (true), qi, H', ⟨by have := HJ1.out; first | omega | exact Nat.le_refl _⟩, ⟨by (with_reducible repeat (first | refine blk_drewN ?_ _ | refine blk_drew ?_ | refine blk_alloc ?_ _)); exact BK206.out⟩, ⟨by repeat (first | (with_reducible first | exact HB.out | apply below_alloc | apply pw_below_drewN | apply below_drew1 | refine below_set ?_ GE206.out) | exact HB.out)⟩⟩
     ·replace c20 := Bool.eq_false_iff.mpr c20
      subst c20
      have H1 : (wire_may.j1 kj1 77 80 81 true a0_0 a0_1 a0_2 a0_3 a0_4 a0_5 a0_6 a0_7 a0_8 a0_9 a0_10 a0_11 a0_12 l0_13 l0_14 l0_15 a0_16 a0_17 l0_18 a0_19 a0_20 a0_21 l0_22 l0_23) = some r := by rw [if_neg (show ¬ (false = true) by decide)] at H; exact H
      clear H
      have H := H1
      clear H1
      have H' := Aside0.mk H
      clear H
      obtain ⟨hcz41_0, hcz41_1, hcz41_2, hcz41_3, hcz41_4, hcz41_5, hcz41_6, hcz41_7, hcz41_8, hcz41_9, hcz41_10, hcz41_11, hcz41_12, hcz41_13, hcz41_14, hcz41_15, hcz41_16, hcz41_17, hcz41_18, hcz41_19, hcz41_20, hcz41_21, hcz41_22, hcz41_23⟩ := cells_24 BK206.out
      have hfz41_0 := blk_frozen BK206.out
      go_wp2_with (first | ((with_reducible refine gate_dst (N := 43) rfl ?_); (try (refine gate_guard (by rfl) ?_; dsimp only)); refine Kd.R_lit Kd.string _ 9 ?hg (N := 43) ?hd (xs := ([a0_3, a0_6, a0_12, a0_16, a0_19] : List ByteArray)) (inner := [.string a0_3, .string a0_6, .string a0_12, .string a0_16, .string a0_19]) (ok := fun _ => True) (okp := fun _ => True) ?hr ?hp (fun _ hk => hk) trivial (Below.refl _ _) (Nat.le_refl _) (by simp) ?_; (case hd => rfl); (case hg => rfl); (case hr => first | (go_simp; done) | (go_simp; rfl)); (case hp => exact (Reps.one (show Kd.M Kd.string _ _ _ a0_3 [.string a0_3] from rfl) (Reps.one (show Kd.M Kd.string _ _ _ a0_6 [.string a0_6] from rfl) (Reps.one (show Kd.M Kd.string _ _ _ a0_12 [.string a0_12] from rfl) (Reps.one (show Kd.M Kd.string _ _ _ a0_16 [.string a0_16] from rfl) (Reps.one (show Kd.M Kd.string _ _ _ a0_19 [.string a0_19] from rfl) (Reps.none _ _))))))); intro v210 w42 ho43 hb hg_ hnew_; clear hg_ hnew_; (first | rw [← Ny209.out] at ho43 | (simp only [Int.reduceToNat] at ho43; rw [← Ny209.out] at ho43)); have n0_ := Aside0.mk (Kd.R_lower ho43 (below_size (qd GE206.out))); have n1_ := Aside0.mk (blk_below (g := gb206) (o := .cells #[.int .i64 a0_0, .int .i64 a0_1, .int .i64 a0_2, .string a0_3, .int .i64 a0_4, .int .i64 a0_5, .string a0_6, .int .i64 a0_7, .int .i64 a0_8, .int .i64 a0_9, .bool a0_10, .bool a0_11, .string a0_12, .slice A0_13 l0_13.length c0_13, .slice A0_14 l0_14.length c0_14, .slice A0_15 l0_15.length c0_15, .string a0_16, .bool a0_17, .slice A0_18 l0_18.length c0_18, .string a0_19, .int .i64 a0_20, .bool a0_21, .slice A0_22 l0_22.length c0_22, .slice A0_23 l0_23.length c0_23] 54 (0, 0)) (qc BK206.out) hb); have n2_ := Aside0.mk (below_step (qd GE206.out) hb); clear BK206; clear HB; have HO211 := n0_; have BK206 := n1_; have HB := n2_; clear n0_ n1_ n2_; clear hb ho43; obtain ⟨Ao44, co44, eo44⟩ := Kd.R_slice HO211.out; subst eo44) | ((with_reducible refine gate_callee (f := 78) rfl ?_); refine goesL_ (some 44) rfl rfl Try.func78 (by kernel_rfl) rfl #[.slice Ao44 y209.length co44] rfl qb ?_; (with_reducible refine (wire_texts.calls _ _ y209 false _ ?side1 ?side2 A19.out).mono ?_); (case side1 => repeat (first | exact (Kd.R_reads' HO211.out).2.2 | (with_reducible refine Kd.C_alloc ?_ _) | (with_reducible refine Kd.C_drewN ?_ _) | (with_reducible refine Kd.C_drew ?_))); (case side2 => exact (Kd.R_reads' HO211.out).2.1); rintro e w' ⟨rfl, ⟨nd, rfl⟩⟩; refine ⟨_, rfl, ?_⟩))
      go_meet
      case rel => exact ⟨_, (true), qi, H', ⟨by have := HJ1.out; first | omega | exact Nat.le_refl _⟩, ⟨by (with_reducible repeat (first | refine blk_drewN ?_ _ | refine blk_drew ?_ | refine blk_alloc ?_ _)); exact BK206.out⟩, ⟨by repeat (first | (with_reducible first | exact HB.out | apply below_alloc | apply pw_below_drewN | apply below_drew1 | refine below_set ?_ GE206.out) | exact HB.out)⟩⟩
    case rest =>
     clear HC18
     try clear c1
     try clear c2
     try clear p2
     try clear c3
     try clear c4
     try clear c4b0
     try clear c6
     try clear c6b0
     try clear c7
     try clear c9
     try clear c9b0
     try clear c9b1
     try clear c17
     try clear c20
     try clear c22
     try clear c24
     try clear hcz11_0 hcz11_1 hcz11_2 hcz11_3 hcz11_4 hcz11_5 hcz11_6 hcz11_7 hcz11_8 hcz11_9 hcz11_10 hcz11_11 hcz11_12 hcz11_13 hcz11_14 hcz11_15 hcz11_16 hcz11_17 hcz11_18 hcz11_19 hcz11_20 hcz11_21 hcz11_22 hcz11_23
     try clear hcz13_0 hcz13_1 hcz13_2 hcz13_3 hcz13_4 hcz13_5 hcz13_6 hcz13_7 hcz13_8 hcz13_9 hcz13_10 hcz13_11 hcz13_12 hcz13_13 hcz13_14 hcz13_15 hcz13_16 hcz13_17 hcz13_18 hcz13_19 hcz13_20 hcz13_21 hcz13_22 hcz13_23
     try clear hcz15_0 hcz15_1 hcz15_2 hcz15_3 hcz15_4 hcz15_5 hcz15_6 hcz15_7 hcz15_8 hcz15_9 hcz15_10 hcz15_11 hcz15_12 hcz15_13 hcz15_14 hcz15_15 hcz15_16 hcz15_17 hcz15_18 hcz15_19 hcz15_20 hcz15_21 hcz15_22 hcz15_23
     try clear hcz26_0 hcz26_1 hcz26_2 hcz26_3 hcz26_4 hcz26_5 hcz26_6 hcz26_7 hcz26_8 hcz26_9 hcz26_10 hcz26_11 hcz26_12 hcz26_13 hcz26_14 hcz26_15 hcz26_16 hcz26_17 hcz26_18 hcz26_19 hcz26_20 hcz26_21 hcz26_22 hcz26_23
     try clear hcz30_0 hcz30_1 hcz30_2 hcz30_3 hcz30_4 hcz30_5 hcz30_6 hcz30_7 hcz30_8 hcz30_9 hcz30_10 hcz30_11 hcz30_12 hcz30_13 hcz30_14 hcz30_15 hcz30_16 hcz30_17 hcz30_18 hcz30_19 hcz30_20 hcz30_21 hcz30_22 hcz30_23
     try clear hcz31_0 hcz31_1 hcz31_2 hcz31_3 hcz31_4 hcz31_5 hcz31_6 hcz31_7 hcz31_8 hcz31_9 hcz31_10 hcz31_11 hcz31_12 hcz31_13 hcz31_14 hcz31_15 hcz31_16 hcz31_17 hcz31_18 hcz31_19 hcz31_20 hcz31_21 hcz31_22 hcz31_23
     try clear hcz35_0 hcz35_1 hcz35_2 hcz35_3 hcz35_4 hcz35_5 hcz35_6 hcz35_7 hcz35_8 hcz35_9 hcz35_10 hcz35_11 hcz35_12 hcz35_13 hcz35_14 hcz35_15 hcz35_16 hcz35_17 hcz35_18 hcz35_19 hcz35_20 hcz35_21 hcz35_22 hcz35_23
     try clear hcz36_0 hcz36_1 hcz36_2 hcz36_3 hcz36_4 hcz36_5 hcz36_6 hcz36_7 hcz36_8 hcz36_9 hcz36_10 hcz36_11 hcz36_12 hcz36_13 hcz36_14 hcz36_15 hcz36_16 hcz36_17 hcz36_18 hcz36_19 hcz36_20 hcz36_21 hcz36_22 hcz36_23
     try clear hcz40_0 hcz40_1 hcz40_2 hcz40_3 hcz40_4 hcz40_5 hcz40_6 hcz40_7 hcz40_8 hcz40_9 hcz40_10 hcz40_11 hcz40_12 hcz40_13 hcz40_14 hcz40_15 hcz40_16 hcz40_17 hcz40_18 hcz40_19 hcz40_20 hcz40_21 hcz40_22 hcz40_23
     try clear hcz41_0 hcz41_1 hcz41_2 hcz41_3 hcz41_4 hcz41_5 hcz41_6 hcz41_7 hcz41_8 hcz41_9 hcz41_10 hcz41_11 hcz41_12 hcz41_13 hcz41_14 hcz41_15 hcz41_16 hcz41_17 hcz41_18 hcz41_19 hcz41_20 hcz41_21 hcz41_22 hcz41_23
     try clear hcz5_0 hcz5_1 hcz5_2 hcz5_3 hcz5_4 hcz5_5 hcz5_6 hcz5_7 hcz5_8 hcz5_9 hcz5_10 hcz5_11 hcz5_12 hcz5_13 hcz5_14 hcz5_15 hcz5_16 hcz5_17 hcz5_18 hcz5_19 hcz5_20 hcz5_21 hcz5_22 hcz5_23
     try clear hcz7_0 hcz7_1 hcz7_2 hcz7_3 hcz7_4 hcz7_5 hcz7_6 hcz7_7 hcz7_8 hcz7_9 hcz7_10 hcz7_11 hcz7_12 hcz7_13 hcz7_14 hcz7_15 hcz7_16 hcz7_17 hcz7_18 hcz7_19 hcz7_20 hcz7_21 hcz7_22 hcz7_23
     try clear hfz11_0
     try clear hfz13_0
     try clear hfz15_0
     try clear hfz26_0
     try clear hfz30_0
     try clear hfz31_0
     try clear hfz35_0
     try clear hfz36_0
     try clear hfz40_0
     try clear hfz41_0
     try clear hfz5_0
     try clear hfz7_0
     try clear p2
     obtain ⟨kq, x28_17, rfl, HA, HJ17, BK206, HB⟩ := hcut
     cases kq with
     | zero => exact absurd HA.out (by simp [wire_may.j1])
     | succ kj17 =>
      have H := HA.out
      clear HA
      simp only [wire_may.j1] at H
      by_cases c45 : x28_17 = true
      ·subst c45
       have H1 : (some false) = some r := by rw [if_pos rfl] at H; exact H
       clear H
       have H := H1
       clear H1
       obtain rfl := Option.some.inj H
       go_wp2
       go_ret
       exact ⟨by first | rfl | (simp [errW_none, errW_some] <;> rfl) | (simp [*, errW_none, errW_some] <;> rfl), by repeat (first | (with_reducible first | exact HB.out | apply below_alloc | apply pw_below_drewN | apply below_drew1 | refine below_set ?_ GE206.out) | exact HB.out)⟩
      ·replace c45 := Bool.eq_false_iff.mpr c45
       subst c45
       have H1 : (if (l0_18.length : Int) > 65535 then (wire_may.j2 kj17 80 81 true a0_0 a0_1 a0_2 a0_3 a0_4 a0_5 a0_6 a0_7 a0_8 a0_9 a0_10 a0_11 a0_12 l0_13 l0_14 l0_15 a0_16 a0_17 l0_18 a0_19 a0_20 a0_21 l0_22 l0_23) else ((api_Line_82.f l0_18 77).bind fun t216 => (wire_may.j2 kj17 80 81 t216 a0_0 a0_1 a0_2 a0_3 a0_4 a0_5 a0_6 a0_7 a0_8 a0_9 a0_10 a0_11 a0_12 l0_13 l0_14 l0_15 a0_16 a0_17 l0_18 a0_19 a0_20 a0_21 l0_22 l0_23))) = some r := by rw [if_neg (show ¬ (false = true) by decide)] at H; exact H
       clear H
       have H := H1
       clear H1
       have HC46 := Aside0.mk H
       clear H
       go_upto_region 8 with (fail)
       go_cut [66] (fun v66 wc => ∃ (kq : Nat) (x66_45 : Bool), v66 = .bool x66_45 ∧ Aside0 (wire_may.j2 kq 80 81 x66_45 a0_0 a0_1 a0_2 a0_3 a0_4 a0_5 a0_6 a0_7 a0_8 a0_9 a0_10 a0_11 a0_12 l0_13 l0_14 l0_15 a0_16 a0_17 l0_18 a0_19 a0_20 a0_21 l0_22 l0_23 = some r) ∧ Aside0 (kq ≤ kj17) ∧ Aside0 (wc.heap[gb206]? = some (.cells #[.int .i64 a0_0, .int .i64 a0_1, .int .i64 a0_2, .string a0_3, .int .i64 a0_4, .int .i64 a0_5, .string a0_6, .int .i64 a0_7, .int .i64 a0_8, .int .i64 a0_9, .bool a0_10, .bool a0_11, .string a0_12, (.slice A0_13 l0_13.length c0_13), (.slice A0_14 l0_14.length c0_14), (.slice A0_15 l0_15.length c0_15), .string a0_16, .bool a0_17, (.slice A0_18 l0_18.length c0_18), .string a0_19, .int .i64 a0_20, .bool a0_21, (.slice A0_22 l0_22.length c0_22), (.slice A0_23 l0_23.length c0_23)] 54 (0, 0))) ∧ Aside0 (Below w.heap.size w wc))
       case first =>
        have H := HC46.out
        clear HC46
        by_cases c47 : (l0_18.length : Int) > 65535
        ·rw [if_pos c47] at H
         have c47b0 : decide (65535 < (l0_18.length : Int)) = true := decide_eq_true c47
         have c47b1 : decide (65535 < l0_18.length) = true := decide_eq_true (by omega)
         clear c47
         (first | rw [c47b0] | (simp only [i64_w, i32_w]; rw [c47b0]) | skip)
         have H' := Aside0.mk H
         clear H
         obtain ⟨hcz48_0, hcz48_1, hcz48_2, hcz48_3, hcz48_4, hcz48_5, hcz48_6, hcz48_7, hcz48_8, hcz48_9, hcz48_10, hcz48_11, hcz48_12, hcz48_13, hcz48_14, hcz48_15, hcz48_16, hcz48_17, hcz48_18, hcz48_19, hcz48_20, hcz48_21, hcz48_22, hcz48_23⟩ := cells_24 BK206.out
         have hfz48_0 := blk_frozen BK206.out
         go_wp2
         go_meet
         case rel => exact ⟨_, (true), qi, H', ⟨by have := HJ1.out; have := HJ17.out; first | omega | exact Nat.le_refl _⟩, ⟨by (with_reducible repeat (first | refine blk_drewN ?_ _ | refine blk_drew ?_ | refine blk_alloc ?_ _)); exact BK206.out⟩, ⟨by repeat (first | (with_reducible first | exact HB.out | apply below_alloc | apply pw_below_drewN | apply below_drew1 | refine below_set ?_ GE206.out) | exact HB.out)⟩⟩
        ·rw [if_neg c47] at H
         have c47b0 : decide (65535 < (l0_18.length : Int)) = false := decide_eq_false c47
         have c47b1 : decide (65535 < l0_18.length) = false := decide_eq_false (by omega)
         clear c47
         (first | rw [c47b0] | (simp only [i64_w, i32_w]; rw [c47b0]) | skip)
         replace H := Option.bind_eq_some_iff.mp H
         obtain ⟨t216, A490, H⟩ := H
         replace H : (wire_may.j2 kj17 80 81 t216 a0_0 a0_1 a0_2 a0_3 a0_4 a0_5 a0_6 a0_7 a0_8 a0_9 a0_10 a0_11 a0_12 l0_13 l0_14 l0_15 a0_16 a0_17 l0_18 a0_19 a0_20 a0_21 l0_22 l0_23) = some r := H
         have A49 := Aside0.mk A490
         clear A490
         have H' := Aside0.mk H
         clear H
         obtain ⟨hcz50_0, hcz50_1, hcz50_2, hcz50_3, hcz50_4, hcz50_5, hcz50_6, hcz50_7, hcz50_8, hcz50_9, hcz50_10, hcz50_11, hcz50_12, hcz50_13, hcz50_14, hcz50_15, hcz50_16, hcz50_17, hcz50_18, hcz50_19, hcz50_20, hcz50_21, hcz50_22, hcz50_23⟩ := cells_24 BK206.out
         have hfz50_0 := blk_frozen BK206.out
         go_wp2_with (first | (go_at_call 82; (with_reducible refine (api_Line_82.calls _ _ l0_18 77 t216 _ ?side1 ?side2 A49.out).mono ?_); (case side1 => repeat (first | exact (Kd.C_below HR0_18.out HB.out) | (with_reducible refine Kd.C_alloc ?_ _) | (with_reducible refine Kd.C_drewN ?_ _) | (with_reducible refine Kd.C_drew ?_))); (case side2 => exact HC0_18.out); rintro e w51 ⟨rfl, hb⟩; have n0_ := Aside0.mk (blk_below (g := gb206) (o := .cells #[.int .i64 a0_0, .int .i64 a0_1, .int .i64 a0_2, .string a0_3, .int .i64 a0_4, .int .i64 a0_5, .string a0_6, .int .i64 a0_7, .int .i64 a0_8, .int .i64 a0_9, .bool a0_10, .bool a0_11, .string a0_12, .slice A0_13 l0_13.length c0_13, .slice A0_14 l0_14.length c0_14, .slice A0_15 l0_15.length c0_15, .string a0_16, .bool a0_17, .slice A0_18 l0_18.length c0_18, .string a0_19, .int .i64 a0_20, .bool a0_21, .slice A0_22 l0_22.length c0_22, .slice A0_23 l0_23.length c0_23] 54 (0, 0)) (qc BK206.out) hb); have n1_ := Aside0.mk (below_step (qd GE206.out) hb); clear BK206; clear HB; have BK206 := n0_; have HB := n1_; clear n0_ n1_; (try clear hb); (try clear hb2); (try clear hk); (try clear hi)))
         go_meet
         case rel => exact ⟨_, (t216), qi, H', ⟨by have := HJ1.out; have := HJ17.out; first | omega | exact Nat.le_refl _⟩, ⟨by (with_reducible repeat (first | refine blk_drewN ?_ _ | refine blk_drew ?_ | refine blk_alloc ?_ _)); exact BK206.out⟩, ⟨by repeat (first | (with_reducible first | exact HB.out | apply below_alloc | apply pw_below_drewN | apply below_drew1 | refine below_set ?_ GE206.out) | exact HB.out)⟩⟩
       case rest =>
        clear HC46
        try clear p2
        try clear c4
        try clear c45
        try clear c47
        try clear c47b0
        try clear c47b1
        try clear hcz31_2 hcz31_3 hcz31_4 hcz31_5 hcz31_6 hcz31_7 hcz31_8 hcz31_9 hcz31_19 hcz31_20 hcz31_21 hcz31_22 hcz31_23
        try clear hcz35_0 hcz35_1 hcz35_2 hcz35_3 hcz35_4 hcz35_5 hcz35_6 hcz35_7 hcz35_8 hcz35_9 hcz35_10 hcz35_11 hcz35_12 hcz35_13 hcz35_14 hcz35_15 hcz35_16 hcz35_17 hcz35_18 hcz35_19 hcz35_20 hcz35_21 hcz35_22 hcz35_23
        try clear hcz36_0 hcz36_1 hcz36_2 hcz36_3 hcz36_4 hcz36_5 hcz36_6 hcz36_7 hcz36_8 hcz36_9 hcz36_10 hcz36_11 hcz36_12 hcz36_13 hcz36_14 hcz36_15 hcz36_16 hcz36_17 hcz36_18 hcz36_19 hcz36_20 hcz36_21 hcz36_22 hcz36_23
        try clear hcz40_0 hcz40_1 hcz40_2 hcz40_3 hcz40_4 hcz40_5 hcz40_6 hcz40_7 hcz40_8 hcz40_9 hcz40_10 hcz40_11 hcz40_12 hcz40_13 hcz40_14 hcz40_15 hcz40_16 hcz40_17 hcz40_18 hcz40_19 hcz40_20 hcz40_21 hcz40_22 hcz40_23
        try clear hcz41_0 hcz41_1 hcz41_2 hcz41_3 hcz41_4 hcz41_5 hcz41_6 hcz41_7 hcz41_8 hcz41_9 hcz41_10 hcz41_11 hcz41_12 hcz41_13 hcz41_14 hcz41_15 hcz41_16 hcz41_17 hcz41_18 hcz41_19 hcz41_20 hcz41_21 hcz41_22 hcz41_23
        try clear hcz48_0 hcz48_1 hcz48_2 hcz48_3 hcz48_4 hcz48_5 hcz48_6 hcz48_7 hcz48_8 hcz48_9 hcz48_10 hcz48_11 hcz48_12 hcz48_13 hcz48_14 hcz48_15 hcz48_16 hcz48_17 hcz48_18 hcz48_19 hcz48_20 hcz48_21 hcz48_22 hcz48_23
        try clear hcz50_0 hcz50_1 hcz50_2 hcz50_3 hcz50_4 hcz50_5 hcz50_6 hcz50_7 hcz50_8 hcz50_9 hcz50_10 hcz50_11 hcz50_12 hcz50_13 hcz50_14 hcz50_15 hcz50_16 hcz50_17 hcz50_18 hcz50_19 hcz50_20 hcz50_21 hcz50_22 hcz50_23
        try clear hcz5_0 hcz5_1 hcz5_2 hcz5_3 hcz5_4 hcz5_5 hcz5_6 hcz5_7 hcz5_8 hcz5_9 hcz5_10 hcz5_11 hcz5_12 hcz5_13 hcz5_14 hcz5_15 hcz5_16 hcz5_17 hcz5_18 hcz5_19 hcz5_20 hcz5_21 hcz5_22 hcz5_23
        try clear hcz7_0 hcz7_1 hcz7_2 hcz7_3 hcz7_4 hcz7_5 hcz7_6 hcz7_7 hcz7_8 hcz7_9 hcz7_10 hcz7_11 hcz7_12 hcz7_13 hcz7_14 hcz7_15 hcz7_16 hcz7_17 hcz7_18 hcz7_19 hcz7_20 hcz7_21 hcz7_22 hcz7_23
        try clear hfz11_0
        try clear hfz13_0
        try clear hfz15_0
        try clear hfz26_0
        try clear hfz30_0
        try clear hfz31_0
        try clear hfz35_0
        try clear hfz36_0
        try clear hfz40_0
        try clear hfz41_0
        try clear hfz48_0
        try clear hfz50_0
        try clear hfz5_0
        try clear hfz7_0
        try clear p2
        obtain ⟨kq, x66_45, rfl, HA, HJ45, BK206, HB⟩ := hcut
        cases kq with
        | zero => exact absurd HA.out (by simp [wire_may.j2])
        | succ kj45 =>
         have H := HA.out
         clear HA
         simp only [wire_may.j2] at H
         by_cases c52 : x66_45 = true
         ·subst c52
          have H1 : (some false) = some r := by rw [if_pos rfl] at H; exact H
          clear H
          have H := H1
          clear H1
          obtain rfl := Option.some.inj H
          go_wp2
          go_ret
          exact ⟨by first | rfl | (simp [errW_none, errW_some] <;> rfl) | (simp [*, errW_none, errW_some] <;> rfl), by repeat (first | (with_reducible first | exact HB.out | apply below_alloc | apply pw_below_drewN | apply below_drew1 | refine below_set ?_ GE206.out) | exact HB.out)⟩
         ·replace c52 := Bool.eq_false_iff.mpr c52
          subst c52
          have H1 : (if (l0_22.length : Int) ≤ 65535 then ((api_Upload_83.f l0_22 80).bind fun t217 => (if t217 = true then (some false) else (if (l0_23.length : Int) ≤ 65535 then ((api_UploadPart_84.f l0_23 81).bind fun t218 => (some (!t218))) else (some false)))) else (some false)) = some r := by rw [if_neg (show ¬ (false = true) by decide)] at H; exact H
          clear H
          have H := H1
          clear H1
          by_cases c53 : (l0_22.length : Int) ≤ 65535
          ·rw [if_pos c53] at H
           have c53b0 : decide ((l0_22.length : Int) ≤ 65535) = true := decide_eq_true c53
           have c53b1 : decide (l0_22.length ≤ 65535) = true := decide_eq_true (by omega)
           clear c53
           replace H := Option.bind_eq_some_iff.mp H
           obtain ⟨t217, A540, H⟩ := H
           replace H : (if t217 = true then (some false) else (if (l0_23.length : Int) ≤ 65535 then ((api_UploadPart_84.f l0_23 81).bind fun t218 => (some (!t218))) else (some false))) = some r := H
           have A54 := Aside0.mk A540
           clear A540
           by_cases c55 : t217 = true
           ·subst c55
            have H1 : (some false) = some r := by rw [if_pos rfl] at H; exact H
            clear H
            have H := H1
            clear H1
            obtain rfl := Option.some.inj H
            obtain ⟨hcz56_0, hcz56_1, hcz56_2, hcz56_3, hcz56_4, hcz56_5, hcz56_6, hcz56_7, hcz56_8, hcz56_9, hcz56_10, hcz56_11, hcz56_12, hcz56_13, hcz56_14, hcz56_15, hcz56_16, hcz56_17, hcz56_18, hcz56_19, hcz56_20, hcz56_21, hcz56_22, hcz56_23⟩ := cells_24 BK206.out
            have hfz56_0 := blk_frozen BK206.out
            go_wp2_with (first | (go_at_call 83; (with_reducible refine (api_Upload_83.calls _ _ l0_22 80 true _ ?side1 ?side2 A54.out).mono ?_); (case side1 => repeat (first | exact (Kd.C_below HR0_22.out HB.out) | (with_reducible refine Kd.C_alloc ?_ _) | (with_reducible refine Kd.C_drewN ?_ _) | (with_reducible refine Kd.C_drew ?_))); (case side2 => exact HC0_22.out); rintro e w57 ⟨rfl, hb⟩; have n0_ := Aside0.mk (blk_below (g := gb206) (o := .cells #[.int .i64 a0_0, .int .i64 a0_1, .int .i64 a0_2, .string a0_3, .int .i64 a0_4, .int .i64 a0_5, .string a0_6, .int .i64 a0_7, .int .i64 a0_8, .int .i64 a0_9, .bool a0_10, .bool a0_11, .string a0_12, .slice A0_13 l0_13.length c0_13, .slice A0_14 l0_14.length c0_14, .slice A0_15 l0_15.length c0_15, .string a0_16, .bool a0_17, .slice A0_18 l0_18.length c0_18, .string a0_19, .int .i64 a0_20, .bool a0_21, .slice A0_22 l0_22.length c0_22, .slice A0_23 l0_23.length c0_23] 54 (0, 0)) (qc BK206.out) hb); have n1_ := Aside0.mk (below_step (qd GE206.out) hb); clear BK206; clear HB; have BK206 := n0_; have HB := n1_; clear n0_ n1_; (try clear hb); (try clear hb2); (try clear hk); (try clear hi)))
            go_ret
            exact ⟨by first | rfl | (simp [errW_none, errW_some] <;> rfl) | (simp [*, errW_none, errW_some] <;> rfl), by repeat (first | (with_reducible first | exact HB.out | apply below_alloc | apply pw_below_drewN | apply below_drew1 | refine below_set ?_ GE206.out) | exact HB.out)⟩
           ·replace c55 := Bool.eq_false_iff.mpr c55
            subst c55
            have H1 : (if (l0_23.length : Int) ≤ 65535 then ((api_UploadPart_84.f l0_23 81).bind fun t218 => (some (!t218))) else (some false)) = some r := by rw [if_neg (show ¬ (false = true) by decide)] at H; exact H
            clear H
            have H := H1
            clear H1
            by_cases c58 : (l0_23.length : Int) ≤ 65535
            ·rw [if_pos c58] at H
             have c58b0 : decide ((l0_23.length : Int) ≤ 65535) = true := decide_eq_true c58
             have c58b1 : decide (l0_23.length ≤ 65535) = true := decide_eq_true (by omega)
             clear c58
             replace H := Option.bind_eq_some_iff.mp H
             obtain ⟨t218, A590, H⟩ := H
             replace H : (some (!t218)) = some r := H
             have A59 := Aside0.mk A590
             clear A590
             obtain rfl := Option.some.inj H
             obtain ⟨hcz60_0, hcz60_1, hcz60_2, hcz60_3, hcz60_4, hcz60_5, hcz60_6, hcz60_7, hcz60_8, hcz60_9, hcz60_10, hcz60_11, hcz60_12, hcz60_13, hcz60_14, hcz60_15, hcz60_16, hcz60_17, hcz60_18, hcz60_19, hcz60_20, hcz60_21, hcz60_22, hcz60_23⟩ := cells_24 BK206.out
             have hfz60_0 := blk_frozen BK206.out
             go_wp2_with (first | (go_at_call 83; (with_reducible refine (api_Upload_83.calls _ _ l0_22 80 false _ ?side1 ?side2 A54.out).mono ?_); (case side1 => repeat (first | exact (Kd.C_below HR0_22.out HB.out) | (with_reducible refine Kd.C_alloc ?_ _) | (with_reducible refine Kd.C_drewN ?_ _) | (with_reducible refine Kd.C_drew ?_))); (case side2 => exact HC0_22.out); rintro e w61 ⟨rfl, hb⟩; have n0_ := Aside0.mk (blk_below (g := gb206) (o := .cells #[.int .i64 a0_0, .int .i64 a0_1, .int .i64 a0_2, .string a0_3, .int .i64 a0_4, .int .i64 a0_5, .string a0_6, .int .i64 a0_7, .int .i64 a0_8, .int .i64 a0_9, .bool a0_10, .bool a0_11, .string a0_12, .slice A0_13 l0_13.length c0_13, .slice A0_14 l0_14.length c0_14, .slice A0_15 l0_15.length c0_15, .string a0_16, .bool a0_17, .slice A0_18 l0_18.length c0_18, .string a0_19, .int .i64 a0_20, .bool a0_21, .slice A0_22 l0_22.length c0_22, .slice A0_23 l0_23.length c0_23] 54 (0, 0)) (qc BK206.out) hb); have n1_ := Aside0.mk (below_step (qd GE206.out) hb); clear BK206; clear HB; have BK206 := n0_; have HB := n1_; clear n0_ n1_; (try clear hb); (try clear hb2); (try clear hk); (try clear hi); have hcz62_0 : w61.cell? ⟨gb206, 0, none⟩ = some (.int .i64 a0_0) := (blk_cell BK206.out 0).trans rfl; have hcz62_1 : w61.cell? ⟨gb206, 1, none⟩ = some (.int .i64 a0_1) := (blk_cell BK206.out 1).trans rfl; have hcz62_2 : w61.cell? ⟨gb206, 2, none⟩ = some (.int .i64 a0_2) := (blk_cell BK206.out 2).trans rfl; have hcz62_3 : w61.cell? ⟨gb206, 3, none⟩ = some (.string a0_3) := (blk_cell BK206.out 3).trans rfl; have hcz62_4 : w61.cell? ⟨gb206, 4, none⟩ = some (.int .i64 a0_4) := (blk_cell BK206.out 4).trans rfl; have hcz62_5 : w61.cell? ⟨gb206, 5, none⟩ = some (.int .i64 a0_5) := (blk_cell BK206.out 5).trans rfl; have hcz62_6 : w61.cell? ⟨gb206, 6, none⟩ = some (.string a0_6) := (blk_cell BK206.out 6).trans rfl; have hcz62_7 : w61.cell? ⟨gb206, 7, none⟩ = some (.int .i64 a0_7) := (blk_cell BK206.out 7).trans rfl; have hcz62_8 : w61.cell? ⟨gb206, 8, none⟩ = some (.int .i64 a0_8) := (blk_cell BK206.out 8).trans rfl; have hcz62_9 : w61.cell? ⟨gb206, 9, none⟩ = some (.int .i64 a0_9) := (blk_cell BK206.out 9).trans rfl; have hcz62_10 : w61.cell? ⟨gb206, 10, none⟩ = some (.bool a0_10) := (blk_cell BK206.out 10).trans rfl; have hcz62_11 : w61.cell? ⟨gb206, 11, none⟩ = some (.bool a0_11) := (blk_cell BK206.out 11).trans rfl; have hcz62_12 : w61.cell? ⟨gb206, 12, none⟩ = some (.string a0_12) := (blk_cell BK206.out 12).trans rfl; have hcz62_13 : w61.cell? ⟨gb206, 13, none⟩ = some (.slice A0_13 l0_13.length c0_13) := (blk_cell BK206.out 13).trans rfl; have hcz62_14 : w61.cell? ⟨gb206, 14, none⟩ = some (.slice A0_14 l0_14.length c0_14) := (blk_cell BK206.out 14).trans rfl; have hcz62_15 : w61.cell? ⟨gb206, 15, none⟩ = some (.slice A0_15 l0_15.length c0_15) := (blk_cell BK206.out 15).trans rfl; have hcz62_16 : w61.cell? ⟨gb206, 16, none⟩ = some (.string a0_16) := (blk_cell BK206.out 16).trans rfl; have hcz62_17 : w61.cell? ⟨gb206, 17, none⟩ = some (.bool a0_17) := (blk_cell BK206.out 17).trans rfl; have hcz62_18 : w61.cell? ⟨gb206, 18, none⟩ = some (.slice A0_18 l0_18.length c0_18) := (blk_cell BK206.out 18).trans rfl; have hcz62_19 : w61.cell? ⟨gb206, 19, none⟩ = some (.string a0_19) := (blk_cell BK206.out 19).trans rfl; have hcz62_20 : w61.cell? ⟨gb206, 20, none⟩ = some (.int .i64 a0_20) := (blk_cell BK206.out 20).trans rfl; have hcz62_21 : w61.cell? ⟨gb206, 21, none⟩ = some (.bool a0_21) := (blk_cell BK206.out 21).trans rfl; have hcz62_22 : w61.cell? ⟨gb206, 22, none⟩ = some (.slice A0_22 l0_22.length c0_22) := (blk_cell BK206.out 22).trans rfl; have hcz62_23 : w61.cell? ⟨gb206, 23, none⟩ = some (.slice A0_23 l0_23.length c0_23) := (blk_cell BK206.out 23).trans rfl; have hfz62_0 := blk_frozen BK206.out 0; have hfz62_1 := blk_frozen BK206.out 1; have hfz62_2 := blk_frozen BK206.out 2; have hfz62_3 := blk_frozen BK206.out 3; have hfz62_4 := blk_frozen BK206.out 4; have hfz62_5 := blk_frozen BK206.out 5; have hfz62_6 := blk_frozen BK206.out 6; have hfz62_7 := blk_frozen BK206.out 7; have hfz62_8 := blk_frozen BK206.out 8; have hfz62_9 := blk_frozen BK206.out 9; have hfz62_10 := blk_frozen BK206.out 10; have hfz62_11 := blk_frozen BK206.out 11; have hfz62_12 := blk_frozen BK206.out 12; have hfz62_13 := blk_frozen BK206.out 13; have hfz62_14 := blk_frozen BK206.out 14; have hfz62_15 := blk_frozen BK206.out 15; have hfz62_16 := blk_frozen BK206.out 16; have hfz62_17 := blk_frozen BK206.out 17; have hfz62_18 := blk_frozen BK206.out 18; have hfz62_19 := blk_frozen BK206.out 19; have hfz62_20 := blk_frozen BK206.out 20; have hfz62_21 := blk_frozen BK206.out 21; have hfz62_22 := blk_frozen BK206.out 22; have hfz62_23 := blk_frozen BK206.out 23) | (go_at_call 84; (with_reducible refine (api_UploadPart_84.calls _ _ l0_23 81 t218 _ ?side1 ?side2 A59.out).mono ?_); (case side1 => repeat (first | exact (Kd.C_below HR0_23.out HB.out) | (with_reducible refine Kd.C_alloc ?_ _) | (with_reducible refine Kd.C_drewN ?_ _) | (with_reducible refine Kd.C_drew ?_))); (case side2 => exact HC0_23.out); rintro e w63 ⟨rfl, hb⟩; have n0_ := Aside0.mk (blk_below (g := gb206) (o := .cells #[.int .i64 a0_0, .int .i64 a0_1, .int .i64 a0_2, .string a0_3, .int .i64 a0_4, .int .i64 a0_5, .string a0_6, .int .i64 a0_7, .int .i64 a0_8, .int .i64 a0_9, .bool a0_10, .bool a0_11, .string a0_12, .slice A0_13 l0_13.length c0_13, .slice A0_14 l0_14.length c0_14, .slice A0_15 l0_15.length c0_15, .string a0_16, .bool a0_17, .slice A0_18 l0_18.length c0_18, .string a0_19, .int .i64 a0_20, .bool a0_21, .slice A0_22 l0_22.length c0_22, .slice A0_23 l0_23.length c0_23] 54 (0, 0)) (qc BK206.out) hb); have n1_ := Aside0.mk (below_step (qd GE206.out) hb); clear BK206; clear HB; have BK206 := n0_; have HB := n1_; clear n0_ n1_; (try clear hb); (try clear hb2); (try clear hk); (try clear hi)))
             go_ret
             exact ⟨by first | rfl | (simp [errW_none, errW_some] <;> rfl) | (simp [*, errW_none, errW_some] <;> rfl), by repeat (first | (with_reducible first | exact HB.out | apply below_alloc | apply pw_below_drewN | apply below_drew1 | refine below_set ?_ GE206.out) | exact HB.out)⟩
            ·rw [if_neg c58] at H
             have c58b0 : decide ((l0_23.length : Int) ≤ 65535) = false := decide_eq_false c58
             have c58b1 : decide (l0_23.length ≤ 65535) = false := decide_eq_false (by omega)
             clear c58
             obtain rfl := Option.some.inj H
             obtain ⟨hcz64_0, hcz64_1, hcz64_2, hcz64_3, hcz64_4, hcz64_5, hcz64_6, hcz64_7, hcz64_8, hcz64_9, hcz64_10, hcz64_11, hcz64_12, hcz64_13, hcz64_14, hcz64_15, hcz64_16, hcz64_17, hcz64_18, hcz64_19, hcz64_20, hcz64_21, hcz64_22, hcz64_23⟩ := cells_24 BK206.out
             have hfz64_0 := blk_frozen BK206.out
             go_wp2_with (first | (go_at_call 83; (with_reducible refine (api_Upload_83.calls _ _ l0_22 80 false _ ?side1 ?side2 A54.out).mono ?_); (case side1 => repeat (first | exact (Kd.C_below HR0_22.out HB.out) | (with_reducible refine Kd.C_alloc ?_ _) | (with_reducible refine Kd.C_drewN ?_ _) | (with_reducible refine Kd.C_drew ?_))); (case side2 => exact HC0_22.out); rintro e w65 ⟨rfl, hb⟩; have n0_ := Aside0.mk (blk_below (g := gb206) (o := .cells #[.int .i64 a0_0, .int .i64 a0_1, .int .i64 a0_2, .string a0_3, .int .i64 a0_4, .int .i64 a0_5, .string a0_6, .int .i64 a0_7, .int .i64 a0_8, .int .i64 a0_9, .bool a0_10, .bool a0_11, .string a0_12, .slice A0_13 l0_13.length c0_13, .slice A0_14 l0_14.length c0_14, .slice A0_15 l0_15.length c0_15, .string a0_16, .bool a0_17, .slice A0_18 l0_18.length c0_18, .string a0_19, .int .i64 a0_20, .bool a0_21, .slice A0_22 l0_22.length c0_22, .slice A0_23 l0_23.length c0_23] 54 (0, 0)) (qc BK206.out) hb); have n1_ := Aside0.mk (below_step (qd GE206.out) hb); clear BK206; clear HB; have BK206 := n0_; have HB := n1_; clear n0_ n1_; (try clear hb); (try clear hb2); (try clear hk); (try clear hi); have hcz66_0 : w65.cell? ⟨gb206, 0, none⟩ = some (.int .i64 a0_0) := (blk_cell BK206.out 0).trans rfl; have hcz66_1 : w65.cell? ⟨gb206, 1, none⟩ = some (.int .i64 a0_1) := (blk_cell BK206.out 1).trans rfl; have hcz66_2 : w65.cell? ⟨gb206, 2, none⟩ = some (.int .i64 a0_2) := (blk_cell BK206.out 2).trans rfl; have hcz66_3 : w65.cell? ⟨gb206, 3, none⟩ = some (.string a0_3) := (blk_cell BK206.out 3).trans rfl; have hcz66_4 : w65.cell? ⟨gb206, 4, none⟩ = some (.int .i64 a0_4) := (blk_cell BK206.out 4).trans rfl; have hcz66_5 : w65.cell? ⟨gb206, 5, none⟩ = some (.int .i64 a0_5) := (blk_cell BK206.out 5).trans rfl; have hcz66_6 : w65.cell? ⟨gb206, 6, none⟩ = some (.string a0_6) := (blk_cell BK206.out 6).trans rfl; have hcz66_7 : w65.cell? ⟨gb206, 7, none⟩ = some (.int .i64 a0_7) := (blk_cell BK206.out 7).trans rfl; have hcz66_8 : w65.cell? ⟨gb206, 8, none⟩ = some (.int .i64 a0_8) := (blk_cell BK206.out 8).trans rfl; have hcz66_9 : w65.cell? ⟨gb206, 9, none⟩ = some (.int .i64 a0_9) := (blk_cell BK206.out 9).trans rfl; have hcz66_10 : w65.cell? ⟨gb206, 10, none⟩ = some (.bool a0_10) := (blk_cell BK206.out 10).trans rfl; have hcz66_11 : w65.cell? ⟨gb206, 11, none⟩ = some (.bool a0_11) := (blk_cell BK206.out 11).trans rfl; have hcz66_12 : w65.cell? ⟨gb206, 12, none⟩ = some (.string a0_12) := (blk_cell BK206.out 12).trans rfl; have hcz66_13 : w65.cell? ⟨gb206, 13, none⟩ = some (.slice A0_13 l0_13.length c0_13) := (blk_cell BK206.out 13).trans rfl; have hcz66_14 : w65.cell? ⟨gb206, 14, none⟩ = some (.slice A0_14 l0_14.length c0_14) := (blk_cell BK206.out 14).trans rfl; have hcz66_15 : w65.cell? ⟨gb206, 15, none⟩ = some (.slice A0_15 l0_15.length c0_15) := (blk_cell BK206.out 15).trans rfl; have hcz66_16 : w65.cell? ⟨gb206, 16, none⟩ = some (.string a0_16) := (blk_cell BK206.out 16).trans rfl; have hcz66_17 : w65.cell? ⟨gb206, 17, none⟩ = some (.bool a0_17) := (blk_cell BK206.out 17).trans rfl; have hcz66_18 : w65.cell? ⟨gb206, 18, none⟩ = some (.slice A0_18 l0_18.length c0_18) := (blk_cell BK206.out 18).trans rfl; have hcz66_19 : w65.cell? ⟨gb206, 19, none⟩ = some (.string a0_19) := (blk_cell BK206.out 19).trans rfl; have hcz66_20 : w65.cell? ⟨gb206, 20, none⟩ = some (.int .i64 a0_20) := (blk_cell BK206.out 20).trans rfl; have hcz66_21 : w65.cell? ⟨gb206, 21, none⟩ = some (.bool a0_21) := (blk_cell BK206.out 21).trans rfl; have hcz66_22 : w65.cell? ⟨gb206, 22, none⟩ = some (.slice A0_22 l0_22.length c0_22) := (blk_cell BK206.out 22).trans rfl; have hcz66_23 : w65.cell? ⟨gb206, 23, none⟩ = some (.slice A0_23 l0_23.length c0_23) := (blk_cell BK206.out 23).trans rfl; have hfz66_0 := blk_frozen BK206.out 0; have hfz66_1 := blk_frozen BK206.out 1; have hfz66_2 := blk_frozen BK206.out 2; have hfz66_3 := blk_frozen BK206.out 3; have hfz66_4 := blk_frozen BK206.out 4; have hfz66_5 := blk_frozen BK206.out 5; have hfz66_6 := blk_frozen BK206.out 6; have hfz66_7 := blk_frozen BK206.out 7; have hfz66_8 := blk_frozen BK206.out 8; have hfz66_9 := blk_frozen BK206.out 9; have hfz66_10 := blk_frozen BK206.out 10; have hfz66_11 := blk_frozen BK206.out 11; have hfz66_12 := blk_frozen BK206.out 12; have hfz66_13 := blk_frozen BK206.out 13; have hfz66_14 := blk_frozen BK206.out 14; have hfz66_15 := blk_frozen BK206.out 15; have hfz66_16 := blk_frozen BK206.out 16; have hfz66_17 := blk_frozen BK206.out 17; have hfz66_18 := blk_frozen BK206.out 18; have hfz66_19 := blk_frozen BK206.out 19; have hfz66_20 := blk_frozen BK206.out 20; have hfz66_21 := blk_frozen BK206.out 21; have hfz66_22 := blk_frozen BK206.out 22; have hfz66_23 := blk_frozen BK206.out 23))
             go_ret
             exact ⟨by first | rfl | (simp [errW_none, errW_some] <;> rfl) | (simp [*, errW_none, errW_some] <;> rfl), by repeat (first | (with_reducible first | exact HB.out | apply below_alloc | apply pw_below_drewN | apply below_drew1 | refine below_set ?_ GE206.out) | exact HB.out)⟩
          ·rw [if_neg c53] at H
           have c53b0 : decide ((l0_22.length : Int) ≤ 65535) = false := decide_eq_false c53
           have c53b1 : decide (l0_22.length ≤ 65535) = false := decide_eq_false (by omega)
           clear c53
           obtain rfl := Option.some.inj H
           obtain ⟨hcz67_0, hcz67_1, hcz67_2, hcz67_3, hcz67_4, hcz67_5, hcz67_6, hcz67_7, hcz67_8, hcz67_9, hcz67_10, hcz67_11, hcz67_12, hcz67_13, hcz67_14, hcz67_15, hcz67_16, hcz67_17, hcz67_18, hcz67_19, hcz67_20, hcz67_21, hcz67_22, hcz67_23⟩ := cells_24 BK206.out
           have hfz67_0 := blk_frozen BK206.out
           go_wp2
           go_ret
           exact ⟨by first | rfl | (simp [errW_none, errW_some] <;> rfl) | (simp [*, errW_none, errW_some] <;> rfl), by repeat (first | (with_reducible first | exact HB.out | apply below_alloc | apply pw_below_drewN | apply below_drew1 | refine below_set ?_ GE206.out) | exact HB.out)⟩
end Go.Proofs.Ytmdgdndidfcapaa.QB
