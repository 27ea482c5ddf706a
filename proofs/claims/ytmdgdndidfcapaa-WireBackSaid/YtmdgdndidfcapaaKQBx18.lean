import Derived.Test.YtmdgdndidfcapaaKQBx15
import Derived.Test.YtmdgdndidfcapaaKQBx17
namespace Go.Proofs.Ytmdgdndidfcapaa.QB
open Go.RowKit Go.Proofs.YtmdgdndidfcapaaW.PrintWords Go.Proofs.YtmdgdndidfcapaaW.PrintLast Go.Proofs.YtmdgdndidfcapaaW.PrintMore
attribute [local go_sem] max2_int min2_int max_two min_two max_three min_three max_four min_four   -- for this text's walks alone
set_option linter.unusedVariables false
set_option linter.unusedSimpArgs false
mutual
def wire_Answer.l0 : Nat → List Int → List (S87) → Int → Int → Int → Int → Int → ByteArray → Int → Int → ByteArray → Int → Int → Int → Bool → Bool → ByteArray → List ByteArray → List ByteArray → List ByteArray → ByteArray → Bool → List (S123) → ByteArray → Int → Bool → List (S87) → List (S89) → Option (List Int × Int)
 | 0, _, _, _, _, _, _, _, _, _, _, _, _, _, _, _, _, _, _, _, _, _, _, _, _, _, _, _, _ => none
 | k + 1, x4, x70, x71, x72, x285000, x285001, x285002, x285003, x285004, x285005, x285006, x285007, x285008, x285009, x285010, x285011, x285012, x285013, x285014, x285015, x285016, x285017, x285018, x285019, x285020, x285021, x285022, x285023 => if x72 < x71 then (if 0 ≤ x72 then (if x72 < (x70.length : Int) then ((field_PutText.f k x4 ((rd_T87 x70 x72).f0)).bind fun t333 => ((field_Put64.f k t333 ((rd_T87 x70 x72).f1)).bind fun t336 => (wire_Answer.l0 k t336 x70 x71 (wrap64 (x72 + 1)) x285000 x285001 x285002 x285003 x285004 x285005 x285006 x285007 x285008 x285009 x285010 x285011 x285012 x285013 x285014 x285015 x285016 x285017 x285018 x285019 x285020 x285021 x285022 x285023))) else (none)) else (none)) else ((field_Put16.f k x4 (x285023.length : Int)).bind fun t339 => (wire_Answer.l1 k t339 x285023 (x285023.length : Int) 0))
def wire_Answer.l1 : Nat → List Int → List (S89) → Int → Int → Option (List Int × Int)
 | 0, _, _, _, _ => none
 | k + 1, x4, x90, x91, x92 => if x92 < x91 then (if 0 ≤ x92 then (if x92 < (x90.length : Int) then ((field_Put16.f k x4 ((rd_T89 x90 x92).f0)).bind fun t344 => ((wire_putHead.f k t344 ((rd_T89 x90 x92).f1.f0) ((rd_T89 x90 x92).f1.f1.f0) ((rd_T89 x90 x92).f1.f1.f1) ((rd_T89 x90 x92).f1.f2) ((rd_T89 x90 x92).f1.f3)).bind fun t347 => (wire_Answer.l1 k t347 x90 x91 (wrap64 (x92 + 1))))) else (none)) else (none)) else (some (x4, 0))
end
def wire_Answer.f (k : Nat) (a0_0 : Int) (a0_1 : Int) (a0_2 : Int) (a0_3 : ByteArray) (a0_4 : Int) (a0_5 : Int) (a0_6 : ByteArray) (a0_7 : Int) (a0_8 : Int) (a0_9 : Int) (a0_10 : Bool) (a0_11 : Bool) (a0_12 : ByteArray) (l0_13 : List ByteArray) (l0_14 : List ByteArray) (l0_15 : List ByteArray) (a0_16 : ByteArray) (a0_17 : Bool) (l0_18 : List (S123)) (a0_19 : ByteArray) (a0_20 : Int) (a0_21 : Bool) (l0_22 : List (S87)) (l0_23 : List (S89)) : Option (List Int × Int) := (wire_may.f k a0_0 a0_1 a0_2 a0_3 a0_4 a0_5 a0_6 a0_7 a0_8 a0_9 a0_10 a0_11 a0_12 l0_13 l0_14 l0_15 a0_16 a0_17 l0_18 a0_19 a0_20 a0_21 l0_22 l0_23).bind fun t285 => (if t285 = true then ((field_Put8.f k ([] : List Int) a0_0).bind fun t286 => ((field_Put64.f k t286 a0_1).bind fun t289 => ((field_Put64.f k t289 a0_2).bind fun t292 => ((field_PutText.f k t292 a0_3).bind fun t295 => ((wire_putTag.f k t295 a0_4 a0_5).bind fun t298 => ((field_PutText.f k t298 a0_6).bind fun t301 => ((wire_putHead.f k t301 a0_7 a0_8 a0_9 a0_10 a0_11).bind fun t304 => ((field_PutText.f k t304 a0_12).bind fun t307 => ((wire_putTexts.f k t307 l0_13).bind fun t310 => ((wire_putTexts.f k t310 l0_14).bind fun t313 => ((wire_putTexts.f k t313 l0_15).bind fun t316 => ((field_PutText.f k t316 a0_16).bind fun t319 => ((wire_putTruth.f t319 a0_17).bind fun t322 => ((wire_putLines.f k t322 l0_18 a0_19 a0_20 a0_21).bind fun t325 => ((field_Put16.f k t325 (l0_22.length : Int)).bind fun t328 => (wire_Answer.l0 k t328 l0_22 (l0_22.length : Int) 0 a0_0 a0_1 a0_2 a0_3 a0_4 a0_5 a0_6 a0_7 a0_8 a0_9 a0_10 a0_11 a0_12 l0_13 l0_14 l0_15 a0_16 a0_17 l0_18 a0_19 a0_20 a0_21 l0_22 l0_23)))))))))))))))) else (some (([] : List Int), 4)))
def wire_Answer.T3 : Bool × List (List Nat × List Nat) := (true, [([], []), ([0], [0]), ([1], [1]), ([], []), ([3], [3]), ([2, 4, 2], [2, 4]), ([], []), ([6], [6]), ([5, 7, 5], [5, 7]), ([], []), ([9], [9]), ([8, 10, 8], [8, 10]), ([], []), ([12], [12]), ([11, 13, 11], [11, 13]), ([14, 14, 0, 1, 2, 3, 4, 5, 6, 7, 8, 9, 10, 11, 12, 13, 14], [14])])
def wire_Answer.B3 : List Nat := [0, 1, 3, 0, 8, 31, 0, 64, 255, 0, 512, 2047, 0, 4096, 16383, 32767]
theorem wire_Answer.tab3 : rtab .any (opsOf Try.f14 3) = wire_Answer.T3 := by kernel_rfl
theorem wire_Answer.bits3 : waitsOk wire_Answer.T3.2 wire_Answer.B3 = true := by kernel_rfl
def wire_Answer.T4 : Bool × List (List Nat × List Nat) := (true, [([], []), ([], []), ([1], [1]), ([2], [2]), ([0, 3], [0, 3]), ([], []), ([5], [5]), ([6], [6]), ([4, 7, 4], [4, 7]), ([], []), ([9], [9]), ([10], [10]), ([8, 11, 8], [8, 11]), ([12, 12, 0, 1, 2, 3, 4, 5, 6, 7, 8, 9, 10, 11, 12], [0, 12])])
def wire_Answer.B4 : List Nat := [0, 0, 2, 6, 15, 0, 32, 96, 255, 0, 512, 1536, 4095, 8191]
theorem wire_Answer.tab4 : rtab .any (opsOf Try.f14 4) = wire_Answer.T4 := by kernel_rfl
theorem wire_Answer.bits4 : waitsOk wire_Answer.T4.2 wire_Answer.B4 = true := by kernel_rfl
def wire_Answer.T5 : Bool × List (List Nat × List Nat) := (true, [([], []), ([], []), ([1], [1]), ([0, 2], [0, 2]), ([], []), ([4], [4]), ([5], [5]), ([3, 6, 3], [3, 6]), ([], []), ([8], [8]), ([9], [9]), ([7, 10, 7], [7, 10]), ([11, 11, 0, 1, 2, 3, 4, 5, 6, 7, 8, 9, 10, 11], [0, 11])])
def wire_Answer.B5 : List Nat := [0, 0, 2, 7, 0, 16, 48, 127, 0, 256, 768, 2047, 4095]
theorem wire_Answer.tab5 : rtab .any (opsOf Try.f14 5) = wire_Answer.T5 := by kernel_rfl
theorem wire_Answer.bits5 : waitsOk wire_Answer.T5.2 wire_Answer.B5 = true := by kernel_rfl
def wire_Answer.T6 : Bool × List (List Nat × List Nat) := (true, [([], []), ([], []), ([1], [1]), ([2], [2]), ([0, 3], [0, 3]), ([], []), ([5], [5]), ([6], [6]), ([4, 7, 4], [4, 7]), ([], []), ([9], [9]), ([8, 10, 8], [8, 10]), ([11, 11, 0, 1, 2, 3, 4, 5, 6, 7, 8, 9, 10, 11], [0, 11])])
def wire_Answer.B6 : List Nat := [0, 0, 2, 6, 15, 0, 32, 96, 255, 0, 512, 2047, 4095]
theorem wire_Answer.tab6 : rtab .any (opsOf Try.f14 6) = wire_Answer.T6 := by kernel_rfl
theorem wire_Answer.bits6 : waitsOk wire_Answer.T6.2 wire_Answer.B6 = true := by kernel_rfl
def wire_Answer.T11 : Bool × List (List Nat × List Nat) := (true, [([], []), ([], []), ([1], [1]), ([0, 2], [0, 2]), ([], []), ([4], [4]), ([3, 5, 3], [3, 5]), ([6, 6, 0, 1, 2, 3, 4, 5, 6], [0, 6])])
def wire_Answer.B11 : List Nat := [0, 0, 2, 7, 0, 16, 63, 127]
theorem wire_Answer.tab11 : rtab .any (opsOf Try.f14 11) = wire_Answer.T11 := by kernel_rfl
theorem wire_Answer.bits11 : waitsOk wire_Answer.T11.2 wire_Answer.B11 = true := by kernel_rfl
def wire_Answer.T17 : Bool × List (List Nat × List Nat) := (true, [([], []), ([], []), ([1], [1]), ([0, 2], [0, 2]), ([], []), ([4], [4]), ([3, 5, 3], [3, 5]), ([6, 6, 0, 1, 2, 3, 4, 5, 6], [0, 6])])
def wire_Answer.B17 : List Nat := [0, 0, 2, 7, 0, 16, 63, 127]
theorem wire_Answer.tab17 : rtab .any (opsOf Try.f14 17) = wire_Answer.T17 := by kernel_rfl
theorem wire_Answer.bits17 : waitsOk wire_Answer.T17.2 wire_Answer.B17 = true := by kernel_rfl
set_option maxHeartbeats 8000000 in
set_option maxRecDepth 100000 in
theorem wire_Answer.calls (k : Nat) (a0_0 : Int) (a0_1 : Int) (a0_2 : Int) (a0_3 : ByteArray) (a0_4 : Int) (a0_5 : Int) (a0_6 : ByteArray) (a0_7 : Int) (a0_8 : Int) (a0_9 : Int) (a0_10 : Bool) (a0_11 : Bool) (a0_12 : ByteArray) (A0_13 : Option Addr) (c0_13 : Nat) (l0_13 : List ByteArray) (A0_14 : Option Addr) (c0_14 : Nat) (l0_14 : List ByteArray) (A0_15 : Option Addr) (c0_15 : Nat) (l0_15 : List ByteArray) (a0_16 : ByteArray) (a0_17 : Bool) (A0_18 : Option Addr) (c0_18 : Nat) (l0_18 : List (S123)) (a0_19 : ByteArray) (a0_20 : Int) (a0_21 : Bool) (A0_22 : Option Addr) (c0_22 : Nat) (l0_22 : List (S87)) (A0_23 : Option Addr) (c0_23 : Nat) (l0_23 : List (S89)) (r1 : List Int) (r2 : Int) (w : World) (hr0_13 : Kd.C Kd.string w A0_13 l0_13.length l0_13) (hc0_13 : l0_13.length ≤ c0_13) (hr0_14 : Kd.C Kd.string w A0_14 l0_14.length l0_14) (hc0_14 : l0_14.length ≤ c0_14) (hr0_15 : Kd.C Kd.string w A0_15 l0_15.length l0_15) (hc0_15 : l0_15.length ≤ c0_15) (hr0_18 : Kd.C k123 w A0_18 l0_18.length l0_18) (hc0_18 : l0_18.length ≤ c0_18) (hr0_22 : Kd.C k87 w A0_22 l0_22.length l0_22) (hc0_22 : l0_22.length ≤ c0_22) (hr0_23 : Kd.C k89 w A0_23 l0_23.length l0_23) (hc0_23 : l0_23.length ≤ c0_23) (h : wire_Answer.f k a0_0 a0_1 a0_2 a0_3 a0_4 a0_5 a0_6 a0_7 a0_8 a0_9 a0_10 a0_11 a0_12 l0_13 l0_14 l0_15 a0_16 a0_17 l0_18 a0_19 a0_20 a0_21 l0_22 l0_23 = some (r1, r2)) :
  Calls Try.prog 14 #[.agg #[.int .i64 a0_0, .int .i64 a0_1, .int .i64 a0_2, .string a0_3, .int .i64 a0_4, .int .i64 a0_5, .string a0_6, .int .i64 a0_7, .int .i64 a0_8, .int .i64 a0_9, .bool a0_10, .bool a0_11, .string a0_12, .slice A0_13 l0_13.length c0_13, .slice A0_14 l0_14.length c0_14, .slice A0_15 l0_15.length c0_15, .string a0_16, .bool a0_17, .slice A0_18 l0_18.length c0_18, .string a0_19, .int .i64 a0_20, .bool a0_21, .slice A0_22 l0_22.length c0_22, .slice A0_23 l0_23.length c0_23]] w fun e w' => ∃ v0_ : Value, e = .returned (.tuple #[v0_, .int .i64 r2]) ∧ Kd.R (Kd.int .u8) 5 w' w.heap.size (fun _ => True) v0_ r1 ∧ Below w.heap.size w w' := by
 have hu54 := Try.underlying54
 have hu25 := Try.underlying25
 have hu42 := Try.underlying42
 have hu50 := Try.underlying50
 have hu87 := Try.underlying87
 have hu89 := Try.underlying89
 have HR0_13 := Aside0.mk hr0_13
 have HC0_13 := Aside0.mk hc0_13
 clear hr0_13 hc0_13
 have HR0_14 := Aside0.mk hr0_14
 have HC0_14 := Aside0.mk hc0_14
 clear hr0_14 hc0_14
 have HR0_15 := Aside0.mk hr0_15
 have HC0_15 := Aside0.mk hc0_15
 clear hr0_15 hc0_15
 have HR0_18 := Aside0.mk hr0_18
 have HC0_18 := Aside0.mk hc0_18
 clear hr0_18 hc0_18
 have HR0_22 := Aside0.mk hr0_22
 have HC0_22 := Aside0.mk hc0_22
 clear hr0_22 hc0_22
 have HR0_23 := Aside0.mk hr0_23
 have HC0_23 := Aside0.mk hc0_23
 clear hr0_23 hc0_23
 have HB := Aside0.mk (Below.refl w.heap.size w)
 have H : ((wire_may.f k a0_0 a0_1 a0_2 a0_3 a0_4 a0_5 a0_6 a0_7 a0_8 a0_9 a0_10 a0_11 a0_12 l0_13 l0_14 l0_15 a0_16 a0_17 l0_18 a0_19 a0_20 a0_21 l0_22 l0_23).bind fun t285 => (if t285 = true then ((field_Put8.f k ([] : List Int) a0_0).bind fun t286 => ((field_Put64.f k t286 a0_1).bind fun t289 => ((field_Put64.f k t289 a0_2).bind fun t292 => ((field_PutText.f k t292 a0_3).bind fun t295 => ((wire_putTag.f k t295 a0_4 a0_5).bind fun t298 => ((field_PutText.f k t298 a0_6).bind fun t301 => ((wire_putHead.f k t301 a0_7 a0_8 a0_9 a0_10 a0_11).bind fun t304 => ((field_PutText.f k t304 a0_12).bind fun t307 => ((wire_putTexts.f k t307 l0_13).bind fun t310 => ((wire_putTexts.f k t310 l0_14).bind fun t313 => ((wire_putTexts.f k t313 l0_15).bind fun t316 => ((field_PutText.f k t316 a0_16).bind fun t319 => ((wire_putTruth.f t319 a0_17).bind fun t322 => ((wire_putLines.f k t322 l0_18 a0_19 a0_20 a0_21).bind fun t325 => ((field_Put16.f k t325 (l0_22.length : Int)).bind fun t328 => (wire_Answer.l0 k t328 l0_22 (l0_22.length : Int) 0 a0_0 a0_1 a0_2 a0_3 a0_4 a0_5 a0_6 a0_7 a0_8 a0_9 a0_10 a0_11 a0_12 l0_13 l0_14 l0_15 a0_16 a0_17 l0_18 a0_19 a0_20 a0_21 l0_22 l0_23)))))))))))))))) else (some (([] : List Int), 4)))) = some (r1, r2) := h
 clear h
 replace H := Option.bind_eq_some_iff.mp H
 obtain ⟨t285, A20, H⟩ := H
 replace H : (if t285 = true then ((field_Put8.f k ([] : List Int) a0_0).bind fun t286 => ((field_Put64.f k t286 a0_1).bind fun t289 => ((field_Put64.f k t289 a0_2).bind fun t292 => ((field_PutText.f k t292 a0_3).bind fun t295 => ((wire_putTag.f k t295 a0_4 a0_5).bind fun t298 => ((field_PutText.f k t298 a0_6).bind fun t301 => ((wire_putHead.f k t301 a0_7 a0_8 a0_9 a0_10 a0_11).bind fun t304 => ((field_PutText.f k t304 a0_12).bind fun t307 => ((wire_putTexts.f k t307 l0_13).bind fun t310 => ((wire_putTexts.f k t310 l0_14).bind fun t313 => ((wire_putTexts.f k t313 l0_15).bind fun t316 => ((field_PutText.f k t316 a0_16).bind fun t319 => ((wire_putTruth.f t319 a0_17).bind fun t322 => ((wire_putLines.f k t322 l0_18 a0_19 a0_20 a0_21).bind fun t325 => ((field_Put16.f k t325 (l0_22.length : Int)).bind fun t328 => (wire_Answer.l0 k t328 l0_22 (l0_22.length : Int) 0 a0_0 a0_1 a0_2 a0_3 a0_4 a0_5 a0_6 a0_7 a0_8 a0_9 a0_10 a0_11 a0_12 l0_13 l0_14 l0_15 a0_16 a0_17 l0_18 a0_19 a0_20 a0_21 l0_22 l0_23)))))))))))))))) else (some (([] : List Int), 4))) = some (r1, r2) := H
 have A2 := Aside0.mk A20
 clear A20
 by_cases c3 : t285 = true
 ·subst c3
  have H1 : ((field_Put8.f k ([] : List Int) a0_0).bind fun t286 => ((field_Put64.f k t286 a0_1).bind fun t289 => ((field_Put64.f k t289 a0_2).bind fun t292 => ((field_PutText.f k t292 a0_3).bind fun t295 => ((wire_putTag.f k t295 a0_4 a0_5).bind fun t298 => ((field_PutText.f k t298 a0_6).bind fun t301 => ((wire_putHead.f k t301 a0_7 a0_8 a0_9 a0_10 a0_11).bind fun t304 => ((field_PutText.f k t304 a0_12).bind fun t307 => ((wire_putTexts.f k t307 l0_13).bind fun t310 => ((wire_putTexts.f k t310 l0_14).bind fun t313 => ((wire_putTexts.f k t313 l0_15).bind fun t316 => ((field_PutText.f k t316 a0_16).bind fun t319 => ((wire_putTruth.f t319 a0_17).bind fun t322 => ((wire_putLines.f k t322 l0_18 a0_19 a0_20 a0_21).bind fun t325 => ((field_Put16.f k t325 (l0_22.length : Int)).bind fun t328 => (wire_Answer.l0 k t328 l0_22 (l0_22.length : Int) 0 a0_0 a0_1 a0_2 a0_3 a0_4 a0_5 a0_6 a0_7 a0_8 a0_9 a0_10 a0_11 a0_12 l0_13 l0_14 l0_15 a0_16 a0_17 l0_18 a0_19 a0_20 a0_21 l0_22 l0_23)))))))))))))))) = some (r1, r2) := by rw [if_pos rfl] at H; exact H
  clear H
  have H := H1
  clear H1
  replace H := Option.bind_eq_some_iff.mp H
  obtain ⟨t286, A40, H⟩ := H
  replace H : ((field_Put64.f k t286 a0_1).bind fun t289 => ((field_Put64.f k t289 a0_2).bind fun t292 => ((field_PutText.f k t292 a0_3).bind fun t295 => ((wire_putTag.f k t295 a0_4 a0_5).bind fun t298 => ((field_PutText.f k t298 a0_6).bind fun t301 => ((wire_putHead.f k t301 a0_7 a0_8 a0_9 a0_10 a0_11).bind fun t304 => ((field_PutText.f k t304 a0_12).bind fun t307 => ((wire_putTexts.f k t307 l0_13).bind fun t310 => ((wire_putTexts.f k t310 l0_14).bind fun t313 => ((wire_putTexts.f k t313 l0_15).bind fun t316 => ((field_PutText.f k t316 a0_16).bind fun t319 => ((wire_putTruth.f t319 a0_17).bind fun t322 => ((wire_putLines.f k t322 l0_18 a0_19 a0_20 a0_21).bind fun t325 => ((field_Put16.f k t325 (l0_22.length : Int)).bind fun t328 => (wire_Answer.l0 k t328 l0_22 (l0_22.length : Int) 0 a0_0 a0_1 a0_2 a0_3 a0_4 a0_5 a0_6 a0_7 a0_8 a0_9 a0_10 a0_11 a0_12 l0_13 l0_14 l0_15 a0_16 a0_17 l0_18 a0_19 a0_20 a0_21 l0_22 l0_23))))))))))))))) = some (r1, r2) := H
  have A4 := Aside0.mk A40
  clear A40
  replace H := Option.bind_eq_some_iff.mp H
  obtain ⟨t289, A50, H⟩ := H
  replace H : ((field_Put64.f k t289 a0_2).bind fun t292 => ((field_PutText.f k t292 a0_3).bind fun t295 => ((wire_putTag.f k t295 a0_4 a0_5).bind fun t298 => ((field_PutText.f k t298 a0_6).bind fun t301 => ((wire_putHead.f k t301 a0_7 a0_8 a0_9 a0_10 a0_11).bind fun t304 => ((field_PutText.f k t304 a0_12).bind fun t307 => ((wire_putTexts.f k t307 l0_13).bind fun t310 => ((wire_putTexts.f k t310 l0_14).bind fun t313 => ((wire_putTexts.f k t313 l0_15).bind fun t316 => ((field_PutText.f k t316 a0_16).bind fun t319 => ((wire_putTruth.f t319 a0_17).bind fun t322 => ((wire_putLines.f k t322 l0_18 a0_19 a0_20 a0_21).bind fun t325 => ((field_Put16.f k t325 (l0_22.length : Int)).bind fun t328 => (wire_Answer.l0 k t328 l0_22 (l0_22.length : Int) 0 a0_0 a0_1 a0_2 a0_3 a0_4 a0_5 a0_6 a0_7 a0_8 a0_9 a0_10 a0_11 a0_12 l0_13 l0_14 l0_15 a0_16 a0_17 l0_18 a0_19 a0_20 a0_21 l0_22 l0_23)))))))))))))) = some (r1, r2) := H
  have A5 := Aside0.mk A50
  clear A50
  replace H := Option.bind_eq_some_iff.mp H
  obtain ⟨t292, A60, H⟩ := H
  replace H : ((field_PutText.f k t292 a0_3).bind fun t295 => ((wire_putTag.f k t295 a0_4 a0_5).bind fun t298 => ((field_PutText.f k t298 a0_6).bind fun t301 => ((wire_putHead.f k t301 a0_7 a0_8 a0_9 a0_10 a0_11).bind fun t304 => ((field_PutText.f k t304 a0_12).bind fun t307 => ((wire_putTexts.f k t307 l0_13).bind fun t310 => ((wire_putTexts.f k t310 l0_14).bind fun t313 => ((wire_putTexts.f k t313 l0_15).bind fun t316 => ((field_PutText.f k t316 a0_16).bind fun t319 => ((wire_putTruth.f t319 a0_17).bind fun t322 => ((wire_putLines.f k t322 l0_18 a0_19 a0_20 a0_21).bind fun t325 => ((field_Put16.f k t325 (l0_22.length : Int)).bind fun t328 => (wire_Answer.l0 k t328 l0_22 (l0_22.length : Int) 0 a0_0 a0_1 a0_2 a0_3 a0_4 a0_5 a0_6 a0_7 a0_8 a0_9 a0_10 a0_11 a0_12 l0_13 l0_14 l0_15 a0_16 a0_17 l0_18 a0_19 a0_20 a0_21 l0_22 l0_23))))))))))))) = some (r1, r2) := H
  have A6 := Aside0.mk A60
  clear A60
  replace H := Option.bind_eq_some_iff.mp H
  obtain ⟨t295, A70, H⟩ := H
  replace H : ((wire_putTag.f k t295 a0_4 a0_5).bind fun t298 => ((field_PutText.f k t298 a0_6).bind fun t301 => ((wire_putHead.f k t301 a0_7 a0_8 a0_9 a0_10 a0_11).bind fun t304 => ((field_PutText.f k t304 a0_12).bind fun t307 => ((wire_putTexts.f k t307 l0_13).bind fun t310 => ((wire_putTexts.f k t310 l0_14).bind fun t313 => ((wire_putTexts.f k t313 l0_15).bind fun t316 => ((field_PutText.f k t316 a0_16).bind fun t319 => ((wire_putTruth.f t319 a0_17).bind fun t322 => ((wire_putLines.f k t322 l0_18 a0_19 a0_20 a0_21).bind fun t325 => ((field_Put16.f k t325 (l0_22.length : Int)).bind fun t328 => (wire_Answer.l0 k t328 l0_22 (l0_22.length : Int) 0 a0_0 a0_1 a0_2 a0_3 a0_4 a0_5 a0_6 a0_7 a0_8 a0_9 a0_10 a0_11 a0_12 l0_13 l0_14 l0_15 a0_16 a0_17 l0_18 a0_19 a0_20 a0_21 l0_22 l0_23)))))))))))) = some (r1, r2) := H
  have A7 := Aside0.mk A70
  clear A70
  replace H := Option.bind_eq_some_iff.mp H
  obtain ⟨t298, A80, H⟩ := H
  replace H : ((field_PutText.f k t298 a0_6).bind fun t301 => ((wire_putHead.f k t301 a0_7 a0_8 a0_9 a0_10 a0_11).bind fun t304 => ((field_PutText.f k t304 a0_12).bind fun t307 => ((wire_putTexts.f k t307 l0_13).bind fun t310 => ((wire_putTexts.f k t310 l0_14).bind fun t313 => ((wire_putTexts.f k t313 l0_15).bind fun t316 => ((field_PutText.f k t316 a0_16).bind fun t319 => ((wire_putTruth.f t319 a0_17).bind fun t322 => ((wire_putLines.f k t322 l0_18 a0_19 a0_20 a0_21).bind fun t325 => ((field_Put16.f k t325 (l0_22.length : Int)).bind fun t328 => (wire_Answer.l0 k t328 l0_22 (l0_22.length : Int) 0 a0_0 a0_1 a0_2 a0_3 a0_4 a0_5 a0_6 a0_7 a0_8 a0_9 a0_10 a0_11 a0_12 l0_13 l0_14 l0_15 a0_16 a0_17 l0_18 a0_19 a0_20 a0_21 l0_22 l0_23))))))))))) = some (r1, r2) := H
  have A8 := Aside0.mk A80
  clear A80
  replace H := Option.bind_eq_some_iff.mp H
  obtain ⟨t301, A90, H⟩ := H
  replace H : ((wire_putHead.f k t301 a0_7 a0_8 a0_9 a0_10 a0_11).bind fun t304 => ((field_PutText.f k t304 a0_12).bind fun t307 => ((wire_putTexts.f k t307 l0_13).bind fun t310 => ((wire_putTexts.f k t310 l0_14).bind fun t313 => ((wire_putTexts.f k t313 l0_15).bind fun t316 => ((field_PutText.f k t316 a0_16).bind fun t319 => ((wire_putTruth.f t319 a0_17).bind fun t322 => ((wire_putLines.f k t322 l0_18 a0_19 a0_20 a0_21).bind fun t325 => ((field_Put16.f k t325 (l0_22.length : Int)).bind fun t328 => (wire_Answer.l0 k t328 l0_22 (l0_22.length : Int) 0 a0_0 a0_1 a0_2 a0_3 a0_4 a0_5 a0_6 a0_7 a0_8 a0_9 a0_10 a0_11 a0_12 l0_13 l0_14 l0_15 a0_16 a0_17 l0_18 a0_19 a0_20 a0_21 l0_22 l0_23)))))))))) = some (r1, r2) := H
  have A9 := Aside0.mk A90
  clear A90
  replace H := Option.bind_eq_some_iff.mp H
  obtain ⟨t304, A100, H⟩ := H
  replace H : ((field_PutText.f k t304 a0_12).bind fun t307 => ((wire_putTexts.f k t307 l0_13).bind fun t310 => ((wire_putTexts.f k t310 l0_14).bind fun t313 => ((wire_putTexts.f k t313 l0_15).bind fun t316 => ((field_PutText.f k t316 a0_16).bind fun t319 => ((wire_putTruth.f t319 a0_17).bind fun t322 => ((wire_putLines.f k t322 l0_18 a0_19 a0_20 a0_21).bind fun t325 => ((field_Put16.f k t325 (l0_22.length : Int)).bind fun t328 => (wire_Answer.l0 k t328 l0_22 (l0_22.length : Int) 0 a0_0 a0_1 a0_2 a0_3 a0_4 a0_5 a0_6 a0_7 a0_8 a0_9 a0_10 a0_11 a0_12 l0_13 l0_14 l0_15 a0_16 a0_17 l0_18 a0_19 a0_20 a0_21 l0_22 l0_23))))))))) = some (r1, r2) := H
  have A10 := Aside0.mk A100
  clear A100
  replace H := Option.bind_eq_some_iff.mp H
  obtain ⟨t307, A110, H⟩ := H
  replace H : ((wire_putTexts.f k t307 l0_13).bind fun t310 => ((wire_putTexts.f k t310 l0_14).bind fun t313 => ((wire_putTexts.f k t313 l0_15).bind fun t316 => ((field_PutText.f k t316 a0_16).bind fun t319 => ((wire_putTruth.f t319 a0_17).bind fun t322 => ((wire_putLines.f k t322 l0_18 a0_19 a0_20 a0_21).bind fun t325 => ((field_Put16.f k t325 (l0_22.length : Int)).bind fun t328 => (wire_Answer.l0 k t328 l0_22 (l0_22.length : Int) 0 a0_0 a0_1 a0_2 a0_3 a0_4 a0_5 a0_6 a0_7 a0_8 a0_9 a0_10 a0_11 a0_12 l0_13 l0_14 l0_15 a0_16 a0_17 l0_18 a0_19 a0_20 a0_21 l0_22 l0_23)))))))) = some (r1, r2) := H
  have A11 := Aside0.mk A110
  clear A110
  replace H := Option.bind_eq_some_iff.mp H
  obtain ⟨t310, A120, H⟩ := H
  replace H : ((wire_putTexts.f k t310 l0_14).bind fun t313 => ((wire_putTexts.f k t313 l0_15).bind fun t316 => ((field_PutText.f k t316 a0_16).bind fun t319 => ((wire_putTruth.f t319 a0_17).bind fun t322 => ((wire_putLines.f k t322 l0_18 a0_19 a0_20 a0_21).bind fun t325 => ((field_Put16.f k t325 (l0_22.length : Int)).bind fun t328 => (wire_Answer.l0 k t328 l0_22 (l0_22.length : Int) 0 a0_0 a0_1 a0_2 a0_3 a0_4 a0_5 a0_6 a0_7 a0_8 a0_9 a0_10 a0_11 a0_12 l0_13 l0_14 l0_15 a0_16 a0_17 l0_18 a0_19 a0_20 a0_21 l0_22 l0_23))))))) = some (r1, r2) := H
  have A12 := Aside0.mk A120
  clear A120
  replace H := Option.bind_eq_some_iff.mp H
  obtain ⟨t313, A130, H⟩ := H
  replace H : ((wire_putTexts.f k t313 l0_15).bind fun t316 => ((field_PutText.f k t316 a0_16).bind fun t319 => ((wire_putTruth.f t319 a0_17).bind fun t322 => ((wire_putLines.f k t322 l0_18 a0_19 a0_20 a0_21).bind fun t325 => ((field_Put16.f k t325 (l0_22.length : Int)).bind fun t328 => (wire_Answer.l0 k t328 l0_22 (l0_22.length : Int) 0 a0_0 a0_1 a0_2 a0_3 a0_4 a0_5 a0_6 a0_7 a0_8 a0_9 a0_10 a0_11 a0_12 l0_13 l0_14 l0_15 a0_16 a0_17 l0_18 a0_19 a0_20 a0_21 l0_22 l0_23)))))) = some (r1, r2) := H
  have A13 := Aside0.mk A130
  clear A130
  replace H := Option.bind_eq_some_iff.mp H
  obtain ⟨t316, A140, H⟩ := H
  replace H : ((field_PutText.f k t316 a0_16).bind fun t319 => ((wire_putTruth.f t319 a0_17).bind fun t322 => ((wire_putLines.f k t322 l0_18 a0_19 a0_20 a0_21).bind fun t325 => ((field_Put16.f k t325 (l0_22.length : Int)).bind fun t328 => (wire_Answer.l0 k t328 l0_22 (l0_22.length : Int) 0 a0_0 a0_1 a0_2 a0_3 a0_4 a0_5 a0_6 a0_7 a0_8 a0_9 a0_10 a0_11 a0_12 l0_13 l0_14 l0_15 a0_16 a0_17 l0_18 a0_19 a0_20 a0_21 l0_22 l0_23))))) = some (r1, r2) := H
  have A14 := Aside0.mk A140
  clear A140
  replace H := Option.bind_eq_some_iff.mp H
  obtain ⟨t319, A150, H⟩ := H
  replace H : ((wire_putTruth.f t319 a0_17).bind fun t322 => ((wire_putLines.f k t322 l0_18 a0_19 a0_20 a0_21).bind fun t325 => ((field_Put16.f k t325 (l0_22.length : Int)).bind fun t328 => (wire_Answer.l0 k t328 l0_22 (l0_22.length : Int) 0 a0_0 a0_1 a0_2 a0_3 a0_4 a0_5 a0_6 a0_7 a0_8 a0_9 a0_10 a0_11 a0_12 l0_13 l0_14 l0_15 a0_16 a0_17 l0_18 a0_19 a0_20 a0_21 l0_22 l0_23)))) = some (r1, r2) := H
  have A15 := Aside0.mk A150
  clear A150
  replace H := Option.bind_eq_some_iff.mp H
  obtain ⟨t322, A160, H⟩ := H
  replace H : ((wire_putLines.f k t322 l0_18 a0_19 a0_20 a0_21).bind fun t325 => ((field_Put16.f k t325 (l0_22.length : Int)).bind fun t328 => (wire_Answer.l0 k t328 l0_22 (l0_22.length : Int) 0 a0_0 a0_1 a0_2 a0_3 a0_4 a0_5 a0_6 a0_7 a0_8 a0_9 a0_10 a0_11 a0_12 l0_13 l0_14 l0_15 a0_16 a0_17 l0_18 a0_19 a0_20 a0_21 l0_22 l0_23))) = some (r1, r2) := H
  have A16 := Aside0.mk A160
  clear A160
  replace H := Option.bind_eq_some_iff.mp H
  obtain ⟨t325, A170, H⟩ := H
  replace H : ((field_Put16.f k t325 (l0_22.length : Int)).bind fun t328 => (wire_Answer.l0 k t328 l0_22 (l0_22.length : Int) 0 a0_0 a0_1 a0_2 a0_3 a0_4 a0_5 a0_6 a0_7 a0_8 a0_9 a0_10 a0_11 a0_12 l0_13 l0_14 l0_15 a0_16 a0_17 l0_18 a0_19 a0_20 a0_21 l0_22 l0_23)) = some (r1, r2) := H
  have A17 := Aside0.mk A170
  clear A170
  replace H := Option.bind_eq_some_iff.mp H
  obtain ⟨t328, A180, H⟩ := H
  replace H : (wire_Answer.l0 k t328 l0_22 (l0_22.length : Int) 0 a0_0 a0_1 a0_2 a0_3 a0_4 a0_5 a0_6 a0_7 a0_8 a0_9 a0_10 a0_11 a0_12 l0_13 l0_14 l0_15 a0_16 a0_17 l0_18 a0_19 a0_20 a0_21 l0_22 l0_23) = some (r1, r2) := H
  have A18 := Aside0.mk A180
  clear A180
  have H' := Aside0.mk H
  clear H
  go_enter Try.func14, Try.ntmps14
  try go_wp2_with (first | ((with_reducible refine gate_dst (N := 9) rfl ?_); refine Kd.event_run rfl (load_step _ Try.isAgg54 Try.sizeOf54 rfl rfl rfl BK284.out) ?_) | ((with_reducible refine gate_dst (N := 1) rfl ?_); refine box_event ?hg (N := 1) ?hd (cs := #[.int .i64 a0_0, .int .i64 a0_1, .int .i64 a0_2, .string a0_3, .int .i64 a0_4, .int .i64 a0_5, .string a0_6, .int .i64 a0_7, .int .i64 a0_8, .int .i64 a0_9, .bool a0_10, .bool a0_11, .string a0_12, .slice A0_13 l0_13.length c0_13, .slice A0_14 l0_14.length c0_14, .slice A0_15 l0_15.length c0_15, .string a0_16, .bool a0_17, .slice A0_18 l0_18.length c0_18, .string a0_19, .int .i64 a0_20, .bool a0_21, .slice A0_22 l0_22.length c0_22, .slice A0_23 l0_23.length c0_23]) (t := 54) ?hr ?_; (case hd => rfl); (case hg => rfl); (case hr => first | (go_simp; done) | (go_simp; rfl)); intro gb284 hg w19 hbox hb; have n0_ := Aside0.mk (below_step qa hb); have n1_ := Aside0.mk (hbox); have n2_ := Aside0.mk ((by rw [hg]; exact (below_size qa) : w.heap.size ≤ gb284)); have n3_ := Aside0.mk ((by rw [hg]; exact (below_size qa) : w.heap.size ≤ gb284)); clear HB; have HB := n0_; have BK284 := n1_; have GW284 := n2_; have GE284 := n3_; clear n0_ n1_ n2_ n3_; clear hb hbox hg; have hcz20_0 : w19.cell? ⟨gb284, 0, none⟩ = some (.int .i64 a0_0) := (blk_cell BK284.out 0).trans rfl; have hcz20_1 : w19.cell? ⟨gb284, 1, none⟩ = some (.int .i64 a0_1) := (blk_cell BK284.out 1).trans rfl; have hcz20_2 : w19.cell? ⟨gb284, 2, none⟩ = some (.int .i64 a0_2) := (blk_cell BK284.out 2).trans rfl; have hcz20_3 : w19.cell? ⟨gb284, 3, none⟩ = some (.string a0_3) := (blk_cell BK284.out 3).trans rfl; have hcz20_4 : w19.cell? ⟨gb284, 4, none⟩ = some (.int .i64 a0_4) := (blk_cell BK284.out 4).trans rfl; have hcz20_5 : w19.cell? ⟨gb284, 5, none⟩ = some (.int .i64 a0_5) := (blk_cell BK284.out 5).trans rfl; have hcz20_6 : w19.cell? ⟨gb284, 6, none⟩ = some (.string a0_6) := (blk_cell BK284.out 6).trans rfl; have hcz20_7 : w19.cell? ⟨gb284, 7, none⟩ = some (.int .i64 a0_7) := (blk_cell BK284.out 7).trans rfl; have hcz20_8 : w19.cell? ⟨gb284, 8, none⟩ = some (.int .i64 a0_8) := (blk_cell BK284.out 8).trans rfl; have hcz20_9 : w19.cell? ⟨gb284, 9, none⟩ = some (.int .i64 a0_9) := (blk_cell BK284.out 9).trans rfl; have hcz20_10 : w19.cell? ⟨gb284, 10, none⟩ = some (.bool a0_10) := (blk_cell BK284.out 10).trans rfl; have hcz20_11 : w19.cell? ⟨gb284, 11, none⟩ = some (.bool a0_11) := (blk_cell BK284.out 11).trans rfl; have hcz20_12 : w19.cell? ⟨gb284, 12, none⟩ = some (.string a0_12) := (blk_cell BK284.out 12).trans rfl; have hcz20_13 : w19.cell? ⟨gb284, 13, none⟩ = some (.slice A0_13 l0_13.length c0_13) := (blk_cell BK284.out 13).trans rfl; have hcz20_14 : w19.cell? ⟨gb284, 14, none⟩ = some (.slice A0_14 l0_14.length c0_14) := (blk_cell BK284.out 14).trans rfl; have hcz20_15 : w19.cell? ⟨gb284, 15, none⟩ = some (.slice A0_15 l0_15.length c0_15) := (blk_cell BK284.out 15).trans rfl; have hcz20_16 : w19.cell? ⟨gb284, 16, none⟩ = some (.string a0_16) := (blk_cell BK284.out 16).trans rfl; have hcz20_17 : w19.cell? ⟨gb284, 17, none⟩ = some (.bool a0_17) := (blk_cell BK284.out 17).trans rfl; have hcz20_18 : w19.cell? ⟨gb284, 18, none⟩ = some (.slice A0_18 l0_18.length c0_18) := (blk_cell BK284.out 18).trans rfl; have hcz20_19 : w19.cell? ⟨gb284, 19, none⟩ = some (.string a0_19) := (blk_cell BK284.out 19).trans rfl; have hcz20_20 : w19.cell? ⟨gb284, 20, none⟩ = some (.int .i64 a0_20) := (blk_cell BK284.out 20).trans rfl; have hcz20_21 : w19.cell? ⟨gb284, 21, none⟩ = some (.bool a0_21) := (blk_cell BK284.out 21).trans rfl; have hcz20_22 : w19.cell? ⟨gb284, 22, none⟩ = some (.slice A0_22 l0_22.length c0_22) := (blk_cell BK284.out 22).trans rfl; have hcz20_23 : w19.cell? ⟨gb284, 23, none⟩ = some (.slice A0_23 l0_23.length c0_23) := (blk_cell BK284.out 23).trans rfl; have hfz20_0 := blk_frozen BK284.out 0; have hfz20_1 := blk_frozen BK284.out 1; have hfz20_2 := blk_frozen BK284.out 2; have hfz20_3 := blk_frozen BK284.out 3; have hfz20_4 := blk_frozen BK284.out 4; have hfz20_5 := blk_frozen BK284.out 5; have hfz20_6 := blk_frozen BK284.out 6; have hfz20_7 := blk_frozen BK284.out 7; have hfz20_8 := blk_frozen BK284.out 8; have hfz20_9 := blk_frozen BK284.out 9; have hfz20_10 := blk_frozen BK284.out 10; have hfz20_11 := blk_frozen BK284.out 11; have hfz20_12 := blk_frozen BK284.out 12; have hfz20_13 := blk_frozen BK284.out 13; have hfz20_14 := blk_frozen BK284.out 14; have hfz20_15 := blk_frozen BK284.out 15; have hfz20_16 := blk_frozen BK284.out 16; have hfz20_17 := blk_frozen BK284.out 17; have hfz20_18 := blk_frozen BK284.out 18; have hfz20_19 := blk_frozen BK284.out 19; have hfz20_20 := blk_frozen BK284.out 20; have hfz20_21 := blk_frozen BK284.out 21; have hfz20_22 := blk_frozen BK284.out 22; have hfz20_23 := blk_frozen BK284.out 23) | ((with_reducible refine gate_callee (f := 32) rfl ?_); refine goesL_ (some 10) rfl rfl Try.func32 (by kernel_rfl) rfl #[.agg #[.int .i64 a0_0, .int .i64 a0_1, .int .i64 a0_2, .string a0_3, .int .i64 a0_4, .int .i64 a0_5, .string a0_6, .int .i64 a0_7, .int .i64 a0_8, .int .i64 a0_9, .bool a0_10, .bool a0_11, .string a0_12, .slice A0_13 l0_13.length c0_13, .slice A0_14 l0_14.length c0_14, .slice A0_15 l0_15.length c0_15, .string a0_16, .bool a0_17, .slice A0_18 l0_18.length c0_18, .string a0_19, .int .i64 a0_20, .bool a0_21, .slice A0_22 l0_22.length c0_22, .slice A0_23 l0_23.length c0_23]] rfl qb ?_; (with_reducible refine (wire_may.calls k a0_0 a0_1 a0_2 a0_3 a0_4 a0_5 a0_6 a0_7 a0_8 a0_9 a0_10 a0_11 a0_12 _ _ l0_13 _ _ l0_14 _ _ l0_15 a0_16 a0_17 _ _ l0_18 a0_19 a0_20 a0_21 _ _ l0_22 _ _ l0_23 true _ ?side1 ?side2 ?side3 ?side4 ?side5 ?side6 ?side7 ?side8 ?side9 ?side10 ?side11 ?side12 A2.out).mono ?_); (case side1 => repeat (first | exact (Kd.C_below HR0_13.out HB.out) | (with_reducible refine Kd.C_alloc ?_ _) | (with_reducible refine Kd.C_drewN ?_ _) | (with_reducible refine Kd.C_drew ?_))); (case side2 => exact HC0_13.out); (case side3 => repeat (first | exact (Kd.C_below HR0_14.out HB.out) | (with_reducible refine Kd.C_alloc ?_ _) | (with_reducible refine Kd.C_drewN ?_ _) | (with_reducible refine Kd.C_drew ?_))); (case side4 => exact HC0_14.out); (case side5 => repeat (first | exact (Kd.C_below HR0_15.out HB.out) | (with_reducible refine Kd.C_alloc ?_ _) | (with_reducible refine Kd.C_drewN ?_ _) | (with_reducible refine Kd.C_drew ?_))); (case side6 => exact HC0_15.out); (case side7 => repeat (first | exact (Kd.C_below HR0_18.out HB.out) | (with_reducible refine Kd.C_alloc ?_ _) | (with_reducible refine Kd.C_drewN ?_ _) | (with_reducible refine Kd.C_drew ?_))); (case side8 => exact HC0_18.out); (case side9 => repeat (first | exact (Kd.C_below HR0_22.out HB.out) | (with_reducible refine Kd.C_alloc ?_ _) | (with_reducible refine Kd.C_drewN ?_ _) | (with_reducible refine Kd.C_drew ?_))); (case side10 => exact HC0_22.out); (case side11 => repeat (first | exact (Kd.C_below HR0_23.out HB.out) | (with_reducible refine Kd.C_alloc ?_ _) | (with_reducible refine Kd.C_drewN ?_ _) | (with_reducible refine Kd.C_drew ?_))); (case side12 => exact HC0_23.out); rintro e w21 ⟨rfl, hb⟩; refine ⟨_, rfl, ?_⟩; have n0_ := Aside0.mk (blk_below (g := gb284) (o := .cells #[.int .i64 a0_0, .int .i64 a0_1, .int .i64 a0_2, .string a0_3, .int .i64 a0_4, .int .i64 a0_5, .string a0_6, .int .i64 a0_7, .int .i64 a0_8, .int .i64 a0_9, .bool a0_10, .bool a0_11, .string a0_12, .slice A0_13 l0_13.length c0_13, .slice A0_14 l0_14.length c0_14, .slice A0_15 l0_15.length c0_15, .string a0_16, .bool a0_17, .slice A0_18 l0_18.length c0_18, .string a0_19, .int .i64 a0_20, .bool a0_21, .slice A0_22 l0_22.length c0_22, .slice A0_23 l0_23.length c0_23] 54 (0, 0)) (qc BK284.out) hb); have n1_ := Aside0.mk (below_step (qd GE284.out) hb); clear BK284; clear HB; have BK284 := n0_; have HB := n1_; clear n0_ n1_; (try clear hb); (try clear hb2); (try clear hk); (try clear hi)))
  have n0_ := Aside0.mk (blk_drew BK284.out)
  have n1_ := Aside0.mk (below_drew1 HB.out)
  clear BK284
  clear HB
  have BK284 := n0_
  have HB := n1_
  clear n0_ n1_
  refine start_ (n := 16) (S := fun w' => w'.cell? ⟨gb284, 0, none⟩ = some (.int .i64 a0_0) ∧ w'.cell? ⟨gb284, 1, none⟩ = some (.int .i64 a0_1) ∧ w'.cell? ⟨gb284, 2, none⟩ = some (.int .i64 a0_2) ∧ w'.cell? ⟨gb284, 3, none⟩ = some (.string a0_3) ∧ w'.cell? ⟨gb284, 4, none⟩ = some (.int .i64 a0_4) ∧ w'.cell? ⟨gb284, 5, none⟩ = some (.int .i64 a0_5) ∧ w'.cell? ⟨gb284, 6, none⟩ = some (.string a0_6) ∧ w'.cell? ⟨gb284, 7, none⟩ = some (.int .i64 a0_7) ∧ w'.cell? ⟨gb284, 8, none⟩ = some (.int .i64 a0_8) ∧ w'.cell? ⟨gb284, 9, none⟩ = some (.int .i64 a0_9) ∧ w'.cell? ⟨gb284, 10, none⟩ = some (.bool a0_10) ∧ w'.cell? ⟨gb284, 11, none⟩ = some (.bool a0_11) ∧ w'.cell? ⟨gb284, 12, none⟩ = some (.string a0_12) ∧ w'.cell? ⟨gb284, 13, none⟩ = some (.slice A0_13 l0_13.length c0_13) ∧ w'.cell? ⟨gb284, 14, none⟩ = some (.slice A0_14 l0_14.length c0_14) ∧ w'.cell? ⟨gb284, 15, none⟩ = some (.slice A0_15 l0_15.length c0_15) ∧ w'.cell? ⟨gb284, 16, none⟩ = some (.string a0_16) ∧ w'.cell? ⟨gb284, 17, none⟩ = some (.bool a0_17) ∧ w'.cell? ⟨gb284, 18, none⟩ = some (.slice A0_18 l0_18.length c0_18) ∧ w'.cell? ⟨gb284, 19, none⟩ = some (.string a0_19) ∧ w'.cell? ⟨gb284, 20, none⟩ = some (.int .i64 a0_20) ∧ w'.cell? ⟨gb284, 21, none⟩ = some (.bool a0_21) ∧ w'.cell? ⟨gb284, 22, none⟩ = some (.slice A0_22 l0_22.length c0_22) ∧ w'.cell? ⟨gb284, 23, none⟩ = some (.slice A0_23 l0_23.length c0_23)) (ds := []) (fl 16 0) (by kernel_rfl) rfl rfl ⟨(blk_cell BK284.out 0).trans rfl, (blk_cell BK284.out 1).trans rfl, (blk_cell BK284.out 2).trans rfl, (blk_cell BK284.out 3).trans rfl, (blk_cell BK284.out 4).trans rfl, (blk_cell BK284.out 5).trans rfl, (blk_cell BK284.out 6).trans rfl, (blk_cell BK284.out 7).trans rfl, (blk_cell BK284.out 8).trans rfl, (blk_cell BK284.out 9).trans rfl, (blk_cell BK284.out 10).trans rfl, (blk_cell BK284.out 11).trans rfl, (blk_cell BK284.out 12).trans rfl, (blk_cell BK284.out 13).trans rfl, (blk_cell BK284.out 14).trans rfl, (blk_cell BK284.out 15).trans rfl, (blk_cell BK284.out 16).trans rfl, (blk_cell BK284.out 17).trans rfl, (blk_cell BK284.out 18).trans rfl, (blk_cell BK284.out 19).trans rfl, (blk_cell BK284.out 20).trans rfl, (blk_cell BK284.out 21).trans rfl, (blk_cell BK284.out 22).trans rfl, (blk_cell BK284.out 23).trans rfl⟩ (fun hHeld => ?_); refine with_tabW wire_Answer.tab3 wire_Answer.bits3 (fun HT_ HW_ => ?_)
  generalize w21.drew = w22 at BK284 HB hHeld ⊢
  refine pu_ 0 12 (fl 16 1) ?_
  refine pu_ 3 15 (fl 16 9) ?_
  refine pu_ 6 18 (fl 16 73) ?_
  refine pu_ 9 21 (fl 16 585) ?_
  refine pu_ 12 24 (fl 16 4681) ?_
  refine take_ (i := 1) (N := some 13) (v := ?_) (a' := ?_) (fl 16 4683) rfl rfl (take_ofW HT_.out HW_.out (by kernel_rfl)) (fun _ _ _ h => h) (Or.inl ⟨by rfl, ?_⟩) hHeld ?_ ?_
  rotate_left
  ·rintro w' ⟨s0, s1, s2, s3, s4, s5, s6, s7, s8, s9, s10, s11, s12, s13, s14, s15, s16, s17, s18, s19, s20, s21, s22, s23⟩
   go_simp
   with_reducible rfl
  rotate_left
  ·simp only [Act.put, List.setIfInBounds_toArray, List.set_cons_zero, List.set_cons_succ, i64_w, i32_w]
   rfl
  refine take_ (i := 4) (N := some 16) (v := ?_) (a' := ?_) (fl 16 4699) rfl rfl (take_ofW HT_.out HW_.out (by kernel_rfl)) (fun _ _ _ h => h) (Or.inl ⟨by rfl, ?_⟩) hHeld ?_ ?_
  rotate_left
  ·rintro w' ⟨s0, s1, s2, s3, s4, s5, s6, s7, s8, s9, s10, s11, s12, s13, s14, s15, s16, s17, s18, s19, s20, s21, s22, s23⟩
   go_simp
   with_reducible rfl
  rotate_left
  ·simp only [Act.put, List.setIfInBounds_toArray, List.set_cons_zero, List.set_cons_succ, i64_w, i32_w]
   rfl
  refine take_ (i := 7) (N := some 19) (v := ?_) (a' := ?_) (fl 16 4827) rfl rfl (take_ofW HT_.out HW_.out (by kernel_rfl)) (fun _ _ _ h => h) (Or.inl ⟨by rfl, ?_⟩) hHeld ?_ ?_
  rotate_left
  ·rintro w' ⟨s0, s1, s2, s3, s4, s5, s6, s7, s8, s9, s10, s11, s12, s13, s14, s15, s16, s17, s18, s19, s20, s21, s22, s23⟩
   go_simp
   with_reducible rfl
  rotate_left
  ·simp only [Act.put, List.setIfInBounds_toArray, List.set_cons_zero, List.set_cons_succ, i64_w, i32_w]
   rfl
  refine take_ (i := 10) (N := some 22) (v := ?_) (a' := ?_) (fl 16 5851) rfl rfl (take_ofW HT_.out HW_.out (by kernel_rfl)) (fun _ _ _ h => h) (Or.inl ⟨by rfl, ?_⟩) hHeld ?_ ?_
  rotate_left
  ·rintro w' ⟨s0, s1, s2, s3, s4, s5, s6, s7, s8, s9, s10, s11, s12, s13, s14, s15, s16, s17, s18, s19, s20, s21, s22, s23⟩
   go_simp
   with_reducible rfl
  rotate_left
  ·simp only [Act.put, List.setIfInBounds_toArray, List.set_cons_zero, List.set_cons_succ, i64_w, i32_w]
   rfl
  refine take_ (i := 13) (N := some 25) (v := ?_) (a' := ?_) (fl 16 14043) rfl rfl (take_ofW HT_.out HW_.out (by kernel_rfl)) (fun _ _ _ h => h) (Or.inl ⟨by rfl, ?_⟩) hHeld ?_ ?_
  rotate_left
  ·rintro w' ⟨s0, s1, s2, s3, s4, s5, s6, s7, s8, s9, s10, s11, s12, s13, s14, s15, s16, s17, s18, s19, s20, s21, s22, s23⟩
   go_simp
   with_reducible rfl
  rotate_left
  ·simp only [Act.put, List.setIfInBounds_toArray, List.set_cons_zero, List.set_cons_succ, i64_w, i32_w]
   rfl
  refine on_ 2 (some 14) (fl 16 14047) fun K hK => ?_
  refine goes_ Try.func23 (by kernel_rfl) rfl #[.slice none 0 0, .int .i64 a0_0] (by rfl) rfl rfl qb ?_
  refine (field_Put8.calls k (fun k_ => some k_ = (.slice none 0 0 : Value).ownBlock) (.slice none 0 0) ([] : List Int) a0_0 t286 w _ ?side1 ?side2 A4.out).mono ?_
  (case side1 => repeat (first | (with_reducible first | exact HB.out | apply below_alloc | apply pw_below_drewN | apply below_drew1 | refine below_set ?_ GE284.out) | exact HB.out))
  (case side2 => exact Kd.R_nil _ _ _ _ _)
  rintro e w23 ⟨v287, rfl, ho0, hb, hkp⟩
  refine ⟨_, rfl, ?_⟩
  have n0_ := Aside0.mk (blk_kept (qc BK284.out) hkp (fun hs_ => (fun e_ => by simp [Value.ownBlock] at e_) hs_))
  have n1_ := Aside0.mk (Kd.R_mono (ok' := fun k_ => True) ho0 (fun k_ hk_ => trivial))
  have n2_ := Aside0.mk (hb)
  clear BK284
  clear HB
  have BK284 := n0_
  have HO288 := n1_
  have HB := n2_
  clear n0_ n1_ n2_
  (try clear hb)
  (try clear hkp)
  (try clear ho0)
  obtain ⟨Ao24, co24, eo24⟩ := Kd.R_slice HO288.out
  (first | subst eo24 | (injection eo24 with f1_ f2_ f3_; have f4_ := f1_.symm; have f5_ := f3_.symm; clear f1_ f2_ f3_; subst f4_; subst f5_))
  refine nm_ hK ⟨(blk_cell BK284.out 0).trans rfl, (blk_cell BK284.out 1).trans rfl, (blk_cell BK284.out 2).trans rfl, (blk_cell BK284.out 3).trans rfl, (blk_cell BK284.out 4).trans rfl, (blk_cell BK284.out 5).trans rfl, (blk_cell BK284.out 6).trans rfl, (blk_cell BK284.out 7).trans rfl, (blk_cell BK284.out 8).trans rfl, (blk_cell BK284.out 9).trans rfl, (blk_cell BK284.out 10).trans rfl, (blk_cell BK284.out 11).trans rfl, (blk_cell BK284.out 12).trans rfl, (blk_cell BK284.out 13).trans rfl, (blk_cell BK284.out 14).trans rfl, (blk_cell BK284.out 15).trans rfl, (blk_cell BK284.out 16).trans rfl, (blk_cell BK284.out 17).trans rfl, (blk_cell BK284.out 18).trans rfl, (blk_cell BK284.out 19).trans rfl, (blk_cell BK284.out 20).trans rfl, (blk_cell BK284.out 21).trans rfl, (blk_cell BK284.out 22).trans rfl, (blk_cell BK284.out 23).trans rfl⟩ fun hHeld => ?_
  clear hK K
  refine on_ 5 (some 17) (fl 16 14079) fun K hK => ?_
  refine goes_ Try.func35 (by kernel_rfl) rfl #[.slice Ao24 t286.length co24, .int .i64 a0_1] (by rfl) rfl rfl qb ?_
  with_reducible refine (field_Put64.calls k (fun k_ => some k_ = (.slice Ao24 t286.length co24 : Value).ownBlock) (.slice Ao24 t286.length co24) t286 a0_1 t289 w _ ?side1 ?side2 A5.out).mono ?_
  (case side1 => repeat (first | (with_reducible first | exact HB.out | apply below_alloc | apply pw_below_drewN | apply below_drew1 | refine below_set ?_ GE284.out) | exact HB.out))
  (case side2 => exact Kd.R_tight rfl HO288.out)
  rintro e w25 ⟨v290, rfl, ho0, hb, hkp⟩
  refine ⟨_, rfl, ?_⟩
  have n0_ := Aside0.mk (blk_kept (qc BK284.out) hkp (fun hs_ => (fun e_ => (Kd.R_ne HO288.out BK284.out (by decide)) e_) hs_))
  have n1_ := Aside0.mk (Kd.R_mono (ok' := fun k_ => True) ho0 (fun k_ hk_ => trivial))
  have n2_ := Aside0.mk (hb)
  clear BK284
  clear HB
  clear HO288
  have BK284 := n0_
  have HO291 := n1_
  have HB := n2_
  clear n0_ n1_ n2_
  (try clear hb)
  (try clear hkp)
  (try clear ho0)
  obtain ⟨Ao26, co26, eo26⟩ := Kd.R_slice HO291.out
  (first | subst eo26 | (injection eo26 with f1_ f2_ f3_; have f4_ := f1_.symm; have f5_ := f3_.symm; clear f1_ f2_ f3_; subst f4_; subst f5_))
  refine nm_ hK ⟨(blk_cell BK284.out 0).trans rfl, (blk_cell BK284.out 1).trans rfl, (blk_cell BK284.out 2).trans rfl, (blk_cell BK284.out 3).trans rfl, (blk_cell BK284.out 4).trans rfl, (blk_cell BK284.out 5).trans rfl, (blk_cell BK284.out 6).trans rfl, (blk_cell BK284.out 7).trans rfl, (blk_cell BK284.out 8).trans rfl, (blk_cell BK284.out 9).trans rfl, (blk_cell BK284.out 10).trans rfl, (blk_cell BK284.out 11).trans rfl, (blk_cell BK284.out 12).trans rfl, (blk_cell BK284.out 13).trans rfl, (blk_cell BK284.out 14).trans rfl, (blk_cell BK284.out 15).trans rfl, (blk_cell BK284.out 16).trans rfl, (blk_cell BK284.out 17).trans rfl, (blk_cell BK284.out 18).trans rfl, (blk_cell BK284.out 19).trans rfl, (blk_cell BK284.out 20).trans rfl, (blk_cell BK284.out 21).trans rfl, (blk_cell BK284.out 22).trans rfl, (blk_cell BK284.out 23).trans rfl⟩ fun hHeld => ?_
  clear hK K
  refine on_ 8 (some 20) (fl 16 14335) fun K hK => ?_
  refine goes_ Try.func35 (by kernel_rfl) rfl #[.slice Ao26 t289.length co26, .int .i64 a0_2] (by rfl) rfl rfl qb ?_
  with_reducible refine (field_Put64.calls k (fun k_ => some k_ = (.slice Ao26 t289.length co26 : Value).ownBlock) (.slice Ao26 t289.length co26) t289 a0_2 t292 w _ ?side1 ?side2 A6.out).mono ?_
  (case side1 => repeat (first | (with_reducible first | exact HB.out | apply below_alloc | apply pw_below_drewN | apply below_drew1 | refine below_set ?_ GE284.out) | exact HB.out))
  (case side2 => exact Kd.R_tight rfl HO291.out)
  rintro e w27 ⟨v293, rfl, ho0, hb, hkp⟩
  refine ⟨_, rfl, ?_⟩
  have n0_ := Aside0.mk (blk_kept (qc BK284.out) hkp (fun hs_ => (fun e_ => (Kd.R_ne HO291.out BK284.out (by decide)) e_) hs_))
  have n1_ := Aside0.mk (Kd.R_mono (ok' := fun k_ => True) ho0 (fun k_ hk_ => trivial))
  have n2_ := Aside0.mk (hb)
  clear BK284
  clear HB
  clear HO291
  have BK284 := n0_
  have HO294 := n1_
  have HB := n2_
  clear n0_ n1_ n2_
  (try clear hb)
  (try clear hkp)
  (try clear ho0)
  obtain ⟨Ao28, co28, eo28⟩ := Kd.R_slice HO294.out
  (first | subst eo28 | (injection eo28 with f1_ f2_ f3_; have f4_ := f1_.symm; have f5_ := f3_.symm; clear f1_ f2_ f3_; subst f4_; subst f5_))
  refine nm_ hK ⟨(blk_cell BK284.out 0).trans rfl, (blk_cell BK284.out 1).trans rfl, (blk_cell BK284.out 2).trans rfl, (blk_cell BK284.out 3).trans rfl, (blk_cell BK284.out 4).trans rfl, (blk_cell BK284.out 5).trans rfl, (blk_cell BK284.out 6).trans rfl, (blk_cell BK284.out 7).trans rfl, (blk_cell BK284.out 8).trans rfl, (blk_cell BK284.out 9).trans rfl, (blk_cell BK284.out 10).trans rfl, (blk_cell BK284.out 11).trans rfl, (blk_cell BK284.out 12).trans rfl, (blk_cell BK284.out 13).trans rfl, (blk_cell BK284.out 14).trans rfl, (blk_cell BK284.out 15).trans rfl, (blk_cell BK284.out 16).trans rfl, (blk_cell BK284.out 17).trans rfl, (blk_cell BK284.out 18).trans rfl, (blk_cell BK284.out 19).trans rfl, (blk_cell BK284.out 20).trans rfl, (blk_cell BK284.out 21).trans rfl, (blk_cell BK284.out 22).trans rfl, (blk_cell BK284.out 23).trans rfl⟩ fun hHeld => ?_
  clear hK K
  refine on_ 11 (some 23) (fl 16 16383) fun K hK => ?_
  refine goes_ Try.func34 (by kernel_rfl) rfl #[.slice Ao28 t292.length co28, .string a0_3] (by rfl) rfl rfl qb ?_
  with_reducible refine (field_PutText.calls k (fun k_ => some k_ = (.slice Ao28 t292.length co28 : Value).ownBlock) (.slice Ao28 t292.length co28) t292 a0_3 t295 w _ ?side1 ?side2 A7.out).mono ?_
  (case side1 => repeat (first | (with_reducible first | exact HB.out | apply below_alloc | apply pw_below_drewN | apply below_drew1 | refine below_set ?_ GE284.out) | exact HB.out))
  (case side2 => exact Kd.R_tight rfl HO294.out)
  rintro e w29 ⟨v296, rfl, ho0, hb, hkp⟩
  refine ⟨_, rfl, ?_⟩
  have n0_ := Aside0.mk (blk_kept (qc BK284.out) hkp (fun hs_ => (fun e_ => (Kd.R_ne HO294.out BK284.out (by decide)) e_) hs_))
  have n1_ := Aside0.mk (Kd.R_mono (ok' := fun k_ => True) ho0 (fun k_ hk_ => trivial))
  have n2_ := Aside0.mk (hb)
  clear BK284
  clear HB
  clear HO294
  have BK284 := n0_
  have HO297 := n1_
  have HB := n2_
  clear n0_ n1_ n2_
  (try clear hb)
  (try clear hkp)
  (try clear ho0)
  obtain ⟨Ao30, co30, eo30⟩ := Kd.R_slice HO297.out
  (first | subst eo30 | (injection eo30 with f1_ f2_ f3_; have f4_ := f1_.symm; have f5_ := f3_.symm; clear f1_ f2_ f3_; subst f4_; subst f5_))
  refine nm_ hK ⟨(blk_cell BK284.out 0).trans rfl, (blk_cell BK284.out 1).trans rfl, (blk_cell BK284.out 2).trans rfl, (blk_cell BK284.out 3).trans rfl, (blk_cell BK284.out 4).trans rfl, (blk_cell BK284.out 5).trans rfl, (blk_cell BK284.out 6).trans rfl, (blk_cell BK284.out 7).trans rfl, (blk_cell BK284.out 8).trans rfl, (blk_cell BK284.out 9).trans rfl, (blk_cell BK284.out 10).trans rfl, (blk_cell BK284.out 11).trans rfl, (blk_cell BK284.out 12).trans rfl, (blk_cell BK284.out 13).trans rfl, (blk_cell BK284.out 14).trans rfl, (blk_cell BK284.out 15).trans rfl, (blk_cell BK284.out 16).trans rfl, (blk_cell BK284.out 17).trans rfl, (blk_cell BK284.out 18).trans rfl, (blk_cell BK284.out 19).trans rfl, (blk_cell BK284.out 20).trans rfl, (blk_cell BK284.out 21).trans rfl, (blk_cell BK284.out 22).trans rfl, (blk_cell BK284.out 23).trans rfl⟩ fun hHeld => ?_
  clear hK K
  refine on_ 14 (some 26) (fl 16 32767) fun K hK => ?_
  refine goes_ Try.func33 (by kernel_rfl) rfl #[.slice Ao30 t295.length co30, .agg #[.int .i64 a0_4, .int .i64 a0_5]] (by rfl) rfl rfl qb ?_
  with_reducible refine (wire_putTag.calls k (fun k_ => some k_ = (.slice Ao30 t295.length co30 : Value).ownBlock) (.slice Ao30 t295.length co30) t295 a0_4 a0_5 t298 w _ ?side1 ?side2 A8.out).mono ?_
  (case side1 => repeat (first | (with_reducible first | exact HB.out | apply below_alloc | apply pw_below_drewN | apply below_drew1 | refine below_set ?_ GE284.out) | exact HB.out))
  (case side2 => exact Kd.R_tight rfl HO297.out)
  rintro e w31 ⟨v299, rfl, ho0, hb, hkp⟩
  refine ⟨_, rfl, ?_⟩
  have n0_ := Aside0.mk (blk_kept (qc BK284.out) hkp (fun hs_ => (fun e_ => (Kd.R_ne HO297.out BK284.out (by decide)) e_) hs_))
  have n1_ := Aside0.mk (Kd.R_mono (ok' := fun k_ => True) ho0 (fun k_ hk_ => trivial))
  have n2_ := Aside0.mk (hb)
  clear BK284
  clear HB
  clear HO297
  have BK284 := n0_
  have HO300 := n1_
  have HB := n2_
  clear n0_ n1_ n2_
  (try clear hb)
  (try clear hkp)
  (try clear ho0)
  refine nm_ hK ⟨(blk_cell BK284.out 0).trans rfl, (blk_cell BK284.out 1).trans rfl, (blk_cell BK284.out 2).trans rfl, (blk_cell BK284.out 3).trans rfl, (blk_cell BK284.out 4).trans rfl, (blk_cell BK284.out 5).trans rfl, (blk_cell BK284.out 6).trans rfl, (blk_cell BK284.out 7).trans rfl, (blk_cell BK284.out 8).trans rfl, (blk_cell BK284.out 9).trans rfl, (blk_cell BK284.out 10).trans rfl, (blk_cell BK284.out 11).trans rfl, (blk_cell BK284.out 12).trans rfl, (blk_cell BK284.out 13).trans rfl, (blk_cell BK284.out 14).trans rfl, (blk_cell BK284.out 15).trans rfl, (blk_cell BK284.out 16).trans rfl, (blk_cell BK284.out 17).trans rfl, (blk_cell BK284.out 18).trans rfl, (blk_cell BK284.out 19).trans rfl, (blk_cell BK284.out 20).trans rfl, (blk_cell BK284.out 21).trans rfl, (blk_cell BK284.out 22).trans rfl, (blk_cell BK284.out 23).trans rfl⟩ fun hHeld => ?_
  clear hK K
  refine pu_ 15 4 (fl 16 65535) ?_
  refine dn_ ?_
  try go_wp2
  have n0_ := Aside0.mk (Kd.R_drew HO300.out)
  have n1_ := Aside0.mk (blk_drew BK284.out)
  have n2_ := Aside0.mk (below_drew1 HB.out)
  clear HO300
  clear BK284
  clear HB
  have HO300 := n0_
  have BK284 := n1_
  have HB := n2_
  clear n0_ n1_ n2_
  obtain ⟨Ao33, co33, eo33⟩ := Kd.R_slice HO300.out
  (first | subst eo33 | (injection eo33 with f1_ f2_ f3_; have f4_ := f1_.symm; have f5_ := f3_.symm; clear f1_ f2_ f3_; subst f4_; subst f5_))
  refine start_ (n := 14) (S := fun w' => w'.cell? ⟨gb284, 0, none⟩ = some (.int .i64 a0_0) ∧ w'.cell? ⟨gb284, 1, none⟩ = some (.int .i64 a0_1) ∧ w'.cell? ⟨gb284, 2, none⟩ = some (.int .i64 a0_2) ∧ w'.cell? ⟨gb284, 3, none⟩ = some (.string a0_3) ∧ w'.cell? ⟨gb284, 4, none⟩ = some (.int .i64 a0_4) ∧ w'.cell? ⟨gb284, 5, none⟩ = some (.int .i64 a0_5) ∧ w'.cell? ⟨gb284, 6, none⟩ = some (.string a0_6) ∧ w'.cell? ⟨gb284, 7, none⟩ = some (.int .i64 a0_7) ∧ w'.cell? ⟨gb284, 8, none⟩ = some (.int .i64 a0_8) ∧ w'.cell? ⟨gb284, 9, none⟩ = some (.int .i64 a0_9) ∧ w'.cell? ⟨gb284, 10, none⟩ = some (.bool a0_10) ∧ w'.cell? ⟨gb284, 11, none⟩ = some (.bool a0_11) ∧ w'.cell? ⟨gb284, 12, none⟩ = some (.string a0_12) ∧ w'.cell? ⟨gb284, 13, none⟩ = some (.slice A0_13 l0_13.length c0_13) ∧ w'.cell? ⟨gb284, 14, none⟩ = some (.slice A0_14 l0_14.length c0_14) ∧ w'.cell? ⟨gb284, 15, none⟩ = some (.slice A0_15 l0_15.length c0_15) ∧ w'.cell? ⟨gb284, 16, none⟩ = some (.string a0_16) ∧ w'.cell? ⟨gb284, 17, none⟩ = some (.bool a0_17) ∧ w'.cell? ⟨gb284, 18, none⟩ = some (.slice A0_18 l0_18.length c0_18) ∧ w'.cell? ⟨gb284, 19, none⟩ = some (.string a0_19) ∧ w'.cell? ⟨gb284, 20, none⟩ = some (.int .i64 a0_20) ∧ w'.cell? ⟨gb284, 21, none⟩ = some (.bool a0_21) ∧ w'.cell? ⟨gb284, 22, none⟩ = some (.slice A0_22 l0_22.length c0_22) ∧ w'.cell? ⟨gb284, 23, none⟩ = some (.slice A0_23 l0_23.length c0_23)) (ds := []) (fl 14 0) (by kernel_rfl) rfl rfl ⟨(blk_cell BK284.out 0).trans rfl, (blk_cell BK284.out 1).trans rfl, (blk_cell BK284.out 2).trans rfl, (blk_cell BK284.out 3).trans rfl, (blk_cell BK284.out 4).trans rfl, (blk_cell BK284.out 5).trans rfl, (blk_cell BK284.out 6).trans rfl, (blk_cell BK284.out 7).trans rfl, (blk_cell BK284.out 8).trans rfl, (blk_cell BK284.out 9).trans rfl, (blk_cell BK284.out 10).trans rfl, (blk_cell BK284.out 11).trans rfl, (blk_cell BK284.out 12).trans rfl, (blk_cell BK284.out 13).trans rfl, (blk_cell BK284.out 14).trans rfl, (blk_cell BK284.out 15).trans rfl, (blk_cell BK284.out 16).trans rfl, (blk_cell BK284.out 17).trans rfl, (blk_cell BK284.out 18).trans rfl, (blk_cell BK284.out 19).trans rfl, (blk_cell BK284.out 20).trans rfl, (blk_cell BK284.out 21).trans rfl, (blk_cell BK284.out 22).trans rfl, (blk_cell BK284.out 23).trans rfl⟩ (fun hHeld => ?_); refine with_tabW wire_Answer.tab4 wire_Answer.bits4 (fun HT_ HW_ => ?_)
  generalize w31.drew = w32 at HO300 BK284 HB hHeld ⊢
  refine pu_ 0 27 (fl 14 1) ?_
  refine pu_ 1 28 (fl 14 3) ?_
  refine pu_ 2 29 (fl 14 7) ?_
  refine pu_ 5 32 (fl 14 39) ?_
  refine pu_ 6 33 (fl 14 103) ?_
  refine pu_ 9 36 (fl 14 615) ?_
  refine pu_ 10 37 (fl 14 1639) ?_
  refine take_ (i := 3) (N := some 30) (v := ?_) (a' := ?_) (fl 14 1647) rfl rfl (take_ofW HT_.out HW_.out (by kernel_rfl)) (fun _ _ _ h => h) (Or.inl ⟨by rfl, ?_⟩) hHeld ?_ ?_
  rotate_left
  ·rintro w' ⟨s0, s1, s2, s3, s4, s5, s6, s7, s8, s9, s10, s11, s12, s13, s14, s15, s16, s17, s18, s19, s20, s21, s22, s23⟩
   go_simp
   with_reducible rfl
  rotate_left
  ·simp only [Act.put, List.setIfInBounds_toArray, List.set_cons_zero, List.set_cons_succ, i64_w, i32_w]
   rfl
  refine take_ (i := 7) (N := some 34) (v := ?_) (a' := ?_) (fl 14 1775) rfl rfl (take_ofW HT_.out HW_.out (by kernel_rfl)) (fun _ _ _ h => h) (Or.inl ⟨by rfl, ?_⟩) hHeld ?_ ?_
  rotate_left
  ·rintro w' ⟨s0, s1, s2, s3, s4, s5, s6, s7, s8, s9, s10, s11, s12, s13, s14, s15, s16, s17, s18, s19, s20, s21, s22, s23⟩
   go_simp
   with_reducible rfl
  rotate_left
  ·simp only [Act.put, List.setIfInBounds_toArray, List.set_cons_zero, List.set_cons_succ, i64_w, i32_w]
   rfl
  refine take_ (i := 11) (N := some 38) (v := ?_) (a' := ?_) (fl 14 3823) rfl rfl (take_ofW HT_.out HW_.out (by kernel_rfl)) (fun _ _ _ h => h) (Or.inl ⟨by rfl, ?_⟩) hHeld ?_ ?_
  rotate_left
  ·rintro w' ⟨s0, s1, s2, s3, s4, s5, s6, s7, s8, s9, s10, s11, s12, s13, s14, s15, s16, s17, s18, s19, s20, s21, s22, s23⟩
   go_simp
   with_reducible rfl
  rotate_left
  ·simp only [Act.put, List.setIfInBounds_toArray, List.set_cons_zero, List.set_cons_succ, i64_w, i32_w]
   rfl
  refine on_ 4 (some 31) (fl 14 3839) fun K hK => ?_
  refine goes_ Try.func34 (by kernel_rfl) rfl #[.slice Ao33 t298.length co33, .string a0_6] (by rfl) rfl rfl qb ?_
  with_reducible refine (field_PutText.calls k (fun k_ => some k_ = (.slice Ao33 t298.length co33 : Value).ownBlock) (.slice Ao33 t298.length co33) t298 a0_6 t301 w _ ?side1 ?side2 A9.out).mono ?_
  (case side1 => repeat (first | (with_reducible first | exact HB.out | apply below_alloc | apply pw_below_drewN | apply below_drew1 | refine below_set ?_ GE284.out) | exact HB.out))
  (case side2 => exact Kd.R_tight rfl HO300.out)
  rintro e w34 ⟨v302, rfl, ho0, hb, hkp⟩
  refine ⟨_, rfl, ?_⟩
  have n0_ := Aside0.mk (blk_kept (qc BK284.out) hkp (fun hs_ => (fun e_ => (Kd.R_ne HO300.out BK284.out (by decide)) e_) hs_))
  have n1_ := Aside0.mk (Kd.R_mono (ok' := fun k_ => True) ho0 (fun k_ hk_ => trivial))
  have n2_ := Aside0.mk (hb)
  clear BK284
  clear HB
  clear HO300
  have BK284 := n0_
  have HO303 := n1_
  have HB := n2_
  clear n0_ n1_ n2_
  (try clear hb)
  (try clear hkp)
  (try clear ho0)
  obtain ⟨Ao35, co35, eo35⟩ := Kd.R_slice HO303.out
  (first | subst eo35 | (injection eo35 with f1_ f2_ f3_; have f4_ := f1_.symm; have f5_ := f3_.symm; clear f1_ f2_ f3_; subst f4_; subst f5_))
  refine nm_ hK ⟨(blk_cell BK284.out 0).trans rfl, (blk_cell BK284.out 1).trans rfl, (blk_cell BK284.out 2).trans rfl, (blk_cell BK284.out 3).trans rfl, (blk_cell BK284.out 4).trans rfl, (blk_cell BK284.out 5).trans rfl, (blk_cell BK284.out 6).trans rfl, (blk_cell BK284.out 7).trans rfl, (blk_cell BK284.out 8).trans rfl, (blk_cell BK284.out 9).trans rfl, (blk_cell BK284.out 10).trans rfl, (blk_cell BK284.out 11).trans rfl, (blk_cell BK284.out 12).trans rfl, (blk_cell BK284.out 13).trans rfl, (blk_cell BK284.out 14).trans rfl, (blk_cell BK284.out 15).trans rfl, (blk_cell BK284.out 16).trans rfl, (blk_cell BK284.out 17).trans rfl, (blk_cell BK284.out 18).trans rfl, (blk_cell BK284.out 19).trans rfl, (blk_cell BK284.out 20).trans rfl, (blk_cell BK284.out 21).trans rfl, (blk_cell BK284.out 22).trans rfl, (blk_cell BK284.out 23).trans rfl⟩ fun hHeld => ?_
  clear hK K
  refine on_ 8 (some 35) (fl 14 4095) fun K hK => ?_
  refine goes_ Try.func36 (by kernel_rfl) rfl #[.slice Ao35 t301.length co35, .agg #[.int .i64 a0_7, .int .i64 a0_8, .int .i64 a0_9, .bool a0_10, .bool a0_11]] (by rfl) rfl rfl qb ?_
  with_reducible refine (wire_putHead.calls k (fun k_ => some k_ = (.slice Ao35 t301.length co35 : Value).ownBlock) (.slice Ao35 t301.length co35) t301 a0_7 a0_8 a0_9 a0_10 a0_11 t304 w _ ?side1 ?side2 A10.out).mono ?_
  (case side1 => repeat (first | (with_reducible first | exact HB.out | apply below_alloc | apply pw_below_drewN | apply below_drew1 | refine below_set ?_ GE284.out) | exact HB.out))
  (case side2 => exact Kd.R_tight rfl HO303.out)
  rintro e w36 ⟨v305, rfl, ho0, hb, hkp⟩
  refine ⟨_, rfl, ?_⟩
  have n0_ := Aside0.mk (blk_kept (qc BK284.out) hkp (fun hs_ => (fun e_ => (Kd.R_ne HO303.out BK284.out (by decide)) e_) hs_))
  have n1_ := Aside0.mk (Kd.R_mono (ok' := fun k_ => True) ho0 (fun k_ hk_ => trivial))
  have n2_ := Aside0.mk (hb)
  clear BK284
  clear HB
  clear HO303
  have BK284 := n0_
  have HO306 := n1_
  have HB := n2_
  clear n0_ n1_ n2_
  (try clear hb)
  (try clear hkp)
  (try clear ho0)
  obtain ⟨Ao37, co37, eo37⟩ := Kd.R_slice HO306.out
  (first | subst eo37 | (injection eo37 with f1_ f2_ f3_; have f4_ := f1_.symm; have f5_ := f3_.symm; clear f1_ f2_ f3_; subst f4_; subst f5_))
  refine nm_ hK ⟨(blk_cell BK284.out 0).trans rfl, (blk_cell BK284.out 1).trans rfl, (blk_cell BK284.out 2).trans rfl, (blk_cell BK284.out 3).trans rfl, (blk_cell BK284.out 4).trans rfl, (blk_cell BK284.out 5).trans rfl, (blk_cell BK284.out 6).trans rfl, (blk_cell BK284.out 7).trans rfl, (blk_cell BK284.out 8).trans rfl, (blk_cell BK284.out 9).trans rfl, (blk_cell BK284.out 10).trans rfl, (blk_cell BK284.out 11).trans rfl, (blk_cell BK284.out 12).trans rfl, (blk_cell BK284.out 13).trans rfl, (blk_cell BK284.out 14).trans rfl, (blk_cell BK284.out 15).trans rfl, (blk_cell BK284.out 16).trans rfl, (blk_cell BK284.out 17).trans rfl, (blk_cell BK284.out 18).trans rfl, (blk_cell BK284.out 19).trans rfl, (blk_cell BK284.out 20).trans rfl, (blk_cell BK284.out 21).trans rfl, (blk_cell BK284.out 22).trans rfl, (blk_cell BK284.out 23).trans rfl⟩ fun hHeld => ?_
  clear hK K
  refine on_ 12 (some 39) (fl 14 8191) fun K hK => ?_
  refine goes_ Try.func34 (by kernel_rfl) rfl #[.slice Ao37 t304.length co37, .string a0_12] (by rfl) rfl rfl qb ?_
  with_reducible refine (field_PutText.calls k (fun k_ => some k_ = (.slice Ao37 t304.length co37 : Value).ownBlock) (.slice Ao37 t304.length co37) t304 a0_12 t307 w _ ?side1 ?side2 A11.out).mono ?_
  (case side1 => repeat (first | (with_reducible first | exact HB.out | apply below_alloc | apply pw_below_drewN | apply below_drew1 | refine below_set ?_ GE284.out) | exact HB.out))
  (case side2 => exact Kd.R_tight rfl HO306.out)
  rintro e w38 ⟨v308, rfl, ho0, hb, hkp⟩
  refine ⟨_, rfl, ?_⟩
  have n0_ := Aside0.mk (blk_kept (qc BK284.out) hkp (fun hs_ => (fun e_ => (Kd.R_ne HO306.out BK284.out (by decide)) e_) hs_))
  have n1_ := Aside0.mk (Kd.R_mono (ok' := fun k_ => True) ho0 (fun k_ hk_ => trivial))
  have n2_ := Aside0.mk (hb)
  clear BK284
  clear HB
  clear HO306
  have BK284 := n0_
  have HO309 := n1_
  have HB := n2_
  clear n0_ n1_ n2_
  (try clear hb)
  (try clear hkp)
  (try clear ho0)
  refine nm_ hK ⟨(blk_cell BK284.out 0).trans rfl, (blk_cell BK284.out 1).trans rfl, (blk_cell BK284.out 2).trans rfl, (blk_cell BK284.out 3).trans rfl, (blk_cell BK284.out 4).trans rfl, (blk_cell BK284.out 5).trans rfl, (blk_cell BK284.out 6).trans rfl, (blk_cell BK284.out 7).trans rfl, (blk_cell BK284.out 8).trans rfl, (blk_cell BK284.out 9).trans rfl, (blk_cell BK284.out 10).trans rfl, (blk_cell BK284.out 11).trans rfl, (blk_cell BK284.out 12).trans rfl, (blk_cell BK284.out 13).trans rfl, (blk_cell BK284.out 14).trans rfl, (blk_cell BK284.out 15).trans rfl, (blk_cell BK284.out 16).trans rfl, (blk_cell BK284.out 17).trans rfl, (blk_cell BK284.out 18).trans rfl, (blk_cell BK284.out 19).trans rfl, (blk_cell BK284.out 20).trans rfl, (blk_cell BK284.out 21).trans rfl, (blk_cell BK284.out 22).trans rfl, (blk_cell BK284.out 23).trans rfl⟩ fun hHeld => ?_
  clear hK K
  refine pu_ 13 4 (fl 14 16383) ?_
  refine dn_ ?_
  try go_wp2
  have n0_ := Aside0.mk (Kd.R_drew HO309.out)
  have n1_ := Aside0.mk (blk_drew BK284.out)
  have n2_ := Aside0.mk (below_drew1 HB.out)
  clear HO309
  clear BK284
  clear HB
  have HO309 := n0_
  have BK284 := n1_
  have HB := n2_
  clear n0_ n1_ n2_
  obtain ⟨Ao40, co40, eo40⟩ := Kd.R_slice HO309.out
  (first | subst eo40 | (injection eo40 with f1_ f2_ f3_; have f4_ := f1_.symm; have f5_ := f3_.symm; clear f1_ f2_ f3_; subst f4_; subst f5_))
  refine start_ (n := 13) (S := fun w' => w'.cell? ⟨gb284, 0, none⟩ = some (.int .i64 a0_0) ∧ w'.cell? ⟨gb284, 1, none⟩ = some (.int .i64 a0_1) ∧ w'.cell? ⟨gb284, 2, none⟩ = some (.int .i64 a0_2) ∧ w'.cell? ⟨gb284, 3, none⟩ = some (.string a0_3) ∧ w'.cell? ⟨gb284, 4, none⟩ = some (.int .i64 a0_4) ∧ w'.cell? ⟨gb284, 5, none⟩ = some (.int .i64 a0_5) ∧ w'.cell? ⟨gb284, 6, none⟩ = some (.string a0_6) ∧ w'.cell? ⟨gb284, 7, none⟩ = some (.int .i64 a0_7) ∧ w'.cell? ⟨gb284, 8, none⟩ = some (.int .i64 a0_8) ∧ w'.cell? ⟨gb284, 9, none⟩ = some (.int .i64 a0_9) ∧ w'.cell? ⟨gb284, 10, none⟩ = some (.bool a0_10) ∧ w'.cell? ⟨gb284, 11, none⟩ = some (.bool a0_11) ∧ w'.cell? ⟨gb284, 12, none⟩ = some (.string a0_12) ∧ w'.cell? ⟨gb284, 13, none⟩ = some (.slice A0_13 l0_13.length c0_13) ∧ w'.cell? ⟨gb284, 14, none⟩ = some (.slice A0_14 l0_14.length c0_14) ∧ w'.cell? ⟨gb284, 15, none⟩ = some (.slice A0_15 l0_15.length c0_15) ∧ w'.cell? ⟨gb284, 16, none⟩ = some (.string a0_16) ∧ w'.cell? ⟨gb284, 17, none⟩ = some (.bool a0_17) ∧ w'.cell? ⟨gb284, 18, none⟩ = some (.slice A0_18 l0_18.length c0_18) ∧ w'.cell? ⟨gb284, 19, none⟩ = some (.string a0_19) ∧ w'.cell? ⟨gb284, 20, none⟩ = some (.int .i64 a0_20) ∧ w'.cell? ⟨gb284, 21, none⟩ = some (.bool a0_21) ∧ w'.cell? ⟨gb284, 22, none⟩ = some (.slice A0_22 l0_22.length c0_22) ∧ w'.cell? ⟨gb284, 23, none⟩ = some (.slice A0_23 l0_23.length c0_23)) (ds := []) (fl 13 0) (by kernel_rfl) rfl rfl ⟨(blk_cell BK284.out 0).trans rfl, (blk_cell BK284.out 1).trans rfl, (blk_cell BK284.out 2).trans rfl, (blk_cell BK284.out 3).trans rfl, (blk_cell BK284.out 4).trans rfl, (blk_cell BK284.out 5).trans rfl, (blk_cell BK284.out 6).trans rfl, (blk_cell BK284.out 7).trans rfl, (blk_cell BK284.out 8).trans rfl, (blk_cell BK284.out 9).trans rfl, (blk_cell BK284.out 10).trans rfl, (blk_cell BK284.out 11).trans rfl, (blk_cell BK284.out 12).trans rfl, (blk_cell BK284.out 13).trans rfl, (blk_cell BK284.out 14).trans rfl, (blk_cell BK284.out 15).trans rfl, (blk_cell BK284.out 16).trans rfl, (blk_cell BK284.out 17).trans rfl, (blk_cell BK284.out 18).trans rfl, (blk_cell BK284.out 19).trans rfl, (blk_cell BK284.out 20).trans rfl, (blk_cell BK284.out 21).trans rfl, (blk_cell BK284.out 22).trans rfl, (blk_cell BK284.out 23).trans rfl⟩ (fun hHeld => ?_); refine with_tabW wire_Answer.tab5 wire_Answer.bits5 (fun HT_ HW_ => ?_)
  generalize w38.drew = w39 at HO309 BK284 HB hHeld ⊢
  refine pu_ 0 40 (fl 13 1) ?_
  refine pu_ 1 41 (fl 13 3) ?_
  refine pu_ 4 44 (fl 13 19) ?_
  refine pu_ 5 45 (fl 13 51) ?_
  refine pu_ 8 48 (fl 13 307) ?_
  refine pu_ 9 49 (fl 13 819) ?_
  refine take_ (i := 2) (N := some 42) (v := ?_) (a' := ?_) (fl 13 823) rfl rfl (take_ofW HT_.out HW_.out (by kernel_rfl)) (fun _ _ _ h => h) (Or.inl ⟨by rfl, ?_⟩) hHeld ?_ ?_
  rotate_left
  ·rintro w' ⟨s0, s1, s2, s3, s4, s5, s6, s7, s8, s9, s10, s11, s12, s13, s14, s15, s16, s17, s18, s19, s20, s21, s22, s23⟩
   go_simp
   with_reducible rfl
  rotate_left
  ·simp only [Act.put, List.setIfInBounds_toArray, List.set_cons_zero, List.set_cons_succ, i64_w, i32_w]
   rfl
  refine take_ (i := 6) (N := some 46) (v := ?_) (a' := ?_) (fl 13 887) rfl rfl (take_ofW HT_.out HW_.out (by kernel_rfl)) (fun _ _ _ h => h) (Or.inl ⟨by rfl, ?_⟩) hHeld ?_ ?_
  rotate_left
  ·rintro w' ⟨s0, s1, s2, s3, s4, s5, s6, s7, s8, s9, s10, s11, s12, s13, s14, s15, s16, s17, s18, s19, s20, s21, s22, s23⟩
   go_simp
   with_reducible rfl
  rotate_left
  ·simp only [Act.put, List.setIfInBounds_toArray, List.set_cons_zero, List.set_cons_succ, i64_w, i32_w]
   rfl
  refine take_ (i := 10) (N := some 50) (v := ?_) (a' := ?_) (fl 13 1911) rfl rfl (take_ofW HT_.out HW_.out (by kernel_rfl)) (fun _ _ _ h => h) (Or.inl ⟨by rfl, ?_⟩) hHeld ?_ ?_
  rotate_left
  ·rintro w' ⟨s0, s1, s2, s3, s4, s5, s6, s7, s8, s9, s10, s11, s12, s13, s14, s15, s16, s17, s18, s19, s20, s21, s22, s23⟩
   go_simp
   with_reducible rfl
  rotate_left
  ·simp only [Act.put, List.setIfInBounds_toArray, List.set_cons_zero, List.set_cons_succ, i64_w, i32_w]
   rfl
  refine on_ 3 (some 43) (fl 13 1919) fun K hK => ?_
  refine goes_ Try.func37 (by kernel_rfl) rfl #[.slice Ao40 t307.length co40, .slice A0_13 l0_13.length c0_13] (by rfl) rfl rfl qb ?_
  with_reducible refine (wire_putTexts.calls k (fun k_ => some k_ = (.slice Ao40 t307.length co40 : Value).ownBlock) (.slice Ao40 t307.length co40) t307 _ _ l0_13 t310 w _ ?side1 ?side2 ?side3 ?side4 A12.out).mono ?_
  (case side1 => repeat (first | (with_reducible first | exact HB.out | apply below_alloc | apply pw_below_drewN | apply below_drew1 | refine below_set ?_ GE284.out) | exact HB.out))
  (case side2 => exact Kd.R_tight rfl HO309.out)
  (case side3 => exact Kd.C_kept_came Kd.heap_string HR0_13.out (qd GE284.out) (fun k_ hs_ => (fun e_ => Kd.R_base HO309.out k_ e_.symm) hs_))
  (case side4 => exact HC0_13.out)
  rintro e w41 ⟨v311, rfl, ho0, hb, hkp⟩
  refine ⟨_, rfl, ?_⟩
  have n0_ := Aside0.mk (blk_kept (qc BK284.out) hkp (fun hs_ => (fun e_ => (Kd.R_ne HO309.out BK284.out (by decide)) e_) hs_))
  have n1_ := Aside0.mk (Kd.R_mono (ok' := fun k_ => True) ho0 (fun k_ hk_ => trivial))
  have n2_ := Aside0.mk (hb)
  clear BK284
  clear HB
  clear HO309
  have BK284 := n0_
  have HO312 := n1_
  have HB := n2_
  clear n0_ n1_ n2_
  (try clear hb)
  (try clear hkp)
  (try clear ho0)
  obtain ⟨Ao42, co42, eo42⟩ := Kd.R_slice HO312.out
  (first | subst eo42 | (injection eo42 with f1_ f2_ f3_; have f4_ := f1_.symm; have f5_ := f3_.symm; clear f1_ f2_ f3_; subst f4_; subst f5_))
  refine nm_ hK ⟨(blk_cell BK284.out 0).trans rfl, (blk_cell BK284.out 1).trans rfl, (blk_cell BK284.out 2).trans rfl, (blk_cell BK284.out 3).trans rfl, (blk_cell BK284.out 4).trans rfl, (blk_cell BK284.out 5).trans rfl, (blk_cell BK284.out 6).trans rfl, (blk_cell BK284.out 7).trans rfl, (blk_cell BK284.out 8).trans rfl, (blk_cell BK284.out 9).trans rfl, (blk_cell BK284.out 10).trans rfl, (blk_cell BK284.out 11).trans rfl, (blk_cell BK284.out 12).trans rfl, (blk_cell BK284.out 13).trans rfl, (blk_cell BK284.out 14).trans rfl, (blk_cell BK284.out 15).trans rfl, (blk_cell BK284.out 16).trans rfl, (blk_cell BK284.out 17).trans rfl, (blk_cell BK284.out 18).trans rfl, (blk_cell BK284.out 19).trans rfl, (blk_cell BK284.out 20).trans rfl, (blk_cell BK284.out 21).trans rfl, (blk_cell BK284.out 22).trans rfl, (blk_cell BK284.out 23).trans rfl⟩ fun hHeld => ?_
  clear hK K
  refine on_ 7 (some 47) (fl 13 2047) fun K hK => ?_
  refine goes_ Try.func37 (by kernel_rfl) rfl #[.slice Ao42 t310.length co42, .slice A0_14 l0_14.length c0_14] (by rfl) rfl rfl qb ?_
  with_reducible refine (wire_putTexts.calls k (fun k_ => some k_ = (.slice Ao42 t310.length co42 : Value).ownBlock) (.slice Ao42 t310.length co42) t310 _ _ l0_14 t313 w _ ?side1 ?side2 ?side3 ?side4 A13.out).mono ?_
  (case side1 => repeat (first | (with_reducible first | exact HB.out | apply below_alloc | apply pw_below_drewN | apply below_drew1 | refine below_set ?_ GE284.out) | exact HB.out))
  (case side2 => exact Kd.R_tight rfl HO312.out)
  (case side3 => exact Kd.C_kept_came Kd.heap_string HR0_14.out (qd GE284.out) (fun k_ hs_ => (fun e_ => Kd.R_base HO312.out k_ e_.symm) hs_))
  (case side4 => exact HC0_14.out)
  rintro e w43 ⟨v314, rfl, ho0, hb, hkp⟩
  refine ⟨_, rfl, ?_⟩
  have n0_ := Aside0.mk (blk_kept (qc BK284.out) hkp (fun hs_ => (fun e_ => (Kd.R_ne HO312.out BK284.out (by decide)) e_) hs_))
  have n1_ := Aside0.mk (Kd.R_mono (ok' := fun k_ => True) ho0 (fun k_ hk_ => trivial))
  have n2_ := Aside0.mk (hb)
  clear BK284
  clear HB
  clear HO312
  have BK284 := n0_
  have HO315 := n1_
  have HB := n2_
  clear n0_ n1_ n2_
  (try clear hb)
  (try clear hkp)
  (try clear ho0)
  obtain ⟨Ao44, co44, eo44⟩ := Kd.R_slice HO315.out
  (first | subst eo44 | (injection eo44 with f1_ f2_ f3_; have f4_ := f1_.symm; have f5_ := f3_.symm; clear f1_ f2_ f3_; subst f4_; subst f5_))
  refine nm_ hK ⟨(blk_cell BK284.out 0).trans rfl, (blk_cell BK284.out 1).trans rfl, (blk_cell BK284.out 2).trans rfl, (blk_cell BK284.out 3).trans rfl, (blk_cell BK284.out 4).trans rfl, (blk_cell BK284.out 5).trans rfl, (blk_cell BK284.out 6).trans rfl, (blk_cell BK284.out 7).trans rfl, (blk_cell BK284.out 8).trans rfl, (blk_cell BK284.out 9).trans rfl, (blk_cell BK284.out 10).trans rfl, (blk_cell BK284.out 11).trans rfl, (blk_cell BK284.out 12).trans rfl, (blk_cell BK284.out 13).trans rfl, (blk_cell BK284.out 14).trans rfl, (blk_cell BK284.out 15).trans rfl, (blk_cell BK284.out 16).trans rfl, (blk_cell BK284.out 17).trans rfl, (blk_cell BK284.out 18).trans rfl, (blk_cell BK284.out 19).trans rfl, (blk_cell BK284.out 20).trans rfl, (blk_cell BK284.out 21).trans rfl, (blk_cell BK284.out 22).trans rfl, (blk_cell BK284.out 23).trans rfl⟩ fun hHeld => ?_
  clear hK K
  refine on_ 11 (some 51) (fl 13 4095) fun K hK => ?_
  refine goes_ Try.func37 (by kernel_rfl) rfl #[.slice Ao44 t313.length co44, .slice A0_15 l0_15.length c0_15] (by rfl) rfl rfl qb ?_
  with_reducible refine (wire_putTexts.calls k (fun k_ => some k_ = (.slice Ao44 t313.length co44 : Value).ownBlock) (.slice Ao44 t313.length co44) t313 _ _ l0_15 t316 w _ ?side1 ?side2 ?side3 ?side4 A14.out).mono ?_
  (case side1 => repeat (first | (with_reducible first | exact HB.out | apply below_alloc | apply pw_below_drewN | apply below_drew1 | refine below_set ?_ GE284.out) | exact HB.out))
  (case side2 => exact Kd.R_tight rfl HO315.out)
  (case side3 => exact Kd.C_kept_came Kd.heap_string HR0_15.out (qd GE284.out) (fun k_ hs_ => (fun e_ => Kd.R_base HO315.out k_ e_.symm) hs_))
  (case side4 => exact HC0_15.out)
  rintro e w45 ⟨v317, rfl, ho0, hb, hkp⟩
  refine ⟨_, rfl, ?_⟩
  have n0_ := Aside0.mk (blk_kept (qc BK284.out) hkp (fun hs_ => (fun e_ => (Kd.R_ne HO315.out BK284.out (by decide)) e_) hs_))
  have n1_ := Aside0.mk (Kd.R_mono (ok' := fun k_ => True) ho0 (fun k_ hk_ => trivial))
  have n2_ := Aside0.mk (hb)
  clear BK284
  clear HB
  clear HO315
  have BK284 := n0_
  have HO318 := n1_
  have HB := n2_
  clear n0_ n1_ n2_
  (try clear hb)
  (try clear hkp)
  (try clear ho0)
  refine nm_ hK ⟨(blk_cell BK284.out 0).trans rfl, (blk_cell BK284.out 1).trans rfl, (blk_cell BK284.out 2).trans rfl, (blk_cell BK284.out 3).trans rfl, (blk_cell BK284.out 4).trans rfl, (blk_cell BK284.out 5).trans rfl, (blk_cell BK284.out 6).trans rfl, (blk_cell BK284.out 7).trans rfl, (blk_cell BK284.out 8).trans rfl, (blk_cell BK284.out 9).trans rfl, (blk_cell BK284.out 10).trans rfl, (blk_cell BK284.out 11).trans rfl, (blk_cell BK284.out 12).trans rfl, (blk_cell BK284.out 13).trans rfl, (blk_cell BK284.out 14).trans rfl, (blk_cell BK284.out 15).trans rfl, (blk_cell BK284.out 16).trans rfl, (blk_cell BK284.out 17).trans rfl, (blk_cell BK284.out 18).trans rfl, (blk_cell BK284.out 19).trans rfl, (blk_cell BK284.out 20).trans rfl, (blk_cell BK284.out 21).trans rfl, (blk_cell BK284.out 22).trans rfl, (blk_cell BK284.out 23).trans rfl⟩ fun hHeld => ?_
  clear hK K
  refine pu_ 12 4 (fl 13 8191) ?_
  refine dn_ ?_
  try go_wp2
  have n0_ := Aside0.mk (Kd.R_drew HO318.out)
  have n1_ := Aside0.mk (blk_drew BK284.out)
  have n2_ := Aside0.mk (below_drew1 HB.out)
  clear HO318
  clear BK284
  clear HB
  have HO318 := n0_
  have BK284 := n1_
  have HB := n2_
  clear n0_ n1_ n2_
  obtain ⟨Ao47, co47, eo47⟩ := Kd.R_slice HO318.out
  (first | subst eo47 | (injection eo47 with f1_ f2_ f3_; have f4_ := f1_.symm; have f5_ := f3_.symm; clear f1_ f2_ f3_; subst f4_; subst f5_))
  refine start_ (n := 13) (S := fun w' => w'.cell? ⟨gb284, 0, none⟩ = some (.int .i64 a0_0) ∧ w'.cell? ⟨gb284, 1, none⟩ = some (.int .i64 a0_1) ∧ w'.cell? ⟨gb284, 2, none⟩ = some (.int .i64 a0_2) ∧ w'.cell? ⟨gb284, 3, none⟩ = some (.string a0_3) ∧ w'.cell? ⟨gb284, 4, none⟩ = some (.int .i64 a0_4) ∧ w'.cell? ⟨gb284, 5, none⟩ = some (.int .i64 a0_5) ∧ w'.cell? ⟨gb284, 6, none⟩ = some (.string a0_6) ∧ w'.cell? ⟨gb284, 7, none⟩ = some (.int .i64 a0_7) ∧ w'.cell? ⟨gb284, 8, none⟩ = some (.int .i64 a0_8) ∧ w'.cell? ⟨gb284, 9, none⟩ = some (.int .i64 a0_9) ∧ w'.cell? ⟨gb284, 10, none⟩ = some (.bool a0_10) ∧ w'.cell? ⟨gb284, 11, none⟩ = some (.bool a0_11) ∧ w'.cell? ⟨gb284, 12, none⟩ = some (.string a0_12) ∧ w'.cell? ⟨gb284, 13, none⟩ = some (.slice A0_13 l0_13.length c0_13) ∧ w'.cell? ⟨gb284, 14, none⟩ = some (.slice A0_14 l0_14.length c0_14) ∧ w'.cell? ⟨gb284, 15, none⟩ = some (.slice A0_15 l0_15.length c0_15) ∧ w'.cell? ⟨gb284, 16, none⟩ = some (.string a0_16) ∧ w'.cell? ⟨gb284, 17, none⟩ = some (.bool a0_17) ∧ w'.cell? ⟨gb284, 18, none⟩ = some (.slice A0_18 l0_18.length c0_18) ∧ w'.cell? ⟨gb284, 19, none⟩ = some (.string a0_19) ∧ w'.cell? ⟨gb284, 20, none⟩ = some (.int .i64 a0_20) ∧ w'.cell? ⟨gb284, 21, none⟩ = some (.bool a0_21) ∧ w'.cell? ⟨gb284, 22, none⟩ = some (.slice A0_22 l0_22.length c0_22) ∧ w'.cell? ⟨gb284, 23, none⟩ = some (.slice A0_23 l0_23.length c0_23)) (ds := []) (fl 13 0) (by kernel_rfl) rfl rfl ⟨(blk_cell BK284.out 0).trans rfl, (blk_cell BK284.out 1).trans rfl, (blk_cell BK284.out 2).trans rfl, (blk_cell BK284.out 3).trans rfl, (blk_cell BK284.out 4).trans rfl, (blk_cell BK284.out 5).trans rfl, (blk_cell BK284.out 6).trans rfl, (blk_cell BK284.out 7).trans rfl, (blk_cell BK284.out 8).trans rfl, (blk_cell BK284.out 9).trans rfl, (blk_cell BK284.out 10).trans rfl, (blk_cell BK284.out 11).trans rfl, (blk_cell BK284.out 12).trans rfl, (blk_cell BK284.out 13).trans rfl, (blk_cell BK284.out 14).trans rfl, (blk_cell BK284.out 15).trans rfl, (blk_cell BK284.out 16).trans rfl, (blk_cell BK284.out 17).trans rfl, (blk_cell BK284.out 18).trans rfl, (blk_cell BK284.out 19).trans rfl, (blk_cell BK284.out 20).trans rfl, (blk_cell BK284.out 21).trans rfl, (blk_cell BK284.out 22).trans rfl, (blk_cell BK284.out 23).trans rfl⟩ (fun hHeld => ?_); refine with_tabW wire_Answer.tab6 wire_Answer.bits6 (fun HT_ HW_ => ?_)
  generalize w45.drew = w46 at HO318 BK284 HB hHeld ⊢
  refine pu_ 0 52 (fl 13 1) ?_
  refine pu_ 1 53 (fl 13 3) ?_
  refine pu_ 2 54 (fl 13 7) ?_
  refine pu_ 5 57 (fl 13 39) ?_
  refine pu_ 6 58 (fl 13 103) ?_
  refine pu_ 9 61 (fl 13 615) ?_
  refine take_ (i := 3) (N := some 55) (v := ?_) (a' := ?_) (fl 13 623) rfl rfl (take_ofW HT_.out HW_.out (by kernel_rfl)) (fun _ _ _ h => h) (Or.inl ⟨by rfl, ?_⟩) hHeld ?_ ?_
  rotate_left
  ·rintro w' ⟨s0, s1, s2, s3, s4, s5, s6, s7, s8, s9, s10, s11, s12, s13, s14, s15, s16, s17, s18, s19, s20, s21, s22, s23⟩
   go_simp
   with_reducible rfl
  rotate_left
  ·simp only [Act.put, List.setIfInBounds_toArray, List.set_cons_zero, List.set_cons_succ, i64_w, i32_w]
   rfl
  refine take_ (i := 7) (N := some 59) (v := ?_) (a' := ?_) (fl 13 751) rfl rfl (take_ofW HT_.out HW_.out (by kernel_rfl)) (fun _ _ _ h => h) (Or.inl ⟨by rfl, ?_⟩) hHeld ?_ ?_
  rotate_left
  ·rintro w' ⟨s0, s1, s2, s3, s4, s5, s6, s7, s8, s9, s10, s11, s12, s13, s14, s15, s16, s17, s18, s19, s20, s21, s22, s23⟩
   go_simp
   with_reducible rfl
  rotate_left
  ·simp only [Act.put, List.setIfInBounds_toArray, List.set_cons_zero, List.set_cons_succ, i64_w, i32_w]
   rfl
  refine take_ (i := 10) (N := some 62) (v := ?_) (a' := ?_) (fl 13 1775) rfl rfl (take_ofW HT_.out HW_.out (by kernel_rfl)) (fun _ _ _ h => h) (Or.inl ⟨by rfl, ?_⟩) hHeld ?_ ?_
  rotate_left
  ·rintro w' ⟨s0, s1, s2, s3, s4, s5, s6, s7, s8, s9, s10, s11, s12, s13, s14, s15, s16, s17, s18, s19, s20, s21, s22, s23⟩
   go_simp
   with_reducible rfl
  rotate_left
  ·simp only [Act.put, List.setIfInBounds_toArray, List.set_cons_zero, List.set_cons_succ, i64_w, i32_w]
   rfl
  refine on_ 4 (some 56) (fl 13 1791) fun K hK => ?_
  refine goes_ Try.func34 (by kernel_rfl) rfl #[.slice Ao47 t316.length co47, .string a0_16] (by rfl) rfl rfl qb ?_
  with_reducible refine (field_PutText.calls k (fun k_ => some k_ = (.slice Ao47 t316.length co47 : Value).ownBlock) (.slice Ao47 t316.length co47) t316 a0_16 t319 w _ ?side1 ?side2 A15.out).mono ?_
  (case side1 => repeat (first | (with_reducible first | exact HB.out | apply below_alloc | apply pw_below_drewN | apply below_drew1 | refine below_set ?_ GE284.out) | exact HB.out))
  (case side2 => exact Kd.R_tight rfl HO318.out)
  rintro e w48 ⟨v320, rfl, ho0, hb, hkp⟩
  refine ⟨_, rfl, ?_⟩
  have n0_ := Aside0.mk (blk_kept (qc BK284.out) hkp (fun hs_ => (fun e_ => (Kd.R_ne HO318.out BK284.out (by decide)) e_) hs_))
  have n1_ := Aside0.mk (Kd.R_mono (ok' := fun k_ => True) ho0 (fun k_ hk_ => trivial))
  have n2_ := Aside0.mk (hb)
  clear BK284
  clear HB
  clear HO318
  have BK284 := n0_
  have HO321 := n1_
  have HB := n2_
  clear n0_ n1_ n2_
  (try clear hb)
  (try clear hkp)
  (try clear ho0)
  obtain ⟨Ao49, co49, eo49⟩ := Kd.R_slice HO321.out
  (first | subst eo49 | (injection eo49 with f1_ f2_ f3_; have f4_ := f1_.symm; have f5_ := f3_.symm; clear f1_ f2_ f3_; subst f4_; subst f5_))
  refine nm_ hK ⟨(blk_cell BK284.out 0).trans rfl, (blk_cell BK284.out 1).trans rfl, (blk_cell BK284.out 2).trans rfl, (blk_cell BK284.out 3).trans rfl, (blk_cell BK284.out 4).trans rfl, (blk_cell BK284.out 5).trans rfl, (blk_cell BK284.out 6).trans rfl, (blk_cell BK284.out 7).trans rfl, (blk_cell BK284.out 8).trans rfl, (blk_cell BK284.out 9).trans rfl, (blk_cell BK284.out 10).trans rfl, (blk_cell BK284.out 11).trans rfl, (blk_cell BK284.out 12).trans rfl, (blk_cell BK284.out 13).trans rfl, (blk_cell BK284.out 14).trans rfl, (blk_cell BK284.out 15).trans rfl, (blk_cell BK284.out 16).trans rfl, (blk_cell BK284.out 17).trans rfl, (blk_cell BK284.out 18).trans rfl, (blk_cell BK284.out 19).trans rfl, (blk_cell BK284.out 20).trans rfl, (blk_cell BK284.out 21).trans rfl, (blk_cell BK284.out 22).trans rfl, (blk_cell BK284.out 23).trans rfl⟩ fun hHeld => ?_
  clear hK K
  refine on_ 8 (some 60) (fl 13 2047) fun K hK => ?_
  refine goes_ Try.func39 (by kernel_rfl) rfl #[.slice Ao49 t319.length co49, .bool a0_17] (by rfl) rfl rfl qb ?_
  with_reducible refine (wire_putTruth.calls (fun k_ => some k_ = (.slice Ao49 t319.length co49 : Value).ownBlock) (.slice Ao49 t319.length co49) t319 a0_17 t322 w _ ?side1 ?side2 A16.out).mono ?_
  (case side1 => repeat (first | (with_reducible first | exact HB.out | apply below_alloc | apply pw_below_drewN | apply below_drew1 | refine below_set ?_ GE284.out) | exact HB.out))
  (case side2 => exact Kd.R_tight rfl HO321.out)
  rintro e w50 ⟨v323, rfl, ho0, hb, hkp⟩
  refine ⟨_, rfl, ?_⟩
  have n0_ := Aside0.mk (blk_kept (qc BK284.out) hkp (fun hs_ => (fun e_ => (Kd.R_ne HO321.out BK284.out (by decide)) e_) hs_))
  have n1_ := Aside0.mk (Kd.R_mono (ok' := fun k_ => True) ho0 (fun k_ hk_ => trivial))
  have n2_ := Aside0.mk (hb)
  clear BK284
  clear HB
  clear HO321
  have BK284 := n0_
  have HO324 := n1_
  have HB := n2_
  clear n0_ n1_ n2_
  (try clear hb)
  (try clear hkp)
  (try clear ho0)
  obtain ⟨Ao51, co51, eo51⟩ := Kd.R_slice HO324.out
  (first | subst eo51 | (injection eo51 with f1_ f2_ f3_; have f4_ := f1_.symm; have f5_ := f3_.symm; clear f1_ f2_ f3_; subst f4_; subst f5_))
  refine nm_ hK ⟨(blk_cell BK284.out 0).trans rfl, (blk_cell BK284.out 1).trans rfl, (blk_cell BK284.out 2).trans rfl, (blk_cell BK284.out 3).trans rfl, (blk_cell BK284.out 4).trans rfl, (blk_cell BK284.out 5).trans rfl, (blk_cell BK284.out 6).trans rfl, (blk_cell BK284.out 7).trans rfl, (blk_cell BK284.out 8).trans rfl, (blk_cell BK284.out 9).trans rfl, (blk_cell BK284.out 10).trans rfl, (blk_cell BK284.out 11).trans rfl, (blk_cell BK284.out 12).trans rfl, (blk_cell BK284.out 13).trans rfl, (blk_cell BK284.out 14).trans rfl, (blk_cell BK284.out 15).trans rfl, (blk_cell BK284.out 16).trans rfl, (blk_cell BK284.out 17).trans rfl, (blk_cell BK284.out 18).trans rfl, (blk_cell BK284.out 19).trans rfl, (blk_cell BK284.out 20).trans rfl, (blk_cell BK284.out 21).trans rfl, (blk_cell BK284.out 22).trans rfl, (blk_cell BK284.out 23).trans rfl⟩ fun hHeld => ?_
  clear hK K
  refine on_ 11 (some 63) (fl 13 4095) fun K hK => ?_
  refine goes_ Try.func38 (by kernel_rfl) rfl #[.slice Ao51 t322.length co51, .agg #[.slice A0_18 l0_18.length c0_18, .string a0_19, .int .i64 a0_20, .bool a0_21]] (by rfl) rfl rfl qb ?_
  with_reducible refine (wire_putLines.calls k (fun k_ => some k_ = (.slice Ao51 t322.length co51 : Value).ownBlock) (.slice Ao51 t322.length co51) t322 _ _ l0_18 a0_19 a0_20 a0_21 t325 w _ ?side1 ?side2 ?side3 ?side4 A17.out).mono ?_
  (case side1 => repeat (first | (with_reducible first | exact HB.out | apply below_alloc | apply pw_below_drewN | apply below_drew1 | refine below_set ?_ GE284.out) | exact HB.out))
  (case side2 => exact Kd.R_tight rfl HO324.out)
  (case side3 => exact Kd.C_kept_came k123_heap HR0_18.out (qd GE284.out) (fun k_ hs_ => (fun e_ => Kd.R_base HO324.out k_ e_.symm) hs_))
  (case side4 => exact HC0_18.out)
  rintro e w52 ⟨v326, rfl, ho0, hb, hkp⟩
  refine ⟨_, rfl, ?_⟩
  have n0_ := Aside0.mk (blk_kept (qc BK284.out) hkp (fun hs_ => (fun e_ => (Kd.R_ne HO324.out BK284.out (by decide)) e_) hs_))
  have n1_ := Aside0.mk (Kd.R_mono (ok' := fun k_ => True) ho0 (fun k_ hk_ => trivial))
  have n2_ := Aside0.mk (hb)
  clear BK284
  clear HB
  clear HO324
  have BK284 := n0_
  have HO327 := n1_
  have HB := n2_
  clear n0_ n1_ n2_
  (try clear hb)
  (try clear hkp)
  (try clear ho0)
  refine nm_ hK ⟨(blk_cell BK284.out 0).trans rfl, (blk_cell BK284.out 1).trans rfl, (blk_cell BK284.out 2).trans rfl, (blk_cell BK284.out 3).trans rfl, (blk_cell BK284.out 4).trans rfl, (blk_cell BK284.out 5).trans rfl, (blk_cell BK284.out 6).trans rfl, (blk_cell BK284.out 7).trans rfl, (blk_cell BK284.out 8).trans rfl, (blk_cell BK284.out 9).trans rfl, (blk_cell BK284.out 10).trans rfl, (blk_cell BK284.out 11).trans rfl, (blk_cell BK284.out 12).trans rfl, (blk_cell BK284.out 13).trans rfl, (blk_cell BK284.out 14).trans rfl, (blk_cell BK284.out 15).trans rfl, (blk_cell BK284.out 16).trans rfl, (blk_cell BK284.out 17).trans rfl, (blk_cell BK284.out 18).trans rfl, (blk_cell BK284.out 19).trans rfl, (blk_cell BK284.out 20).trans rfl, (blk_cell BK284.out 21).trans rfl, (blk_cell BK284.out 22).trans rfl, (blk_cell BK284.out 23).trans rfl⟩ fun hHeld => ?_
  clear hK K
  refine pu_ 12 4 (fl 13 8191) ?_
  refine dn_ ?_
  obtain ⟨hcz53_0, hcz53_1, hcz53_2, hcz53_3, hcz53_4, hcz53_5, hcz53_6, hcz53_7, hcz53_8, hcz53_9, hcz53_10, hcz53_11, hcz53_12, hcz53_13, hcz53_14, hcz53_15, hcz53_16, hcz53_17, hcz53_18, hcz53_19, hcz53_20, hcz53_21, hcz53_22, hcz53_23⟩ := cells_24 BK284.out
  have hfz53_0 := blk_frozen BK284.out
  obtain ⟨Ao54, co54, eo54⟩ := Kd.R_slice HO327.out
  subst eo54
  try go_wp2_with (first | ((with_reducible refine gate_dst (N := 9) rfl ?_); refine Kd.event_run rfl (load_step _ Try.isAgg54 Try.sizeOf54 rfl rfl rfl BK284.out) ?_) | ((with_reducible refine gate_callee (f := 40) rfl ?_); refine goesL_ (some 68) rfl rfl Try.func40 (by kernel_rfl) rfl #[.slice Ao54 t325.length co54, .int .i64 (l0_22.length : Int)] rfl qb ?_; (with_reducible refine (field_Put16.calls k (fun k_ => some k_ = (.slice Ao54 t325.length co54 : Value).ownBlock) (.slice Ao54 t325.length co54) t325 (l0_22.length : Int) t328 w _ ?side1 ?side2 A18.out).mono ?_); (case side1 => repeat (first | (with_reducible first | exact HB.out | apply below_alloc | apply pw_below_drewN | apply below_drew1 | refine below_set ?_ GE284.out) | exact HB.out)); (case side2 => exact Kd.R_tight rfl HO327.out); rintro e w55 ⟨v329, rfl, ho0, hb, hkp⟩; refine ⟨_, rfl, ?_⟩; have n0_ := Aside0.mk (blk_kept (qc BK284.out) hkp (fun hs_ => (fun e_ => (Kd.R_ne HO327.out BK284.out (by decide)) e_) hs_)); have n1_ := Aside0.mk (Kd.R_mono (ok' := fun k_ => True) ho0 (fun k_ hk_ => trivial)); have n2_ := Aside0.mk (hb); clear BK284; clear HB; clear HO327; have BK284 := n0_; have HO330 := n1_; have HB := n2_; clear n0_ n1_ n2_; (try clear hb); (try clear hkp); (try clear ho0); have hcz56_0 : w55.cell? ⟨gb284, 0, none⟩ = some (.int .i64 a0_0) := (blk_cell BK284.out 0).trans rfl; have hcz56_1 : w55.cell? ⟨gb284, 1, none⟩ = some (.int .i64 a0_1) := (blk_cell BK284.out 1).trans rfl; have hcz56_2 : w55.cell? ⟨gb284, 2, none⟩ = some (.int .i64 a0_2) := (blk_cell BK284.out 2).trans rfl; have hcz56_3 : w55.cell? ⟨gb284, 3, none⟩ = some (.string a0_3) := (blk_cell BK284.out 3).trans rfl; have hcz56_4 : w55.cell? ⟨gb284, 4, none⟩ = some (.int .i64 a0_4) := (blk_cell BK284.out 4).trans rfl; have hcz56_5 : w55.cell? ⟨gb284, 5, none⟩ = some (.int .i64 a0_5) := (blk_cell BK284.out 5).trans rfl; have hcz56_6 : w55.cell? ⟨gb284, 6, none⟩ = some (.string a0_6) := (blk_cell BK284.out 6).trans rfl; have hcz56_7 : w55.cell? ⟨gb284, 7, none⟩ = some (.int .i64 a0_7) := (blk_cell BK284.out 7).trans rfl; have hcz56_8 : w55.cell? ⟨gb284, 8, none⟩ = some (.int .i64 a0_8) := (blk_cell BK284.out 8).trans rfl; have hcz56_9 : w55.cell? ⟨gb284, 9, none⟩ = some (.int .i64 a0_9) := (blk_cell BK284.out 9).trans rfl; have hcz56_10 : w55.cell? ⟨gb284, 10, none⟩ = some (.bool a0_10) := (blk_cell BK284.out 10).trans rfl; have hcz56_11 : w55.cell? ⟨gb284, 11, none⟩ = some (.bool a0_11) := (blk_cell BK284.out 11).trans rfl; have hcz56_12 : w55.cell? ⟨gb284, 12, none⟩ = some (.string a0_12) := (blk_cell BK284.out 12).trans rfl; have hcz56_13 : w55.cell? ⟨gb284, 13, none⟩ = some (.slice A0_13 l0_13.length c0_13) := (blk_cell BK284.out 13).trans rfl; have hcz56_14 : w55.cell? ⟨gb284, 14, none⟩ = some (.slice A0_14 l0_14.length c0_14) := (blk_cell BK284.out 14).trans rfl; have hcz56_15 : w55.cell? ⟨gb284, 15, none⟩ = some (.slice A0_15 l0_15.length c0_15) := (blk_cell BK284.out 15).trans rfl; have hcz56_16 : w55.cell? ⟨gb284, 16, none⟩ = some (.string a0_16) := (blk_cell BK284.out 16).trans rfl; have hcz56_17 : w55.cell? ⟨gb284, 17, none⟩ = some (.bool a0_17) := (blk_cell BK284.out 17).trans rfl; have hcz56_18 : w55.cell? ⟨gb284, 18, none⟩ = some (.slice A0_18 l0_18.length c0_18) := (blk_cell BK284.out 18).trans rfl; have hcz56_19 : w55.cell? ⟨gb284, 19, none⟩ = some (.string a0_19) := (blk_cell BK284.out 19).trans rfl; have hcz56_20 : w55.cell? ⟨gb284, 20, none⟩ = some (.int .i64 a0_20) := (blk_cell BK284.out 20).trans rfl; have hcz56_21 : w55.cell? ⟨gb284, 21, none⟩ = some (.bool a0_21) := (blk_cell BK284.out 21).trans rfl; have hcz56_22 : w55.cell? ⟨gb284, 22, none⟩ = some (.slice A0_22 l0_22.length c0_22) := (blk_cell BK284.out 22).trans rfl; have hcz56_23 : w55.cell? ⟨gb284, 23, none⟩ = some (.slice A0_23 l0_23.length c0_23) := (blk_cell BK284.out 23).trans rfl; have hfz56_0 := blk_frozen BK284.out 0; have hfz56_1 := blk_frozen BK284.out 1; have hfz56_2 := blk_frozen BK284.out 2; have hfz56_3 := blk_frozen BK284.out 3; have hfz56_4 := blk_frozen BK284.out 4; have hfz56_5 := blk_frozen BK284.out 5; have hfz56_6 := blk_frozen BK284.out 6; have hfz56_7 := blk_frozen BK284.out 7; have hfz56_8 := blk_frozen BK284.out 8; have hfz56_9 := blk_frozen BK284.out 9; have hfz56_10 := blk_frozen BK284.out 10; have hfz56_11 := blk_frozen BK284.out 11; have hfz56_12 := blk_frozen BK284.out 12; have hfz56_13 := blk_frozen BK284.out 13; have hfz56_14 := blk_frozen BK284.out 14; have hfz56_15 := blk_frozen BK284.out 15; have hfz56_16 := blk_frozen BK284.out 16; have hfz56_17 := blk_frozen BK284.out 17; have hfz56_18 := blk_frozen BK284.out 18; have hfz56_19 := blk_frozen BK284.out 19; have hfz56_20 := blk_frozen BK284.out 20; have hfz56_21 := blk_frozen BK284.out 21; have hfz56_22 := blk_frozen BK284.out 22; have hfz56_23 := blk_frozen BK284.out 23))
  go_loopg [4, 72] k (fun kq v4 v72 w' => ∃ (x4_1 : List Int) (x72_1 : Int), v72 = .int .i64 x72_1 ∧ Aside0 (wire_Answer.l0 kq x4_1 l0_22 (l0_22.length : Int) x72_1 a0_0 a0_1 a0_2 a0_3 a0_4 a0_5 a0_6 a0_7 a0_8 a0_9 a0_10 a0_11 a0_12 l0_13 l0_14 l0_15 a0_16 a0_17 l0_18 a0_19 a0_20 a0_21 l0_22 l0_23 = some (r1, r2)) ∧ Aside0 (kq ≤ k) ∧ Aside0 (Kd.R (Kd.int .u8) 5 w' w.heap.size (fun _ => True) v4 x4_1) ∧ Aside0 (w'.heap[gb284]? = some (.cells #[.int .i64 a0_0, .int .i64 a0_1, .int .i64 a0_2, .string a0_3, .int .i64 a0_4, .int .i64 a0_5, .string a0_6, .int .i64 a0_7, .int .i64 a0_8, .int .i64 a0_9, .bool a0_10, .bool a0_11, .string a0_12, (.slice A0_13 l0_13.length c0_13), (.slice A0_14 l0_14.length c0_14), (.slice A0_15 l0_15.length c0_15), .string a0_16, .bool a0_17, (.slice A0_18 l0_18.length c0_18), .string a0_19, .int .i64 a0_20, .bool a0_21, (.slice A0_22 l0_22.length c0_22), (.slice A0_23 l0_23.length c0_23)] 54 (0, 0))) ∧ Aside0 (Below w.heap.size w w'))
  case atStart => exact ⟨(t328), (0), qi, H', ⟨Nat.le_refl _⟩, ⟨by (with_reducible repeat (first | apply Kd.R_alloc | apply Kd.R_drewN | apply Kd.R_drew)); exact HO330.out⟩, ⟨by (with_reducible repeat (first | refine blk_drewN ?_ _ | refine blk_drew ?_ | refine blk_alloc ?_ _)); exact BK284.out⟩, ⟨by repeat (first | (with_reducible first | exact HB.out | apply below_alloc | apply pw_below_drewN | apply below_drew1 | refine below_set ?_ GE284.out) | exact HB.out)⟩⟩
  case round =>
   clear H'
   try clear p2
   try clear c3
   try clear c4
   try clear c34
   try clear c36
   try clear c37
   try clear c38
   try clear c39
   try clear c40
   try clear hcz53_0 hcz53_1 hcz53_2 hcz53_3 hcz53_4 hcz53_5 hcz53_6 hcz53_7 hcz53_8 hcz53_9 hcz53_10 hcz53_11 hcz53_12 hcz53_13 hcz53_14 hcz53_15 hcz53_16 hcz53_17 hcz53_18 hcz53_19 hcz53_20 hcz53_21 hcz53_22 hcz53_23
   try clear hcz56_0 hcz56_1 hcz56_2 hcz56_3 hcz56_4 hcz56_5 hcz56_6 hcz56_7 hcz56_8 hcz56_9 hcz56_10 hcz56_11 hcz56_12 hcz56_13 hcz56_14 hcz56_15 hcz56_16 hcz56_17 hcz56_18 hcz56_19 hcz56_20 hcz56_21 hcz56_22 hcz56_23
   try clear hfz53_0
   try clear hfz56_0
   obtain ⟨x4_1, x72_1, rfl, HA, HK1, HO_4, BK284, HB⟩ := hrel
   cases gk with
   | zero => exact absurd HA.out (by simp [wire_Answer.l0])
   | succ k1 =>
    have H := HA.out
    clear HA
    simp only [wire_Answer.l0] at H
    by_cases c57 : x72_1 < (l0_22.length : Int)
    ·rw [if_pos c57] at H
     have c57b0 : decide (x72_1 < (l0_22.length : Int)) = true := decide_eq_true c57
     clear c57
     by_cases c58 : 0 ≤ x72_1
     ·rw [if_pos c58] at H
      have c58b0 : decide (0 ≤ x72_1) = true := decide_eq_true c58
      clear c58
      by_cases c59 : x72_1 < (l0_22.length : Int)
      ·rw [if_pos c59] at H
       have c59b0 : decide (x72_1 < (l0_22.length : Int)) = true := decide_eq_true c59
       clear c59
       replace H := Option.bind_eq_some_iff.mp H
       obtain ⟨t333, A600, H⟩ := H
       replace H : ((field_Put64.f k1 t333 ((rd_T87 l0_22 x72_1).f1)).bind fun t336 => (wire_Answer.l0 k1 t336 l0_22 (l0_22.length : Int) (wrap64 (x72_1 + 1)) a0_0 a0_1 a0_2 a0_3 a0_4 a0_5 a0_6 a0_7 a0_8 a0_9 a0_10 a0_11 a0_12 l0_13 l0_14 l0_15 a0_16 a0_17 l0_18 a0_19 a0_20 a0_21 l0_22 l0_23)) = some (r1, r2) := H
       have A60 := Aside0.mk A600
       clear A600
       replace H := Option.bind_eq_some_iff.mp H
       obtain ⟨t336, A610, H⟩ := H
       replace H : (wire_Answer.l0 k1 t336 l0_22 (l0_22.length : Int) (wrap64 (x72_1 + 1)) a0_0 a0_1 a0_2 a0_3 a0_4 a0_5 a0_6 a0_7 a0_8 a0_9 a0_10 a0_11 a0_12 l0_13 l0_14 l0_15 a0_16 a0_17 l0_18 a0_19 a0_20 a0_21 l0_22 l0_23) = some (r1, r2) := H
       have A61 := Aside0.mk A610
       clear A610
       have H' := Aside0.mk H
       clear H
       have p331 : 0 ≤ (x72_1 : Int) := of_decide_eq_true qr
       have q331 : x72_1 < (l0_22.length : Int) := of_decide_eq_true qr
       obtain ⟨ad331, e331, hx331_0, hx331_1⟩ := at_T87 HR0_22.out x72_1 p331 q331
       cases e331
       replace hx331_0 := (HB.out.cell (World.block_lt_of_cell? w _ hx331_0)).trans hx331_0
       replace hx331_1 := (HB.out.cell (World.block_lt_of_cell? w _ hx331_1)).trans hx331_1
       replace p331 := eq_true p331
       replace q331 := eq_true q331
       try go_wp2_with (first | ((with_reducible refine gate_dst (N := 9) rfl ?_); refine Kd.event_run rfl (load_step _ Try.isAgg54 Try.sizeOf54 rfl rfl rfl BK284.out) ?_) | ((with_reducible refine gate_dst (N := 6) rfl ?_); refine box_event ?hg (N := 6) ?hd (cs := #[.string (⟨#[]⟩ : ByteArray), .int .i64 0]) (t := 87) ?hr ?_; (case hd => rfl); (case hg => rfl); (case hr => first | (go_simp; done) | (go_simp; rfl)); intro gb332 hg w62 hbox hb; have n0_ := Aside0.mk (Kd.R_below (by (with_reducible repeat (first | apply Kd.R_alloc | apply Kd.R_drewN | apply Kd.R_drew)); exact HO_4.out) hb); have n1_ := Aside0.mk (blk_below (g := gb284) (o := .cells #[.int .i64 a0_0, .int .i64 a0_1, .int .i64 a0_2, .string a0_3, .int .i64 a0_4, .int .i64 a0_5, .string a0_6, .int .i64 a0_7, .int .i64 a0_8, .int .i64 a0_9, .bool a0_10, .bool a0_11, .string a0_12, .slice A0_13 l0_13.length c0_13, .slice A0_14 l0_14.length c0_14, .slice A0_15 l0_15.length c0_15, .string a0_16, .bool a0_17, .slice A0_18 l0_18.length c0_18, .string a0_19, .int .i64 a0_20, .bool a0_21, .slice (some ad331) l0_22.length c0_22, .slice A0_23 l0_23.length c0_23] 54 (0, 0)) (qc BK284.out) hb); have n2_ := Aside0.mk (below_step (qd GE284.out) hb); have n3_ := Aside0.mk (hbox); have n4_ := Aside0.mk ((by rw [hg]; exact (below_size (qd GE284.out)) : w.heap.size ≤ gb332)); have n5_ := Aside0.mk ((by rw [hg]; exact (below_size (qd GE284.out)) : w.heap.size ≤ gb332)); have n6_ := Aside0.mk ((by rw [hg]; exact Nat.ne_of_lt (blk_lt (g := gb284) (o := .cells #[.int .i64 a0_0, .int .i64 a0_1, .int .i64 a0_2, .string a0_3, .int .i64 a0_4, .int .i64 a0_5, .string a0_6, .int .i64 a0_7, .int .i64 a0_8, .int .i64 a0_9, .bool a0_10, .bool a0_11, .string a0_12, .slice A0_13 l0_13.length c0_13, .slice A0_14 l0_14.length c0_14, .slice A0_15 l0_15.length c0_15, .string a0_16, .bool a0_17, .slice A0_18 l0_18.length c0_18, .string a0_19, .int .i64 a0_20, .bool a0_21, .slice (some ad331) l0_22.length c0_22, .slice A0_23 l0_23.length c0_23] 54 (0, 0)) (qc BK284.out)) : gb284 ≠ gb332)); have n7_ := Aside0.mk ((by rw [hg]; exact Nat.ne_of_gt (blk_lt (g := gb284) (o := .cells #[.int .i64 a0_0, .int .i64 a0_1, .int .i64 a0_2, .string a0_3, .int .i64 a0_4, .int .i64 a0_5, .string a0_6, .int .i64 a0_7, .int .i64 a0_8, .int .i64 a0_9, .bool a0_10, .bool a0_11, .string a0_12, .slice A0_13 l0_13.length c0_13, .slice A0_14 l0_14.length c0_14, .slice A0_15 l0_15.length c0_15, .string a0_16, .bool a0_17, .slice A0_18 l0_18.length c0_18, .string a0_19, .int .i64 a0_20, .bool a0_21, .slice (some ad331) l0_22.length c0_22, .slice A0_23 l0_23.length c0_23] 54 (0, 0)) (qc BK284.out)) : gb332 ≠ gb284)); clear HO_4; clear BK284; clear HB; have HO_4 := n0_; have BK284 := n1_; have HB := n2_; have BK332 := n3_; have GW332 := n4_; have GE332 := n5_; have NB284_332 := n6_; have NB332_284 := n7_; clear n0_ n1_ n2_ n3_ n4_ n5_ n6_ n7_; clear hb hbox hg; have hnb63 := NB332_284.out; have hnc63 := NB284_332.out; have hcz64_0 : w62.cell? ⟨gb332, 0, none⟩ = some (.string (⟨#[]⟩ : ByteArray)) := (blk_cell BK332.out 0).trans rfl; have hcz64_1 : w62.cell? ⟨gb332, 1, none⟩ = some (.int .i64 0) := (blk_cell BK332.out 1).trans rfl; have hfz64_0 := blk_frozen BK332.out 0; have hfz64_1 := blk_frozen BK332.out 1))
       have n0_ : Aside0 (Kd.R (Kd.int .u8) 5 ((w62.setCell ⟨gb332, 0, none⟩ (.string ((rd_T87 l0_22 x72_1).f0))).setCell ⟨gb332, 1, none⟩ (.int .i64 ((rd_T87 l0_22 x72_1).f1))) w.heap.size (fun _ => True) u4 x4_1) := ⟨by (with_reducible repeat (first | apply Kd.R_alloc | apply Kd.R_drewN | apply Kd.R_drew)); exact Kd.R_mono (Kd.R_far (p := ⟨gb332, 1, none⟩) (Kd.R_far (p := ⟨gb332, 0, none⟩) (Kd.R_types HO_4.out BK332.out (by decide)) (fun _ hk => hk.2) (.string ((rd_T87 l0_22 x72_1).f0))) (fun _ hk => hk.2) (.int .i64 ((rd_T87 l0_22 x72_1).f1))) (fun _ hk => trivial)⟩
       have n1_ : Aside0 (((w62.setCell ⟨gb332, 0, none⟩ (.string ((rd_T87 l0_22 x72_1).f0))).setCell ⟨gb332, 1, none⟩ (.int .i64 ((rd_T87 l0_22 x72_1).f1))).heap[gb284]? = some (.cells #[.int .i64 a0_0, .int .i64 a0_1, .int .i64 a0_2, .string a0_3, .int .i64 a0_4, .int .i64 a0_5, .string a0_6, .int .i64 a0_7, .int .i64 a0_8, .int .i64 a0_9, .bool a0_10, .bool a0_11, .string a0_12, .slice A0_13 l0_13.length c0_13, .slice A0_14 l0_14.length c0_14, .slice A0_15 l0_15.length c0_15, .string a0_16, .bool a0_17, .slice A0_18 l0_18.length c0_18, .string a0_19, .int .i64 a0_20, .bool a0_21, .slice (some ad331) l0_22.length c0_22, .slice A0_23 l0_23.length c0_23] 54 (0, 0))) := ⟨by (with_reducible repeat (first | refine blk_drewN ?_ _ | refine blk_drew ?_ | refine blk_alloc ?_ _)); refine blk_far ?_ NB284_332.out _; (with_reducible repeat (first | refine blk_drewN ?_ _ | refine blk_drew ?_ | refine blk_alloc ?_ _)); refine blk_far ?_ NB284_332.out _; (with_reducible repeat (first | refine blk_drewN ?_ _ | refine blk_drew ?_ | refine blk_alloc ?_ _)); exact BK284.out⟩
       have n2_ : Aside0 (((w62.setCell ⟨gb332, 0, none⟩ (.string ((rd_T87 l0_22 x72_1).f0))).setCell ⟨gb332, 1, none⟩ (.int .i64 ((rd_T87 l0_22 x72_1).f1))).heap[gb332]? = some (.cells #[.string ((rd_T87 l0_22 x72_1).f0), .int .i64 ((rd_T87 l0_22 x72_1).f1)] 87 (0, 0))) := ⟨by (with_reducible repeat (first | refine blk_drewN ?_ _ | refine blk_drew ?_ | refine blk_alloc ?_ _)); refine blk_put (cs := #[.string ((rd_T87 l0_22 x72_1).f0), .int .i64 0]) ?_ 1 _ rfl; (with_reducible repeat (first | refine blk_drewN ?_ _ | refine blk_drew ?_ | refine blk_alloc ?_ _)); refine blk_put (cs := #[.string (⟨#[]⟩ : ByteArray), .int .i64 0]) ?_ 0 _ rfl; (with_reducible repeat (first | refine blk_drewN ?_ _ | refine blk_drew ?_ | refine blk_alloc ?_ _)); exact BK332.out⟩
       have n3_ : Aside0 (Below w.heap.size w ((w62.setCell ⟨gb332, 0, none⟩ (.string ((rd_T87 l0_22 x72_1).f0))).setCell ⟨gb332, 1, none⟩ (.int .i64 ((rd_T87 l0_22 x72_1).f1)))) := ⟨by repeat (first | (with_reducible first | exact HB.out | apply below_alloc | apply pw_below_drewN | apply below_drew1 | refine below_set ?_ GE284.out | refine below_set ?_ GE332.out) | exact HB.out)⟩
       (try clear HO_4)
       (try clear BK284)
       (try clear BK332)
       (try clear HB)
       generalize ((w62.setCell ⟨gb332, 0, none⟩ (.string ((rd_T87 l0_22 x72_1).f0))).setCell ⟨gb332, 1, none⟩ (.int .i64 ((rd_T87 l0_22 x72_1).f1))) = w65 at n0_ n1_ n2_ n3_ ⊢
       have HO_4 := n0_
       have BK284 := n1_
       have BK332 := n2_
       have HB := n3_
       clear n0_ n1_ n2_ n3_
       have n0_ := Aside0.mk (Kd.R_drew HO_4.out)
       have n1_ := Aside0.mk (blk_drew BK284.out)
       have n2_ := Aside0.mk (blk_drew BK332.out)
       have n3_ := Aside0.mk (below_drew1 HB.out)
       clear HO_4
       clear BK284
       clear BK332
       clear HB
       have HO_4 := n0_
       have BK284 := n1_
       have BK332 := n2_
       have HB := n3_
       clear n0_ n1_ n2_ n3_
       obtain ⟨Ao67, co67, eo67⟩ := Kd.R_slice HO_4.out
       (first | subst eo67 | (injection eo67 with f1_ f2_ f3_; have f4_ := f1_.symm; have f5_ := f3_.symm; clear f1_ f2_ f3_; subst f4_; subst f5_))
       refine start_ (n := 8) (S := fun w' => w'.cell? ⟨gb332, 0, none⟩ = some (.string ((rd_T87 l0_22 x72_1).f0)) ∧ w'.cell? ⟨gb332, 1, none⟩ = some (.int .i64 ((rd_T87 l0_22 x72_1).f1))) (ds := []) (fl 8 0) (by kernel_rfl) rfl rfl ⟨(blk_cell BK332.out 0).trans rfl, (blk_cell BK332.out 1).trans rfl⟩ (fun hHeld => ?_); refine with_tabW wire_Answer.tab11 wire_Answer.bits11 (fun HT_ HW_ => ?_)
       generalize w65.drew = w66 at HO_4 BK284 BK332 HB hHeld ⊢
       refine pu_ 0 76 (fl 8 1) ?_
       refine pu_ 1 77 (fl 8 3) ?_
       refine pu_ 4 80 (fl 8 19) ?_
       refine tk_2 2 78 (fl 8 23) hHeld ?_
       refine tk_2 5 81 (fl 8 55) hHeld ?_
       refine on_ 3 (some 79) (fl 8 63) fun K hK => ?_
       refine goes_ Try.func34 (by kernel_rfl) rfl #[.slice Ao67 x4_1.length co67, .string ((rd_T87 l0_22 x72_1).f0)] (by rfl) rfl rfl qb ?_
       with_reducible refine (field_PutText.calls k1 (fun k_ => some k_ = (.slice Ao67 x4_1.length co67 : Value).ownBlock) (.slice Ao67 x4_1.length co67) x4_1 ((rd_T87 l0_22 x72_1).f0) t333 w _ ?side1 ?side2 A60.out).mono ?_
       (case side1 => repeat (first | (with_reducible first | exact HB.out | apply below_alloc | apply pw_below_drewN | apply below_drew1 | refine below_set ?_ GE284.out | refine below_set ?_ GE332.out) | exact HB.out))
       (case side2 => exact Kd.R_tight rfl HO_4.out)
       rintro e w68 ⟨v334, rfl, ho0, hb, hkp⟩
       refine ⟨_, rfl, ?_⟩
       have n0_ := Aside0.mk (blk_kept (qc BK284.out) hkp (fun hs_ => (fun e_ => (Kd.R_ne HO_4.out BK284.out (by decide)) e_) hs_))
       have n1_ := Aside0.mk (blk_kept (qc BK332.out) hkp (fun hs_ => (fun e_ => (Kd.R_ne HO_4.out BK332.out (by decide)) e_) hs_))
       have n2_ := Aside0.mk (Kd.R_mono (ok' := fun k_ => True) ho0 (fun k_ hk_ => trivial))
       have n3_ := Aside0.mk (hb)
       clear BK284
       clear BK332
       clear HB
       clear HO_4
       have BK284 := n0_
       have BK332 := n1_
       have HO335 := n2_
       have HB := n3_
       clear n0_ n1_ n2_ n3_
       (try clear hb)
       (try clear hkp)
       (try clear ho0)
       obtain ⟨Ao69, co69, eo69⟩ := Kd.R_slice HO335.out
       (first | subst eo69 | (injection eo69 with f1_ f2_ f3_; have f4_ := f1_.symm; have f5_ := f3_.symm; clear f1_ f2_ f3_; subst f4_; subst f5_))
       refine nm_ hK ⟨(blk_cell BK332.out 0).trans rfl, (blk_cell BK332.out 1).trans rfl⟩ fun hHeld => ?_
       clear hK K
       refine on_ 6 (some 82) (fl 8 127) fun K hK => ?_
       refine goes_ Try.func35 (by kernel_rfl) rfl #[.slice Ao69 t333.length co69, .int .i64 ((rd_T87 l0_22 x72_1).f1)] (by rfl) rfl rfl qb ?_
       with_reducible refine (field_Put64.calls k1 (fun k_ => some k_ = (.slice Ao69 t333.length co69 : Value).ownBlock) (.slice Ao69 t333.length co69) t333 ((rd_T87 l0_22 x72_1).f1) t336 w _ ?side1 ?side2 A61.out).mono ?_
       (case side1 => repeat (first | (with_reducible first | exact HB.out | apply below_alloc | apply pw_below_drewN | apply below_drew1 | refine below_set ?_ GE284.out | refine below_set ?_ GE332.out) | exact HB.out))
       (case side2 => exact Kd.R_tight rfl HO335.out)
       rintro e w70 ⟨v337, rfl, ho0, hb, hkp⟩
       refine ⟨_, rfl, ?_⟩
       have n0_ := Aside0.mk (blk_kept (qc BK284.out) hkp (fun hs_ => (fun e_ => (Kd.R_ne HO335.out BK284.out (by decide)) e_) hs_))
       have n1_ := Aside0.mk (blk_kept (qc BK332.out) hkp (fun hs_ => (fun e_ => (Kd.R_ne HO335.out BK332.out (by decide)) e_) hs_))
       have n2_ := Aside0.mk (Kd.R_mono (ok' := fun k_ => True) ho0 (fun k_ hk_ => trivial))
       have n3_ := Aside0.mk (hb)
       clear BK284
       clear BK332
       clear HB
       clear HO335
       have BK284 := n0_
       have BK332 := n1_
       have HO338 := n2_
       have HB := n3_
       clear n0_ n1_ n2_ n3_
       (try clear hb)
       (try clear hkp)
       (try clear ho0)
       refine nm_ hK ⟨(blk_cell BK332.out 0).trans rfl, (blk_cell BK332.out 1).trans rfl⟩ fun hHeld => ?_
       clear hK K
       refine pu_ 7 4 (fl 8 255) ?_
       refine dn_ ?_
       try go_wp2
       go_roundg k1
       case measure => have := HK1.out; omega
       case rel => exact ⟨(t336), (wrap64 (x72_1 + 1)), qi, H', ⟨by have := HK1.out; omega⟩, ⟨by (with_reducible repeat (first | apply Kd.R_alloc | apply Kd.R_drewN | apply Kd.R_drew)); exact HO338.out⟩, ⟨by (with_reducible repeat (first | refine blk_drewN ?_ _ | refine blk_drew ?_ | refine blk_alloc ?_ _)); exact BK284.out⟩, ⟨by repeat (first | (with_reducible first | exact HB.out | apply below_alloc | apply pw_below_drewN | apply below_drew1 | refine below_set ?_ GE284.out | refine below_set ?_ GE332.out) | exact HB.out)⟩⟩
      ·rw [if_neg c59] at H
       exact absurd H (by simp)
     ·rw [if_neg c58] at H
      exact absurd H (by simp)
    ·rw [if_neg c57] at H
     have c57b0 : decide (x72_1 < (l0_22.length : Int)) = false := decide_eq_false c57
     clear c57
     replace H := Option.bind_eq_some_iff.mp H
     obtain ⟨t339, A710, H⟩ := H
     replace H : (wire_Answer.l1 k1 t339 l0_23 (l0_23.length : Int) 0) = some (r1, r2) := H
     have A71 := Aside0.mk A710
     clear A710
     have H' := Aside0.mk H
     clear H
     obtain ⟨hcz72_0, hcz72_1, hcz72_2, hcz72_3, hcz72_4, hcz72_5, hcz72_6, hcz72_7, hcz72_8, hcz72_9, hcz72_10, hcz72_11, hcz72_12, hcz72_13, hcz72_14, hcz72_15, hcz72_16, hcz72_17, hcz72_18, hcz72_19, hcz72_20, hcz72_21, hcz72_22, hcz72_23⟩ := cells_24 BK284.out
     have hfz72_0 := blk_frozen BK284.out
     obtain ⟨Ao73, co73, eo73⟩ := Kd.R_slice HO_4.out
     subst eo73
     go_wp2_with (first | ((with_reducible refine gate_dst (N := 9) rfl ?_); refine Kd.event_run rfl (load_step _ Try.isAgg54 Try.sizeOf54 rfl rfl rfl BK284.out) ?_) | ((with_reducible refine gate_callee (f := 40) rfl ?_); refine goesL_ (some 88) rfl rfl Try.func40 (by kernel_rfl) rfl #[.slice Ao73 x4_1.length co73, .int .i64 (l0_23.length : Int)] rfl qb ?_; (with_reducible refine (field_Put16.calls k1 (fun k_ => some k_ = (.slice Ao73 x4_1.length co73 : Value).ownBlock) (.slice Ao73 x4_1.length co73) x4_1 (l0_23.length : Int) t339 w _ ?side1 ?side2 A71.out).mono ?_); (case side1 => repeat (first | (with_reducible first | exact HB.out | apply below_alloc | apply pw_below_drewN | apply below_drew1 | refine below_set ?_ GE284.out) | exact HB.out)); (case side2 => exact Kd.R_tight rfl HO_4.out); rintro e w74 ⟨v340, rfl, ho0, hb, hkp⟩; refine ⟨_, rfl, ?_⟩; have n0_ := Aside0.mk (blk_kept (qc BK284.out) hkp (fun hs_ => (fun e_ => (Kd.R_ne HO_4.out BK284.out (by decide)) e_) hs_)); have n1_ := Aside0.mk (Kd.R_mono (ok' := fun k_ => True) ho0 (fun k_ hk_ => trivial)); have n2_ := Aside0.mk (hb); clear BK284; clear HB; clear HO_4; have BK284 := n0_; have HO341 := n1_; have HB := n2_; clear n0_ n1_ n2_; (try clear hb); (try clear hkp); (try clear ho0); have hcz75_0 : w74.cell? ⟨gb284, 0, none⟩ = some (.int .i64 a0_0) := (blk_cell BK284.out 0).trans rfl; have hcz75_1 : w74.cell? ⟨gb284, 1, none⟩ = some (.int .i64 a0_1) := (blk_cell BK284.out 1).trans rfl; have hcz75_2 : w74.cell? ⟨gb284, 2, none⟩ = some (.int .i64 a0_2) := (blk_cell BK284.out 2).trans rfl; have hcz75_3 : w74.cell? ⟨gb284, 3, none⟩ = some (.string a0_3) := (blk_cell BK284.out 3).trans rfl; have hcz75_4 : w74.cell? ⟨gb284, 4, none⟩ = some (.int .i64 a0_4) := (blk_cell BK284.out 4).trans rfl; have hcz75_5 : w74.cell? ⟨gb284, 5, none⟩ = some (.int .i64 a0_5) := (blk_cell BK284.out 5).trans rfl; have hcz75_6 : w74.cell? ⟨gb284, 6, none⟩ = some (.string a0_6) := (blk_cell BK284.out 6).trans rfl; have hcz75_7 : w74.cell? ⟨gb284, 7, none⟩ = some (.int .i64 a0_7) := (blk_cell BK284.out 7).trans rfl; have hcz75_8 : w74.cell? ⟨gb284, 8, none⟩ = some (.int .i64 a0_8) := (blk_cell BK284.out 8).trans rfl; have hcz75_9 : w74.cell? ⟨gb284, 9, none⟩ = some (.int .i64 a0_9) := (blk_cell BK284.out 9).trans rfl; have hcz75_10 : w74.cell? ⟨gb284, 10, none⟩ = some (.bool a0_10) := (blk_cell BK284.out 10).trans rfl; have hcz75_11 : w74.cell? ⟨gb284, 11, none⟩ = some (.bool a0_11) := (blk_cell BK284.out 11).trans rfl; have hcz75_12 : w74.cell? ⟨gb284, 12, none⟩ = some (.string a0_12) := (blk_cell BK284.out 12).trans rfl; have hcz75_13 : w74.cell? ⟨gb284, 13, none⟩ = some (.slice A0_13 l0_13.length c0_13) := (blk_cell BK284.out 13).trans rfl; have hcz75_14 : w74.cell? ⟨gb284, 14, none⟩ = some (.slice A0_14 l0_14.length c0_14) := (blk_cell BK284.out 14).trans rfl; have hcz75_15 : w74.cell? ⟨gb284, 15, none⟩ = some (.slice A0_15 l0_15.length c0_15) := (blk_cell BK284.out 15).trans rfl; have hcz75_16 : w74.cell? ⟨gb284, 16, none⟩ = some (.string a0_16) := (blk_cell BK284.out 16).trans rfl; have hcz75_17 : w74.cell? ⟨gb284, 17, none⟩ = some (.bool a0_17) := (blk_cell BK284.out 17).trans rfl; have hcz75_18 : w74.cell? ⟨gb284, 18, none⟩ = some (.slice A0_18 l0_18.length c0_18) := (blk_cell BK284.out 18).trans rfl; have hcz75_19 : w74.cell? ⟨gb284, 19, none⟩ = some (.string a0_19) := (blk_cell BK284.out 19).trans rfl; have hcz75_20 : w74.cell? ⟨gb284, 20, none⟩ = some (.int .i64 a0_20) := (blk_cell BK284.out 20).trans rfl; have hcz75_21 : w74.cell? ⟨gb284, 21, none⟩ = some (.bool a0_21) := (blk_cell BK284.out 21).trans rfl; have hcz75_22 : w74.cell? ⟨gb284, 22, none⟩ = some (.slice A0_22 l0_22.length c0_22) := (blk_cell BK284.out 22).trans rfl; have hcz75_23 : w74.cell? ⟨gb284, 23, none⟩ = some (.slice A0_23 l0_23.length c0_23) := (blk_cell BK284.out 23).trans rfl; have hfz75_0 := blk_frozen BK284.out 0; have hfz75_1 := blk_frozen BK284.out 1; have hfz75_2 := blk_frozen BK284.out 2; have hfz75_3 := blk_frozen BK284.out 3; have hfz75_4 := blk_frozen BK284.out 4; have hfz75_5 := blk_frozen BK284.out 5; have hfz75_6 := blk_frozen BK284.out 6; have hfz75_7 := blk_frozen BK284.out 7; have hfz75_8 := blk_frozen BK284.out 8; have hfz75_9 := blk_frozen BK284.out 9; have hfz75_10 := blk_frozen BK284.out 10; have hfz75_11 := blk_frozen BK284.out 11; have hfz75_12 := blk_frozen BK284.out 12; have hfz75_13 := blk_frozen BK284.out 13; have hfz75_14 := blk_frozen BK284.out 14; have hfz75_15 := blk_frozen BK284.out 15; have hfz75_16 := blk_frozen BK284.out 16; have hfz75_17 := blk_frozen BK284.out 17; have hfz75_18 := blk_frozen BK284.out 18; have hfz75_19 := blk_frozen BK284.out 19; have hfz75_20 := blk_frozen BK284.out 20; have hfz75_21 := blk_frozen BK284.out 21; have hfz75_22 := blk_frozen BK284.out 22; have hfz75_23 := blk_frozen BK284.out 23))
     go_loopg [4, 92] k1 (fun kq v4 v92 w' => ∃ (x4_2 : List Int) (x92_2 : Int), v92 = .int .i64 x92_2 ∧ Aside0 (wire_Answer.l1 kq x4_2 l0_23 (l0_23.length : Int) x92_2 = some (r1, r2)) ∧ Aside0 (kq ≤ k1) ∧ Aside0 (Kd.R (Kd.int .u8) 5 w' w.heap.size (fun _ => True) v4 x4_2) ∧ Aside0 (w'.heap[gb284]? = some (.cells #[.int .i64 a0_0, .int .i64 a0_1, .int .i64 a0_2, .string a0_3, .int .i64 a0_4, .int .i64 a0_5, .string a0_6, .int .i64 a0_7, .int .i64 a0_8, .int .i64 a0_9, .bool a0_10, .bool a0_11, .string a0_12, (.slice A0_13 l0_13.length c0_13), (.slice A0_14 l0_14.length c0_14), (.slice A0_15 l0_15.length c0_15), .string a0_16, .bool a0_17, (.slice A0_18 l0_18.length c0_18), .string a0_19, .int .i64 a0_20, .bool a0_21, (.slice A0_22 l0_22.length c0_22), (.slice A0_23 l0_23.length c0_23)] 54 (0, 0))) ∧ Aside0 (Below w.heap.size w w'))
     case atStart => exact ⟨(t339), (0), qi, H', ⟨Nat.le_refl _⟩, ⟨by (with_reducible repeat (first | apply Kd.R_alloc | apply Kd.R_drewN | apply Kd.R_drew)); exact HO341.out⟩, ⟨by (with_reducible repeat (first | refine blk_drewN ?_ _ | refine blk_drew ?_ | refine blk_alloc ?_ _)); exact BK284.out⟩, ⟨by repeat (first | (with_reducible first | exact HB.out | apply below_alloc | apply pw_below_drewN | apply below_drew1 | refine below_set ?_ GE284.out) | exact HB.out)⟩⟩
     case round =>
      clear H'
      try clear p2
      try clear c3
      try clear p3
      try clear q3
      try clear hx3
      try clear c4
      try clear c5
      try clear c6
      try clear p6
      try clear p33
      try clear q33
      try clear hx33
      try clear c34
      try clear c35
      try clear c36
      try clear c37
      try clear c38
      try clear c39
      try clear c40
      try clear c57
      try clear c57b0
      try clear c58
      try clear c58b0
      try clear c59
      try clear c59b0
      try clear c63
      try clear p64
      try clear hcz53_0 hcz53_1 hcz53_2 hcz53_3 hcz53_4 hcz53_5 hcz53_6 hcz53_7 hcz53_8 hcz53_9 hcz53_10 hcz53_11 hcz53_12 hcz53_13 hcz53_14 hcz53_15 hcz53_16 hcz53_17 hcz53_18 hcz53_19 hcz53_20 hcz53_21 hcz53_22 hcz53_23
      try clear hcz56_0 hcz56_1 hcz56_2 hcz56_3 hcz56_4 hcz56_5 hcz56_6 hcz56_7 hcz56_8 hcz56_9 hcz56_10 hcz56_11 hcz56_12 hcz56_13 hcz56_14 hcz56_15 hcz56_16 hcz56_17 hcz56_18 hcz56_19 hcz56_20 hcz56_21 hcz56_22 hcz56_23
      try clear hcz64_0 hcz64_1
      try clear hcz72_0 hcz72_1 hcz72_2 hcz72_3 hcz72_4 hcz72_5 hcz72_6 hcz72_7 hcz72_8 hcz72_9 hcz72_10 hcz72_11 hcz72_12 hcz72_13 hcz72_14 hcz72_15 hcz72_16 hcz72_17 hcz72_18 hcz72_19 hcz72_20 hcz72_21 hcz72_22 hcz72_23
      try clear hcz75_0 hcz75_1 hcz75_2 hcz75_3 hcz75_4 hcz75_5 hcz75_6 hcz75_7 hcz75_8 hcz75_9 hcz75_10 hcz75_11 hcz75_12 hcz75_13 hcz75_14 hcz75_15 hcz75_16 hcz75_17 hcz75_18 hcz75_19 hcz75_20 hcz75_21 hcz75_22 hcz75_23
      try clear hfz53_0
      try clear hfz56_0
      try clear hfz64_0
      try clear hfz72_0
      try clear hfz75_0
      try clear hx331_0
      try clear hx331_1
      try clear p2
      try clear p331
      try clear q331
      obtain ⟨x4_2, x92_2, rfl, HA, HK2, HO_4, BK284, HB⟩ := hrel
      cases gk with
      | zero => exact absurd HA.out (by simp [wire_Answer.l1])
      | succ k2 =>
       have H := HA.out
       clear HA
       simp only [wire_Answer.l1] at H
       by_cases c76 : x92_2 < (l0_23.length : Int)
       ·rw [if_pos c76] at H
        have c76b0 : decide (x92_2 < (l0_23.length : Int)) = true := decide_eq_true c76
        clear c76
        by_cases c77 : 0 ≤ x92_2
        ·rw [if_pos c77] at H
         have c77b0 : decide (0 ≤ x92_2) = true := decide_eq_true c77
         clear c77
         by_cases c78 : x92_2 < (l0_23.length : Int)
         ·rw [if_pos c78] at H
          have c78b0 : decide (x92_2 < (l0_23.length : Int)) = true := decide_eq_true c78
          clear c78
          replace H := Option.bind_eq_some_iff.mp H
          obtain ⟨t344, A790, H⟩ := H
          replace H : ((wire_putHead.f k2 t344 ((rd_T89 l0_23 x92_2).f1.f0) ((rd_T89 l0_23 x92_2).f1.f1.f0) ((rd_T89 l0_23 x92_2).f1.f1.f1) ((rd_T89 l0_23 x92_2).f1.f2) ((rd_T89 l0_23 x92_2).f1.f3)).bind fun t347 => (wire_Answer.l1 k2 t347 l0_23 (l0_23.length : Int) (wrap64 (x92_2 + 1)))) = some (r1, r2) := H
          have A79 := Aside0.mk A790
          clear A790
          replace H := Option.bind_eq_some_iff.mp H
          obtain ⟨t347, A800, H⟩ := H
          replace H : (wire_Answer.l1 k2 t347 l0_23 (l0_23.length : Int) (wrap64 (x92_2 + 1))) = some (r1, r2) := H
          have A80 := Aside0.mk A800
          clear A800
          have H' := Aside0.mk H
          clear H
          have p342 : 0 ≤ (x92_2 : Int) := of_decide_eq_true qr
          have q342 : x92_2 < (l0_23.length : Int) := of_decide_eq_true qr
          obtain ⟨ad342, e342, hx342_0, hx342_1, hx342_2, hx342_3, hx342_4, hx342_5⟩ := at_T89 HR0_23.out x92_2 p342 q342
          cases e342
          replace hx342_0 := (HB.out.cell (World.block_lt_of_cell? w _ hx342_0)).trans hx342_0
          replace hx342_1 := (HB.out.cell (World.block_lt_of_cell? w _ hx342_1)).trans hx342_1
          replace hx342_2 := (HB.out.cell (World.block_lt_of_cell? w _ hx342_2)).trans hx342_2
          replace hx342_3 := (HB.out.cell (World.block_lt_of_cell? w _ hx342_3)).trans hx342_3
          replace hx342_4 := (HB.out.cell (World.block_lt_of_cell? w _ hx342_4)).trans hx342_4
          replace hx342_5 := (HB.out.cell (World.block_lt_of_cell? w _ hx342_5)).trans hx342_5
          replace p342 := eq_true p342
          replace q342 := eq_true q342
          try go_wp2_with (first | ((with_reducible refine gate_dst (N := 9) rfl ?_); refine Kd.event_run rfl (load_step _ Try.isAgg54 Try.sizeOf54 rfl rfl rfl BK284.out) ?_) | ((with_reducible refine gate_dst (N := 8) rfl ?_); refine box_event ?hg (N := 8) ?hd (cs := #[.int .i64 0, .int .i64 0, .int .i64 0, .int .i64 0, .bool false, .bool false]) (t := 89) ?hr ?_; (case hd => rfl); (case hg => rfl); (case hr => first | (go_simp; done) | (go_simp; rfl)); intro gb343 hg w81 hbox hb; have n0_ := Aside0.mk (Kd.R_below (by (with_reducible repeat (first | apply Kd.R_alloc | apply Kd.R_drewN | apply Kd.R_drew)); exact HO_4.out) hb); have n1_ := Aside0.mk (blk_below (g := gb284) (o := .cells #[.int .i64 a0_0, .int .i64 a0_1, .int .i64 a0_2, .string a0_3, .int .i64 a0_4, .int .i64 a0_5, .string a0_6, .int .i64 a0_7, .int .i64 a0_8, .int .i64 a0_9, .bool a0_10, .bool a0_11, .string a0_12, .slice A0_13 l0_13.length c0_13, .slice A0_14 l0_14.length c0_14, .slice A0_15 l0_15.length c0_15, .string a0_16, .bool a0_17, .slice A0_18 l0_18.length c0_18, .string a0_19, .int .i64 a0_20, .bool a0_21, .slice A0_22 l0_22.length c0_22, .slice (some ad342) l0_23.length c0_23] 54 (0, 0)) (qc BK284.out) hb); have n2_ := Aside0.mk (below_step (qd GE284.out) hb); have n3_ := Aside0.mk (hbox); have n4_ := Aside0.mk ((by rw [hg]; exact (below_size (qd GE284.out)) : w.heap.size ≤ gb343)); have n5_ := Aside0.mk ((by rw [hg]; exact (below_size (qd GE284.out)) : w.heap.size ≤ gb343)); have n6_ := Aside0.mk ((by rw [hg]; exact Nat.ne_of_lt (blk_lt (g := gb284) (o := .cells #[.int .i64 a0_0, .int .i64 a0_1, .int .i64 a0_2, .string a0_3, .int .i64 a0_4, .int .i64 a0_5, .string a0_6, .int .i64 a0_7, .int .i64 a0_8, .int .i64 a0_9, .bool a0_10, .bool a0_11, .string a0_12, .slice A0_13 l0_13.length c0_13, .slice A0_14 l0_14.length c0_14, .slice A0_15 l0_15.length c0_15, .string a0_16, .bool a0_17, .slice A0_18 l0_18.length c0_18, .string a0_19, .int .i64 a0_20, .bool a0_21, .slice A0_22 l0_22.length c0_22, .slice (some ad342) l0_23.length c0_23] 54 (0, 0)) (qc BK284.out)) : gb284 ≠ gb343)); have n7_ := Aside0.mk ((by rw [hg]; exact Nat.ne_of_gt (blk_lt (g := gb284) (o := .cells #[.int .i64 a0_0, .int .i64 a0_1, .int .i64 a0_2, .string a0_3, .int .i64 a0_4, .int .i64 a0_5, .string a0_6, .int .i64 a0_7, .int .i64 a0_8, .int .i64 a0_9, .bool a0_10, .bool a0_11, .string a0_12, .slice A0_13 l0_13.length c0_13, .slice A0_14 l0_14.length c0_14, .slice A0_15 l0_15.length c0_15, .string a0_16, .bool a0_17, .slice A0_18 l0_18.length c0_18, .string a0_19, .int .i64 a0_20, .bool a0_21, .slice A0_22 l0_22.length c0_22, .slice (some ad342) l0_23.length c0_23] 54 (0, 0)) (qc BK284.out)) : gb343 ≠ gb284)); clear HO_4; clear BK284; clear HB; have HO_4 := n0_; have BK284 := n1_; have HB := n2_; have BK343 := n3_; have GW343 := n4_; have GE343 := n5_; have NB284_343 := n6_; have NB343_284 := n7_; clear n0_ n1_ n2_ n3_ n4_ n5_ n6_ n7_; clear hb hbox hg; have hnb82 := NB343_284.out; have hnc82 := NB284_343.out; have hcz83_0 : w81.cell? ⟨gb343, 0, none⟩ = some (.int .i64 0) := (blk_cell BK343.out 0).trans rfl; have hcz83_1 : w81.cell? ⟨gb343, 1, none⟩ = some (.int .i64 0) := (blk_cell BK343.out 1).trans rfl; have hcz83_2 : w81.cell? ⟨gb343, 2, none⟩ = some (.int .i64 0) := (blk_cell BK343.out 2).trans rfl; have hcz83_3 : w81.cell? ⟨gb343, 3, none⟩ = some (.int .i64 0) := (blk_cell BK343.out 3).trans rfl; have hcz83_4 : w81.cell? ⟨gb343, 4, none⟩ = some (.bool false) := (blk_cell BK343.out 4).trans rfl; have hcz83_5 : w81.cell? ⟨gb343, 5, none⟩ = some (.bool false) := (blk_cell BK343.out 5).trans rfl; have hfz83_0 := blk_frozen BK343.out 0; have hfz83_1 := blk_frozen BK343.out 1; have hfz83_2 := blk_frozen BK343.out 2; have hfz83_3 := blk_frozen BK343.out 3; have hfz83_4 := blk_frozen BK343.out 4; have hfz83_5 := blk_frozen BK343.out 5))
          have n0_ : Aside0 (Kd.R (Kd.int .u8) 5 ((((((w81.setCell ⟨gb343, 0, none⟩ (.int .i64 ((rd_T89 l0_23 x92_2).f0))).setCell ⟨gb343, 1, none⟩ (.int .i64 ((rd_T89 l0_23 x92_2).f1.f0))).setCell ⟨gb343, 2, none⟩ (.int .i64 ((rd_T89 l0_23 x92_2).f1.f1.f0))).setCell ⟨gb343, 3, none⟩ (.int .i64 ((rd_T89 l0_23 x92_2).f1.f1.f1))).setCell ⟨gb343, 4, none⟩ (.bool ((rd_T89 l0_23 x92_2).f1.f2))).setCell ⟨gb343, 5, none⟩ (.bool ((rd_T89 l0_23 x92_2).f1.f3))) w.heap.size (fun _ => True) u4 x4_2) := ⟨by (with_reducible repeat (first | apply Kd.R_alloc | apply Kd.R_drewN | apply Kd.R_drew)); exact Kd.R_mono (Kd.R_far (p := ⟨gb343, 5, none⟩) (Kd.R_far (p := ⟨gb343, 4, none⟩) (Kd.R_far (p := ⟨gb343, 3, none⟩) (Kd.R_far (p := ⟨gb343, 2, none⟩) (Kd.R_far (p := ⟨gb343, 1, none⟩) (Kd.R_far (p := ⟨gb343, 0, none⟩) (Kd.R_types HO_4.out BK343.out (by decide)) (fun _ hk => hk.2) (.int .i64 ((rd_T89 l0_23 x92_2).f0))) (fun _ hk => hk.2) (.int .i64 ((rd_T89 l0_23 x92_2).f1.f0))) (fun _ hk => hk.2) (.int .i64 ((rd_T89 l0_23 x92_2).f1.f1.f0))) (fun _ hk => hk.2) (.int .i64 ((rd_T89 l0_23 x92_2).f1.f1.f1))) (fun _ hk => hk.2) (.bool ((rd_T89 l0_23 x92_2).f1.f2))) (fun _ hk => hk.2) (.bool ((rd_T89 l0_23 x92_2).f1.f3))) (fun _ hk => trivial)⟩
          have n1_ : Aside0 (((((((w81.setCell ⟨gb343, 0, none⟩ (.int .i64 ((rd_T89 l0_23 x92_2).f0))).setCell ⟨gb343, 1, none⟩ (.int .i64 ((rd_T89 l0_23 x92_2).f1.f0))).setCell ⟨gb343, 2, none⟩ (.int .i64 ((rd_T89 l0_23 x92_2).f1.f1.f0))).setCell ⟨gb343, 3, none⟩ (.int .i64 ((rd_T89 l0_23 x92_2).f1.f1.f1))).setCell ⟨gb343, 4, none⟩ (.bool ((rd_T89 l0_23 x92_2).f1.f2))).setCell ⟨gb343, 5, none⟩ (.bool ((rd_T89 l0_23 x92_2).f1.f3))).heap[gb284]? = some (.cells #[.int .i64 a0_0, .int .i64 a0_1, .int .i64 a0_2, .string a0_3, .int .i64 a0_4, .int .i64 a0_5, .string a0_6, .int .i64 a0_7, .int .i64 a0_8, .int .i64 a0_9, .bool a0_10, .bool a0_11, .string a0_12, .slice A0_13 l0_13.length c0_13, .slice A0_14 l0_14.length c0_14, .slice A0_15 l0_15.length c0_15, .string a0_16, .bool a0_17, .slice A0_18 l0_18.length c0_18, .string a0_19, .int .i64 a0_20, .bool a0_21, .slice A0_22 l0_22.length c0_22, .slice (some ad342) l0_23.length c0_23] 54 (0, 0))) := ⟨by (with_reducible repeat (first | refine blk_drewN ?_ _ | refine blk_drew ?_ | refine blk_alloc ?_ _)); refine blk_far ?_ NB284_343.out _; (with_reducible repeat (first | refine blk_drewN ?_ _ | refine blk_drew ?_ | refine blk_alloc ?_ _)); refine blk_far ?_ NB284_343.out _; (with_reducible repeat (first | refine blk_drewN ?_ _ | refine blk_drew ?_ | refine blk_alloc ?_ _)); refine blk_far ?_ NB284_343.out _; (with_reducible repeat (first | refine blk_drewN ?_ _ | refine blk_drew ?_ | refine blk_alloc ?_ _)); refine blk_far ?_ NB284_343.out _; (with_reducible repeat (first | refine blk_drewN ?_ _ | refine blk_drew ?_ | refine blk_alloc ?_ _)); refine blk_far ?_ NB284_343.out _; (with_reducible repeat (first | refine blk_drewN ?_ _ | refine blk_drew ?_ | refine blk_alloc ?_ _)); refine blk_far ?_ NB284_343.out _; (with_reducible repeat (first | refine blk_drewN ?_ _ | refine blk_drew ?_ | refine blk_alloc ?_ _)); exact BK284.out⟩
          have n2_ : Aside0 (((((((w81.setCell ⟨gb343, 0, none⟩ (.int .i64 ((rd_T89 l0_23 x92_2).f0))).setCell ⟨gb343, 1, none⟩ (.int .i64 ((rd_T89 l0_23 x92_2).f1.f0))).setCell ⟨gb343, 2, none⟩ (.int .i64 ((rd_T89 l0_23 x92_2).f1.f1.f0))).setCell ⟨gb343, 3, none⟩ (.int .i64 ((rd_T89 l0_23 x92_2).f1.f1.f1))).setCell ⟨gb343, 4, none⟩ (.bool ((rd_T89 l0_23 x92_2).f1.f2))).setCell ⟨gb343, 5, none⟩ (.bool ((rd_T89 l0_23 x92_2).f1.f3))).heap[gb343]? = some (.cells #[.int .i64 ((rd_T89 l0_23 x92_2).f0), .int .i64 ((rd_T89 l0_23 x92_2).f1.f0), .int .i64 ((rd_T89 l0_23 x92_2).f1.f1.f0), .int .i64 ((rd_T89 l0_23 x92_2).f1.f1.f1), .bool ((rd_T89 l0_23 x92_2).f1.f2), .bool ((rd_T89 l0_23 x92_2).f1.f3)] 89 (0, 0))) := ⟨by (with_reducible repeat (first | refine blk_drewN ?_ _ | refine blk_drew ?_ | refine blk_alloc ?_ _)); refine blk_put (cs := #[.int .i64 ((rd_T89 l0_23 x92_2).f0), .int .i64 ((rd_T89 l0_23 x92_2).f1.f0), .int .i64 ((rd_T89 l0_23 x92_2).f1.f1.f0), .int .i64 ((rd_T89 l0_23 x92_2).f1.f1.f1), .bool ((rd_T89 l0_23 x92_2).f1.f2), .bool false]) ?_ 5 _ rfl; (with_reducible repeat (first | refine blk_drewN ?_ _ | refine blk_drew ?_ | refine blk_alloc ?_ _)); refine blk_put (cs := #[.int .i64 ((rd_T89 l0_23 x92_2).f0), .int .i64 ((rd_T89 l0_23 x92_2).f1.f0), .int .i64 ((rd_T89 l0_23 x92_2).f1.f1.f0), .int .i64 ((rd_T89 l0_23 x92_2).f1.f1.f1), .bool false, .bool false]) ?_ 4 _ rfl; (with_reducible repeat (first | refine blk_drewN ?_ _ | refine blk_drew ?_ | refine blk_alloc ?_ _)); refine blk_put (cs := #[.int .i64 ((rd_T89 l0_23 x92_2).f0), .int .i64 ((rd_T89 l0_23 x92_2).f1.f0), .int .i64 ((rd_T89 l0_23 x92_2).f1.f1.f0), .int .i64 0, .bool false, .bool false]) ?_ 3 _ rfl; (with_reducible repeat (first | refine blk_drewN ?_ _ | refine blk_drew ?_ | refine blk_alloc ?_ _)); refine blk_put (cs := #[.int .i64 ((rd_T89 l0_23 x92_2).f0), .int .i64 ((rd_T89 l0_23 x92_2).f1.f0), .int .i64 0, .int .i64 0, .bool false, .bool false]) ?_ 2 _ rfl; (with_reducible repeat (first | refine blk_drewN ?_ _ | refine blk_drew ?_ | refine blk_alloc ?_ _)); refine blk_put (cs := #[.int .i64 ((rd_T89 l0_23 x92_2).f0), .int .i64 0, .int .i64 0, .int .i64 0, .bool false, .bool false]) ?_ 1 _ rfl; (with_reducible repeat (first | refine blk_drewN ?_ _ | refine blk_drew ?_ | refine blk_alloc ?_ _)); refine blk_put (cs := #[.int .i64 0, .int .i64 0, .int .i64 0, .int .i64 0, .bool false, .bool false]) ?_ 0 _ rfl; (with_reducible repeat (first | refine blk_drewN ?_ _ | refine blk_drew ?_ | refine blk_alloc ?_ _)); exact BK343.out⟩
          have n3_ : Aside0 (Below w.heap.size w ((((((w81.setCell ⟨gb343, 0, none⟩ (.int .i64 ((rd_T89 l0_23 x92_2).f0))).setCell ⟨gb343, 1, none⟩ (.int .i64 ((rd_T89 l0_23 x92_2).f1.f0))).setCell ⟨gb343, 2, none⟩ (.int .i64 ((rd_T89 l0_23 x92_2).f1.f1.f0))).setCell ⟨gb343, 3, none⟩ (.int .i64 ((rd_T89 l0_23 x92_2).f1.f1.f1))).setCell ⟨gb343, 4, none⟩ (.bool ((rd_T89 l0_23 x92_2).f1.f2))).setCell ⟨gb343, 5, none⟩ (.bool ((rd_T89 l0_23 x92_2).f1.f3)))) := ⟨by repeat (first | (with_reducible first | exact HB.out | apply below_alloc | apply pw_below_drewN | apply below_drew1 | refine below_set ?_ GE284.out | refine below_set ?_ GE343.out) | exact HB.out)⟩
          (try clear HO_4)
          (try clear BK284)
          (try clear BK343)
          (try clear HB)
          generalize ((((((w81.setCell ⟨gb343, 0, none⟩ (.int .i64 ((rd_T89 l0_23 x92_2).f0))).setCell ⟨gb343, 1, none⟩ (.int .i64 ((rd_T89 l0_23 x92_2).f1.f0))).setCell ⟨gb343, 2, none⟩ (.int .i64 ((rd_T89 l0_23 x92_2).f1.f1.f0))).setCell ⟨gb343, 3, none⟩ (.int .i64 ((rd_T89 l0_23 x92_2).f1.f1.f1))).setCell ⟨gb343, 4, none⟩ (.bool ((rd_T89 l0_23 x92_2).f1.f2))).setCell ⟨gb343, 5, none⟩ (.bool ((rd_T89 l0_23 x92_2).f1.f3))) = w84 at n0_ n1_ n2_ n3_ ⊢
          have HO_4 := n0_
          have BK284 := n1_
          have BK343 := n2_
          have HB := n3_
          clear n0_ n1_ n2_ n3_
          have n0_ := Aside0.mk (Kd.R_drew HO_4.out)
          have n1_ := Aside0.mk (blk_drew BK284.out)
          have n2_ := Aside0.mk (blk_drew BK343.out)
          have n3_ := Aside0.mk (below_drew1 HB.out)
          clear HO_4
          clear BK284
          clear BK343
          clear HB
          have HO_4 := n0_
          have BK284 := n1_
          have BK343 := n2_
          have HB := n3_
          clear n0_ n1_ n2_ n3_
          obtain ⟨Ao86, co86, eo86⟩ := Kd.R_slice HO_4.out
          (first | subst eo86 | (injection eo86 with f1_ f2_ f3_; have f4_ := f1_.symm; have f5_ := f3_.symm; clear f1_ f2_ f3_; subst f4_; subst f5_))
          refine start_ (n := 8) (S := fun w' => w'.cell? ⟨gb343, 0, none⟩ = some (.int .i64 ((rd_T89 l0_23 x92_2).f0)) ∧ w'.cell? ⟨gb343, 1, none⟩ = some (.int .i64 ((rd_T89 l0_23 x92_2).f1.f0)) ∧ w'.cell? ⟨gb343, 2, none⟩ = some (.int .i64 ((rd_T89 l0_23 x92_2).f1.f1.f0)) ∧ w'.cell? ⟨gb343, 3, none⟩ = some (.int .i64 ((rd_T89 l0_23 x92_2).f1.f1.f1)) ∧ w'.cell? ⟨gb343, 4, none⟩ = some (.bool ((rd_T89 l0_23 x92_2).f1.f2)) ∧ w'.cell? ⟨gb343, 5, none⟩ = some (.bool ((rd_T89 l0_23 x92_2).f1.f3))) (ds := []) (fl 8 0) (by kernel_rfl) rfl rfl ⟨(blk_cell BK343.out 0).trans rfl, (blk_cell BK343.out 1).trans rfl, (blk_cell BK343.out 2).trans rfl, (blk_cell BK343.out 3).trans rfl, (blk_cell BK343.out 4).trans rfl, (blk_cell BK343.out 5).trans rfl⟩ (fun hHeld => ?_); refine with_tabW wire_Answer.tab17 wire_Answer.bits17 (fun HT_ HW_ => ?_)
          generalize w84.drew = w85 at HO_4 BK284 BK343 HB hHeld ⊢
          refine pu_ 0 96 (fl 8 1) ?_
          refine pu_ 1 97 (fl 8 3) ?_
          refine pu_ 4 100 (fl 8 19) ?_
          refine take_ (i := 2) (N := some 98) (v := ?_) (a' := ?_) (fl 8 23) rfl rfl (take_ofW HT_.out HW_.out (by kernel_rfl)) (fun _ _ _ h => h) (Or.inl ⟨by rfl, ?_⟩) hHeld ?_ ?_
          rotate_left
          ·rintro w' ⟨s0, s1, s2, s3, s4, s5⟩
           go_simp
           with_reducible rfl
          rotate_left
          ·simp only [Act.put, List.setIfInBounds_toArray, List.set_cons_zero, List.set_cons_succ, i64_w, i32_w]
           rfl
          refine take_ (i := 5) (N := some 101) (v := ?_) (a' := ?_) (fl 8 55) rfl rfl (take_ofW HT_.out HW_.out (by kernel_rfl)) (fun _ _ _ h => h) (Or.inl ⟨by rfl, ?_⟩) hHeld ?_ ?_
          rotate_left
          ·rintro w' ⟨s0, s1, s2, s3, s4, s5⟩
           go_simp
           with_reducible rfl
          rotate_left
          ·simp only [Act.put, List.setIfInBounds_toArray, List.set_cons_zero, List.set_cons_succ, i64_w, i32_w]
           rfl
          refine on_ 3 (some 99) (fl 8 63) fun K hK => ?_
          refine goes_ Try.func40 (by kernel_rfl) rfl #[.slice Ao86 x4_2.length co86, .int .i64 ((rd_T89 l0_23 x92_2).f0)] (by rfl) rfl rfl qb ?_
          with_reducible refine (field_Put16.calls k2 (fun k_ => some k_ = (.slice Ao86 x4_2.length co86 : Value).ownBlock) (.slice Ao86 x4_2.length co86) x4_2 ((rd_T89 l0_23 x92_2).f0) t344 w _ ?side1 ?side2 A79.out).mono ?_
          (case side1 => repeat (first | (with_reducible first | exact HB.out | apply below_alloc | apply pw_below_drewN | apply below_drew1 | refine below_set ?_ GE284.out | refine below_set ?_ GE343.out) | exact HB.out))
          (case side2 => exact Kd.R_tight rfl HO_4.out)
          rintro e w87 ⟨v345, rfl, ho0, hb, hkp⟩
          refine ⟨_, rfl, ?_⟩
          have n0_ := Aside0.mk (blk_kept (qc BK284.out) hkp (fun hs_ => (fun e_ => (Kd.R_ne HO_4.out BK284.out (by decide)) e_) hs_))
          have n1_ := Aside0.mk (blk_kept (qc BK343.out) hkp (fun hs_ => (fun e_ => (Kd.R_ne HO_4.out BK343.out (by decide)) e_) hs_))
          have n2_ := Aside0.mk (Kd.R_mono (ok' := fun k_ => True) ho0 (fun k_ hk_ => trivial))
          have n3_ := Aside0.mk (hb)
          clear BK284
          clear BK343
          clear HB
          clear HO_4
          have BK284 := n0_
          have BK343 := n1_
          have HO346 := n2_
          have HB := n3_
          clear n0_ n1_ n2_ n3_
          (try clear hb)
          (try clear hkp)
          (try clear ho0)
          obtain ⟨Ao88, co88, eo88⟩ := Kd.R_slice HO346.out
          (first | subst eo88 | (injection eo88 with f1_ f2_ f3_; have f4_ := f1_.symm; have f5_ := f3_.symm; clear f1_ f2_ f3_; subst f4_; subst f5_))
          refine nm_ hK ⟨(blk_cell BK343.out 0).trans rfl, (blk_cell BK343.out 1).trans rfl, (blk_cell BK343.out 2).trans rfl, (blk_cell BK343.out 3).trans rfl, (blk_cell BK343.out 4).trans rfl, (blk_cell BK343.out 5).trans rfl⟩ fun hHeld => ?_
          clear hK K
          refine on_ 6 (some 102) (fl 8 127) fun K hK => ?_
          refine goes_ Try.func36 (by kernel_rfl) rfl #[.slice Ao88 t344.length co88, .agg #[.int .i64 ((rd_T89 l0_23 x92_2).f1.f0), .int .i64 ((rd_T89 l0_23 x92_2).f1.f1.f0), .int .i64 ((rd_T89 l0_23 x92_2).f1.f1.f1), .bool ((rd_T89 l0_23 x92_2).f1.f2), .bool ((rd_T89 l0_23 x92_2).f1.f3)]] (by rfl) rfl rfl qb ?_
          with_reducible refine (wire_putHead.calls k2 (fun k_ => some k_ = (.slice Ao88 t344.length co88 : Value).ownBlock) (.slice Ao88 t344.length co88) t344 ((rd_T89 l0_23 x92_2).f1.f0) ((rd_T89 l0_23 x92_2).f1.f1.f0) ((rd_T89 l0_23 x92_2).f1.f1.f1) ((rd_T89 l0_23 x92_2).f1.f2) ((rd_T89 l0_23 x92_2).f1.f3) t347 w _ ?side1 ?side2 A80.out).mono ?_
          (case side1 => repeat (first | (with_reducible first | exact HB.out | apply below_alloc | apply pw_below_drewN | apply below_drew1 | refine below_set ?_ GE284.out | refine below_set ?_ GE343.out) | exact HB.out))
          (case side2 => exact Kd.R_tight rfl HO346.out)
          rintro e w89 ⟨v348, rfl, ho0, hb, hkp⟩
          refine ⟨_, rfl, ?_⟩
          have n0_ := Aside0.mk (blk_kept (qc BK284.out) hkp (fun hs_ => (fun e_ => (Kd.R_ne HO346.out BK284.out (by decide)) e_) hs_))
          have n1_ := Aside0.mk (blk_kept (qc BK343.out) hkp (fun hs_ => (fun e_ => (Kd.R_ne HO346.out BK343.out (by decide)) e_) hs_))
          have n2_ := Aside0.mk (Kd.R_mono (ok' := fun k_ => True) ho0 (fun k_ hk_ => trivial))
          have n3_ := Aside0.mk (hb)
          clear BK284
          clear BK343
          clear HB
          clear HO346
          have BK284 := n0_
          have BK343 := n1_
          have HO349 := n2_
          have HB := n3_
          clear n0_ n1_ n2_ n3_
          (try clear hb)
          (try clear hkp)
          (try clear ho0)
          refine nm_ hK ⟨(blk_cell BK343.out 0).trans rfl, (blk_cell BK343.out 1).trans rfl, (blk_cell BK343.out 2).trans rfl, (blk_cell BK343.out 3).trans rfl, (blk_cell BK343.out 4).trans rfl, (blk_cell BK343.out 5).trans rfl⟩ fun hHeld => ?_
          clear hK K
          refine pu_ 7 4 (fl 8 255) ?_
          refine dn_ ?_
          try go_wp2
          go_roundg k2
          case measure => have := HK1.out; have := HK2.out; omega
          case rel => exact ⟨(t347), (wrap64 (x92_2 + 1)), qi, H', ⟨by have := HK1.out; have := HK2.out; omega⟩, ⟨by (with_reducible repeat (first | apply Kd.R_alloc | apply Kd.R_drewN | apply Kd.R_drew)); exact HO349.out⟩, ⟨by (with_reducible repeat (first | refine blk_drewN ?_ _ | refine blk_drew ?_ | refine blk_alloc ?_ _)); exact BK284.out⟩, ⟨by repeat (first | (with_reducible first | exact HB.out | apply below_alloc | apply pw_below_drewN | apply below_drew1 | refine below_set ?_ GE284.out | refine below_set ?_ GE343.out) | exact HB.out)⟩⟩
         ·rw [if_neg c78] at H
          exact absurd H (by simp)
        ·rw [if_neg c77] at H
         exact absurd H (by simp)
       ·rw [if_neg c76] at H
        have c76b0 : decide (x92_2 < (l0_23.length : Int)) = false := decide_eq_false c76
        clear c76
        simp only [Option.some.injEq, Prod.mk.injEq] at H
        obtain ⟨rfl, rfl⟩ := H
        go_wp2
        go_ret2
        exact ⟨_, by first | rfl | (simp [errW_none, errW_some] <;> rfl) | (simp [*, errW_none, errW_some] <;> rfl), by (with_reducible repeat (first | apply Kd.R_alloc | apply Kd.R_drewN | apply Kd.R_drew)); exact HO_4.out, by repeat (first | (with_reducible first | exact HB.out | apply below_alloc | apply pw_below_drewN | apply below_drew1 | refine below_set ?_ GE284.out) | exact HB.out)⟩
 ·replace c3 := Bool.eq_false_iff.mpr c3
  subst c3
  have H1 : (some (([] : List Int), 4)) = some (r1, r2) := by rw [if_neg (show ¬ (false = true) by decide)] at H; exact H
  clear H
  have H := H1
  clear H1
  simp only [Option.some.injEq, Prod.mk.injEq] at H
  obtain ⟨rfl, rfl⟩ := H
  go_enter Try.func14, Try.ntmps14
  go_wp2_with (first | ((with_reducible refine gate_dst (N := 9) rfl ?_); refine Kd.event_run rfl (load_step _ Try.isAgg54 Try.sizeOf54 rfl rfl rfl BK284.out) ?_) | ((with_reducible refine gate_dst (N := 1) rfl ?_); refine box_event ?hg (N := 1) ?hd (cs := #[.int .i64 a0_0, .int .i64 a0_1, .int .i64 a0_2, .string a0_3, .int .i64 a0_4, .int .i64 a0_5, .string a0_6, .int .i64 a0_7, .int .i64 a0_8, .int .i64 a0_9, .bool a0_10, .bool a0_11, .string a0_12, .slice A0_13 l0_13.length c0_13, .slice A0_14 l0_14.length c0_14, .slice A0_15 l0_15.length c0_15, .string a0_16, .bool a0_17, .slice A0_18 l0_18.length c0_18, .string a0_19, .int .i64 a0_20, .bool a0_21, .slice A0_22 l0_22.length c0_22, .slice A0_23 l0_23.length c0_23]) (t := 54) ?hr ?_; (case hd => rfl); (case hg => rfl); (case hr => first | (go_simp; done) | (go_simp; rfl)); intro gb284 hg w90 hbox hb; have n0_ := Aside0.mk (below_step qa hb); have n1_ := Aside0.mk (hbox); have n2_ := Aside0.mk ((by rw [hg]; exact (below_size qa) : w.heap.size ≤ gb284)); have n3_ := Aside0.mk ((by rw [hg]; exact (below_size qa) : w.heap.size ≤ gb284)); clear HB; have HB := n0_; have BK284 := n1_; have GW284 := n2_; have GE284 := n3_; clear n0_ n1_ n2_ n3_; clear hb hbox hg; have hcz91_0 : w90.cell? ⟨gb284, 0, none⟩ = some (.int .i64 a0_0) := (blk_cell BK284.out 0).trans rfl; have hcz91_1 : w90.cell? ⟨gb284, 1, none⟩ = some (.int .i64 a0_1) := (blk_cell BK284.out 1).trans rfl; have hcz91_2 : w90.cell? ⟨gb284, 2, none⟩ = some (.int .i64 a0_2) := (blk_cell BK284.out 2).trans rfl; have hcz91_3 : w90.cell? ⟨gb284, 3, none⟩ = some (.string a0_3) := (blk_cell BK284.out 3).trans rfl; have hcz91_4 : w90.cell? ⟨gb284, 4, none⟩ = some (.int .i64 a0_4) := (blk_cell BK284.out 4).trans rfl; have hcz91_5 : w90.cell? ⟨gb284, 5, none⟩ = some (.int .i64 a0_5) := (blk_cell BK284.out 5).trans rfl; have hcz91_6 : w90.cell? ⟨gb284, 6, none⟩ = some (.string a0_6) := (blk_cell BK284.out 6).trans rfl; have hcz91_7 : w90.cell? ⟨gb284, 7, none⟩ = some (.int .i64 a0_7) := (blk_cell BK284.out 7).trans rfl; have hcz91_8 : w90.cell? ⟨gb284, 8, none⟩ = some (.int .i64 a0_8) := (blk_cell BK284.out 8).trans rfl; have hcz91_9 : w90.cell? ⟨gb284, 9, none⟩ = some (.int .i64 a0_9) := (blk_cell BK284.out 9).trans rfl; have hcz91_10 : w90.cell? ⟨gb284, 10, none⟩ = some (.bool a0_10) := (blk_cell BK284.out 10).trans rfl; have hcz91_11 : w90.cell? ⟨gb284, 11, none⟩ = some (.bool a0_11) := (blk_cell BK284.out 11).trans rfl; have hcz91_12 : w90.cell? ⟨gb284, 12, none⟩ = some (.string a0_12) := (blk_cell BK284.out 12).trans rfl; have hcz91_13 : w90.cell? ⟨gb284, 13, none⟩ = some (.slice A0_13 l0_13.length c0_13) := (blk_cell BK284.out 13).trans rfl; have hcz91_14 : w90.cell? ⟨gb284, 14, none⟩ = some (.slice A0_14 l0_14.length c0_14) := (blk_cell BK284.out 14).trans rfl; have hcz91_15 : w90.cell? ⟨gb284, 15, none⟩ = some (.slice A0_15 l0_15.length c0_15) := (blk_cell BK284.out 15).trans rfl; have hcz91_16 : w90.cell? ⟨gb284, 16, none⟩ = some (.string a0_16) := (blk_cell BK284.out 16).trans rfl; have hcz91_17 : w90.cell? ⟨gb284, 17, none⟩ = some (.bool a0_17) := (blk_cell BK284.out 17).trans rfl; have hcz91_18 : w90.cell? ⟨gb284, 18, none⟩ = some (.slice A0_18 l0_18.length c0_18) := (blk_cell BK284.out 18).trans rfl; have hcz91_19 : w90.cell? ⟨gb284, 19, none⟩ = some (.string a0_19) := (blk_cell BK284.out 19).trans rfl; have hcz91_20 : w90.cell? ⟨gb284, 20, none⟩ = some (.int .i64 a0_20) := (blk_cell BK284.out 20).trans rfl; have hcz91_21 : w90.cell? ⟨gb284, 21, none⟩ = some (.bool a0_21) := (blk_cell BK284.out 21).trans rfl; have hcz91_22 : w90.cell? ⟨gb284, 22, none⟩ = some (.slice A0_22 l0_22.length c0_22) := (blk_cell BK284.out 22).trans rfl; have hcz91_23 : w90.cell? ⟨gb284, 23, none⟩ = some (.slice A0_23 l0_23.length c0_23) := (blk_cell BK284.out 23).trans rfl; have hfz91_0 := blk_frozen BK284.out 0; have hfz91_1 := blk_frozen BK284.out 1; have hfz91_2 := blk_frozen BK284.out 2; have hfz91_3 := blk_frozen BK284.out 3; have hfz91_4 := blk_frozen BK284.out 4; have hfz91_5 := blk_frozen BK284.out 5; have hfz91_6 := blk_frozen BK284.out 6; have hfz91_7 := blk_frozen BK284.out 7; have hfz91_8 := blk_frozen BK284.out 8; have hfz91_9 := blk_frozen BK284.out 9; have hfz91_10 := blk_frozen BK284.out 10; have hfz91_11 := blk_frozen BK284.out 11; have hfz91_12 := blk_frozen BK284.out 12; have hfz91_13 := blk_frozen BK284.out 13; have hfz91_14 := blk_frozen BK284.out 14; have hfz91_15 := blk_frozen BK284.out 15; have hfz91_16 := blk_frozen BK284.out 16; have hfz91_17 := blk_frozen BK284.out 17; have hfz91_18 := blk_frozen BK284.out 18; have hfz91_19 := blk_frozen BK284.out 19; have hfz91_20 := blk_frozen BK284.out 20; have hfz91_21 := blk_frozen BK284.out 21; have hfz91_22 := blk_frozen BK284.out 22; have hfz91_23 := blk_frozen BK284.out 23) | ((with_reducible refine gate_callee (f := 32) rfl ?_); refine goesL_ (some 10) rfl rfl Try.func32 (by kernel_rfl) rfl #[.agg #[.int .i64 a0_0, .int .i64 a0_1, .int .i64 a0_2, .string a0_3, .int .i64 a0_4, .int .i64 a0_5, .string a0_6, .int .i64 a0_7, .int .i64 a0_8, .int .i64 a0_9, .bool a0_10, .bool a0_11, .string a0_12, .slice A0_13 l0_13.length c0_13, .slice A0_14 l0_14.length c0_14, .slice A0_15 l0_15.length c0_15, .string a0_16, .bool a0_17, .slice A0_18 l0_18.length c0_18, .string a0_19, .int .i64 a0_20, .bool a0_21, .slice A0_22 l0_22.length c0_22, .slice A0_23 l0_23.length c0_23]] rfl qb ?_; (with_reducible refine (wire_may.calls k a0_0 a0_1 a0_2 a0_3 a0_4 a0_5 a0_6 a0_7 a0_8 a0_9 a0_10 a0_11 a0_12 _ _ l0_13 _ _ l0_14 _ _ l0_15 a0_16 a0_17 _ _ l0_18 a0_19 a0_20 a0_21 _ _ l0_22 _ _ l0_23 false _ ?side1 ?side2 ?side3 ?side4 ?side5 ?side6 ?side7 ?side8 ?side9 ?side10 ?side11 ?side12 A2.out).mono ?_); (case side1 => repeat (first | exact (Kd.C_below HR0_13.out HB.out) | (with_reducible refine Kd.C_alloc ?_ _) | (with_reducible refine Kd.C_drewN ?_ _) | (with_reducible refine Kd.C_drew ?_))); (case side2 => exact HC0_13.out); (case side3 => repeat (first | exact (Kd.C_below HR0_14.out HB.out) | (with_reducible refine Kd.C_alloc ?_ _) | (with_reducible refine Kd.C_drewN ?_ _) | (with_reducible refine Kd.C_drew ?_))); (case side4 => exact HC0_14.out); (case side5 => repeat (first | exact (Kd.C_below HR0_15.out HB.out) | (with_reducible refine Kd.C_alloc ?_ _) | (with_reducible refine Kd.C_drewN ?_ _) | (with_reducible refine Kd.C_drew ?_))); (case side6 => exact HC0_15.out); (case side7 => repeat (first | exact (Kd.C_below HR0_18.out HB.out) | (with_reducible refine Kd.C_alloc ?_ _) | (with_reducible refine Kd.C_drewN ?_ _) | (with_reducible refine Kd.C_drew ?_))); (case side8 => exact HC0_18.out); (case side9 => repeat (first | exact (Kd.C_below HR0_22.out HB.out) | (with_reducible refine Kd.C_alloc ?_ _) | (with_reducible refine Kd.C_drewN ?_ _) | (with_reducible refine Kd.C_drew ?_))); (case side10 => exact HC0_22.out); (case side11 => repeat (first | exact (Kd.C_below HR0_23.out HB.out) | (with_reducible refine Kd.C_alloc ?_ _) | (with_reducible refine Kd.C_drewN ?_ _) | (with_reducible refine Kd.C_drew ?_))); (case side12 => exact HC0_23.out); rintro e w92 ⟨rfl, hb⟩; refine ⟨_, rfl, ?_⟩; have n0_ := Aside0.mk (blk_below (g := gb284) (o := .cells #[.int .i64 a0_0, .int .i64 a0_1, .int .i64 a0_2, .string a0_3, .int .i64 a0_4, .int .i64 a0_5, .string a0_6, .int .i64 a0_7, .int .i64 a0_8, .int .i64 a0_9, .bool a0_10, .bool a0_11, .string a0_12, .slice A0_13 l0_13.length c0_13, .slice A0_14 l0_14.length c0_14, .slice A0_15 l0_15.length c0_15, .string a0_16, .bool a0_17, .slice A0_18 l0_18.length c0_18, .string a0_19, .int .i64 a0_20, .bool a0_21, .slice A0_22 l0_22.length c0_22, .slice A0_23 l0_23.length c0_23] 54 (0, 0)) (qc BK284.out) hb); have n1_ := Aside0.mk (below_step (qd GE284.out) hb); clear BK284; clear HB; have BK284 := n0_; have HB := n1_; clear n0_ n1_; (try clear hb); (try clear hb2); (try clear hk); (try clear hi)))
  go_ret2
  exact ⟨_, by first | rfl | (simp [errW_none, errW_some] <;> rfl) | (simp [*, errW_none, errW_some] <;> rfl), by first | exact Kd.R_nil _ _ _ _ _ | exact Kd.N_nil _ _ _ _ _ | exact Kd.V_nil _ _ _ _ _ | exact Kd.Q_nil _ _ _ _ _ | exact Kd.S_nil _ _ _ _ _, by repeat (first | (with_reducible first | exact HB.out | apply below_alloc | apply pw_below_drewN | apply below_drew1 | refine below_set ?_ GE284.out) | exact HB.out)⟩
end Go.Proofs.Ytmdgdndidfcapaa.QB
