import Derived.Test.YtmdgdndidfcapaaKQBx13
import Derived.Test.YtmdgdndidfcapaaKQBx11
namespace Go.Proofs.Ytmdgdndidfcapaa.QB
open Go.RowKit Go.Proofs.YtmdgdndidfcapaaW.PrintWords Go.Proofs.YtmdgdndidfcapaaW.PrintLast Go.Proofs.YtmdgdndidfcapaaW.PrintMore
attribute [local go_sem] max2_int min2_int max_two min_two max_three min_three max_four min_four
set_option linter.unusedVariables false
set_option linter.unusedSimpArgs false
set_option maxHeartbeats 1000000 in
theorem wire_reader_many.text (W : World) (g base : Nat) (xs : List Int) (p err : Int) (hR : Rd.Rdr W g base xs p err) :
    Calls Try.prog 42 #[.agg #[.pointer (some ⟨g, 0, none⟩)]] W (Rd.RdText W g base xs (Rd.textF xs p err 1048576)) := by
  have HLT := Aside0.mk hR.lt
  have HK1 := Aside0.mk (blk_new W (.cells #[.pointer (some ⟨g, 0, none⟩)] 75))
  have HR1 := Aside0.mk (Rd.Rdr.below (W := W) hR (below_alloc (Below.refl _ _) (.cells #[.pointer (some ⟨g, 0, none⟩)] 75)))
  have HG1 := Aside0.mk (grown_of_below (below_alloc (Below.refl _ _) (.cells #[.pointer (some ⟨g, 0, none⟩)] 75) : Below W.heap.size W (W.alloc (.cells #[.pointer (some ⟨g, 0, none⟩)] 75))) (some g))
  clear hR
  go_enter Try.func42, Try.ntmps42
  have c0 : (W.alloc (.cells #[.pointer (some ⟨g, 0, none⟩)] 75)).cell? ⟨W.heap.size, 0, none⟩ = some (.pointer (some ⟨g, 0, none⟩)) := (blk_cell HK1.out 0).trans rfl
  go_wp2_with fail
  refine (Rd.text_any _ g base xs p err 1048576 HR1.out).mono ?_
  obtain ⟨t, ht⟩ : ∃ t, Rd.textF xs p err 1048576 = t := ⟨_, rfl⟩
  rw [ht]
  have HT := Aside0.mk ht
  clear ht
  rintro e w2 ⟨rfl, hr2, hg2⟩
  have HX := Aside0.mk (show Rd.RdText W g base xs t (.returned (.string (strOfNums t.1))) w2 from ⟨rfl, hr2, grown_tr HG1.out hg2⟩)
  clear hr2 hg2 c0
  go_wp2
  go_ret
  rw [HT.out]
  exact HX.out
def RdBool (W : World) (g base : Nat) (xs : List Int) (r : Bool × Int × Int) (e : Ending) (w' : World) : Prop :=
  e = .returned (.bool r.1) ∧ Rd.Rdr w' g base xs r.2.1 r.2.2 ∧ W.grownBy w' (some g)
set_option maxHeartbeats 1000000 in
theorem wire_reader_many.truth (W : World) (g base : Nat) (xs : List Int) (p err : Int) (hR : Rd.Rdr W g base xs p err) :
    Calls Try.prog 46 #[.agg #[.pointer (some ⟨g, 0, none⟩)]] W (RdBool W g base xs ((Rd.takeF xs p err 1).1 == 1, (Rd.takeF xs p err 1).2)) := by
  have HLT := Aside0.mk hR.lt
  have HK1 := Aside0.mk (blk_new W (.cells #[.pointer (some ⟨g, 0, none⟩)] 75))
  have HR1 := Aside0.mk (Rd.Rdr.below (W := W) hR (below_alloc (Below.refl _ _) (.cells #[.pointer (some ⟨g, 0, none⟩)] 75)))
  have HG1 := Aside0.mk (grown_of_below (below_alloc (Below.refl _ _) (.cells #[.pointer (some ⟨g, 0, none⟩)] 75) : Below W.heap.size W (W.alloc (.cells #[.pointer (some ⟨g, 0, none⟩)] 75))) (some g))
  clear hR
  go_enter Try.func46, Try.ntmps46
  have c0 : (W.alloc (.cells #[.pointer (some ⟨g, 0, none⟩)] 75)).cell? ⟨W.heap.size, 0, none⟩ = some (.pointer (some ⟨g, 0, none⟩)) := (blk_cell HK1.out 0).trans rfl
  go_wp2_with fail
  refine (Rd.u8_any _ g base xs p err HR1.out).mono ?_
  obtain ⟨t, ht⟩ : ∃ t, Rd.takeF xs p err 1 = t := ⟨_, rfl⟩
  rw [ht]
  have HT := Aside0.mk ht
  clear ht
  rintro e w2 ⟨rfl, hr2, hg2⟩
  have HX := Aside0.mk (show RdBool W g base xs (t.1 == 1, t.2) (.returned (.bool (t.1 == 1))) w2 from ⟨rfl, hr2, grown_tr HG1.out hg2⟩)
  clear hr2 hg2 c0
  obtain ⟨b, hb⟩ : ∃ b, (t.1 == 1) = b := ⟨_, rfl⟩
  rw [hb] at HX
  have HBB := Aside0.mk (show ((t.1 == 1, t.2) : Bool × Int × Int) = (b, t.2) by rw [hb])
  have hb' := hb
  clear hb
  cases b with
  | true =>
    go_wp2
    go_ret
    rw [HT.out, HBB.out]
    exact HX.out
  | false =>
    go_wp2
    go_ret
    rw [HT.out, HBB.out]
    exact HX.out
def manyF {β : Type} (step : β → Int → Int → β × Int × Int) : Nat → β → Int → Int → β × Int × Int
  | 0, b, p, err => (b, p, err)
  | n + 1, b, p, err => if err = 0 then manyF step n (step b p err).1 (step b p err).2.1 (step b p err).2.2 else (b, p, err)
/-- Readers' boxes (type 75) stay. -/
def Stay75 (W w' : World) : Prop := ∀ (B : Nat) (cs : Array Value), W.heap[B]? = some (Obj.cells cs 75 (0, 0)) → w'.heap[B]? = some (Obj.cells cs 75 (0, 0))
def ManyPost {β : Type} (J : World → β → Prop) (g base : Nat) (xs : List Int) (r : β × Int × Int) (e : Ending) (w' : World) : Prop := e = .returned (.tuple #[]) ∧ Rd.Rdr w' g base xs r.2.1 r.2.2 ∧ J w' r.1
def Some1 {β : Type} (J : Nat → World → β → Prop) (w : World) (b : β) : Prop := ∃ j, j ≤ 100000 ∧ J j w b
theorem stay_grown {W w' : World} {g base : Nat} {xs : List Int} {p err : Int} (hR : Rd.Rdr W g base xs p err) (hg : W.grownBy w' (some g)) : Stay75 W w' := fun B cs h => blk_grown h hg (by
  obtain ⟨A, c, hb, _⟩ := hR
  intro e
  injection e with e
  subst e
  rw [hb] at h
  injection h with h
  injection h with _ h
  exact absurd h (by decide))
set_option maxHeartbeats 4000000 in
theorem wire_reader_many.many {β : Type} (J : Nat → World → β → Prop) (g base : Nat) (xs : List Int) (hJ : ∀ j W b w', J j W b → W.grownBy w' (some g) → J j w' b) (step : β → Int → Int → β × Int × Int) (gf : Nat) (caps : Array Value) (eg : ∀ args w, (callFunc gf args).run Try.prog w = .ok (.enter gf args) w)
    (hs : ∀ j W b p, j < 100000 → Rd.Rdr W g base xs p 0 → J j W b → Calls Try.prog gf caps W fun e w' => ManyPost (J (j + 1)) g base xs (step b p 0) e w' ∧ Stay75 W w')
    (W : World) (b : β) (p err : Int) (hR : Rd.Rdr W g base xs p err) (hB : J 0 W b) :
    Calls Try.prog 48 #[.agg #[.pointer (some ⟨g, 0, none⟩)], .func (.func gf) #[] caps] W fun e w' => ManyPost (Some1 J) g base xs (manyF step (Rd.takeF xs p err 2).1.toNat b (Rd.takeF xs p err 2).2.1 (Rd.takeF xs p err 2).2.2) e w' := by
  have HJ1 := Aside0.mk (hJ 0 W b (W.alloc (.cells #[.pointer (some ⟨g, 0, none⟩)] 75)) hB (grown_of_below (below_alloc (Below.refl _ _) (.cells #[.pointer (some ⟨g, 0, none⟩)] 75) : Below W.heap.size W (W.alloc (.cells #[.pointer (some ⟨g, 0, none⟩)] 75))) (some g)))
  have HBY := Aside0.mk (Rdr_bytes hR)
  have HLT := Aside0.mk hR.lt
  have HK1 := Aside0.mk (blk_new W (.cells #[.pointer (some ⟨g, 0, none⟩)] 75))
  have HR1 := Aside0.mk (Rd.Rdr.below (W := W) hR (below_alloc (Below.refl _ _) (.cells #[.pointer (some ⟨g, 0, none⟩)] 75)))
  have HG1 := Aside0.mk (grown_of_below (below_alloc (Below.refl _ _) (.cells #[.pointer (some ⟨g, 0, none⟩)] 75) : Below W.heap.size W (W.alloc (.cells #[.pointer (some ⟨g, 0, none⟩)] 75))) (some g))
  clear hR
  clear HG1 hB
  have HS := Aside0.mk hs
  have HJ := Aside0.mk hJ
  clear hs hJ
  obtain ⟨t, ht⟩ : ∃ t, Rd.takeF xs p err 2 = t := ⟨_, rfl⟩
  obtain ⟨n, hn, hn2⟩ : ∃ n : Nat, t.1 = (n : Int) ∧ n ≤ 100000 := by
    have h := take2_bd xs p err HBY.out
    rw [ht] at h
    exact ⟨t.1.toNat, by omega, by omega⟩
  rw [ht, hn, Int.toNat_natCast]
  have HT := Aside0.mk ht
  have HN := Aside0.mk hn
  clear ht hn
  go_enter Try.func48, Try.ntmps48
  have c0 : (W.alloc (.cells #[.pointer (some ⟨g, 0, none⟩)] 75)).cell? ⟨W.heap.size, 0, none⟩ = some (.pointer (some ⟨g, 0, none⟩)) := (blk_cell HK1.out 0).trans rfl
  go_wp2_with fail
  refine (Rd.u16_any _ g base xs p err HR1.out).mono ?_
  rw [HT.out]
  rintro e w2 ⟨rfl, hr2, hg2⟩
  rw [HN.out]
  have HR2 := Aside0.mk hr2
  have HK2 := Aside0.mk (stay_grown HR1.out hg2 _ _ HK1.out)
  have HJ2 := Aside0.mk (HJ.out 0 _ _ _ HJ1.out hg2)
  clear hr2 hg2 c0 HR1 HK1 HJ1
  go_wp2
  go_loopg [7] n (fun gg u7 wr => ∃ (j : Nat) (b1 : β) (p1 err1 : Int), u7 = .int .i64 j ∧ j ≤ n ∧ n - j ≤ gg ∧ Aside0 (Rd.Rdr wr g base xs p1 err1 ∧ wr.heap[W.heap.size]? = some (.cells #[.pointer (some ⟨g, 0, none⟩)] 75 (0, 0)) ∧ J j wr b1) ∧ Aside0 (manyF step (n - j) b1 p1 err1 = manyF step n b t.2.1 t.2.2))
  case atStart => exact ⟨0, b, _, _, rfl, Nat.zero_le _, by omega, ⟨HR2.out, HK2.out, HJ2.out⟩, ⟨rfl⟩⟩
  case round =>
    obtain ⟨j, b1, p1, err1, rfl, hj, hg, HL, HF⟩ := hrel
    have c0 : wr.cell? ⟨W.heap.size, 0, none⟩ = some (.pointer (some ⟨g, 0, none⟩)) := (blk_cell HL.out.2.1 0).trans rfl
    clear HR2 HK2 HJ2
    by_cases hlt : j < n
    · by_cases h0 : err1 = 0
      · subst h0
        have hF := HF.out
        rw [show n - j = (n - (j + 1)) + 1 by omega, manyF, if_pos rfl] at hF
        have HF2 := Aside0.mk hF
        clear hF HF
        go_wp2_with fail
        refine (Rd.err_any _ g base xs _ _ HL.out.1).mono ?_
        rintro e w3 ⟨rfl, rfl⟩
        go_wp2_with fail
        refine (HS.out j _ b1 p1 (by omega) HL.out.1 HL.out.2.2).mono ?_
        generalize step b1 p1 0 = r at HF2 ⊢
        rintro e w4 ⟨⟨rfl, h1, h2⟩, h3⟩
        have HL4 := Aside0.mk (show Rd.Rdr w4 g base xs r.2.1 r.2.2 ∧ w4.heap[W.heap.size]? = some (.cells #[.pointer (some ⟨g, 0, none⟩)] 75 (0, 0)) ∧ J (j + 1) w4 r.1 from ⟨h1, h3 _ _ HL.out.2.1, h2⟩)
        clear h1 h2 h3 HL c0
        go_wp2
        go_roundg (n - (j + 1))
        case measure => omega
        case rel => exact ⟨j + 1, r.1, _, _, by go_num, by omega, by omega, HL4, HF2⟩
      · have e0 : (err1 != 0) = true := by simpa using h0
        have hF := HF.out
        rw [show n - j = (n - (j + 1)) + 1 by omega, manyF, if_neg h0] at hF
        have HX := Aside0.mk (show ManyPost (Some1 J) g base xs (manyF step n b t.2.1 t.2.2) (.returned (.tuple #[])) wr from by rw [← hF]; exact ⟨rfl, HL.out.1, j, by omega, HL.out.2.2⟩)
        clear hF HF h0
        go_wp2_with fail
        refine (Rd.err_any _ g base xs _ _ HL.out.1).mono ?_
        rintro e w3 ⟨rfl, rfl⟩
        go_wp2
        exact bodyPost_ret (v := .tuple #[]) (by simp [results, Try.results48, go_sem]) rfl HX.out
    · have : j = n := by omega
      subst this
      have hF := HF.out
      rw [Nat.sub_self, manyF] at hF
      have HX := Aside0.mk (show ManyPost (Some1 J) g base xs (manyF step j b t.2.1 t.2.2) (.returned (.tuple #[])) wr from by rw [← hF]; exact ⟨rfl, HL.out.1, j, hn2, HL.out.2.2⟩)
      clear hF HF
      go_wp2
      exact bodyPost_end (v := .tuple #[]) (by simp [results, Try.results48, go_sem]) rfl HX.out
def wire_reader_head.T2 : Bool × List (List Nat × List Nat) := (true, [([], []), ([0], [0]), ([1], [1]), ([], []), ([3, 2], [3]), ([], []), ([5], [5]), ([6], [6]), ([], []), ([8], [8]), ([9], [9]), ([2, 4, 7, 10], [2, 4, 7, 10]), ([11, 4, 0, 1, 2, 3, 4, 5, 6, 7, 8, 9, 10, 11], [11])])
def wire_reader_head.B2 : List Nat := [0, 1, 3, 0, 15, 0, 32, 96, 0, 256, 768, 2047, 4095]
theorem wire_reader_head.tab2 : rtab .any (opsOf Try.f44 2) = wire_reader_head.T2 := by kernel_rfl
theorem wire_reader_head.bits2 : waitsOk wire_reader_head.T2.2 wire_reader_head.B2 = true := by kernel_rfl
def bitB (x m : Int) : Bool := bits BinOp.and .i64 x m != 0
def headF (xs : List Int) (p err : Int) : (Int × Int × Int × Bool × Bool) × Int × Int :=
  (((Rd.takeF xs (Rd.takeF xs p err 1).2.1 (Rd.takeF xs p err 1).2.2 2).1, (tagF xs (Rd.takeF xs (Rd.takeF xs p err 1).2.1 (Rd.takeF xs p err 1).2.2 2).2.1 (Rd.takeF xs (Rd.takeF xs p err 1).2.1 (Rd.takeF xs p err 1).2.2 2).2.2).1.1, (tagF xs (Rd.takeF xs (Rd.takeF xs p err 1).2.1 (Rd.takeF xs p err 1).2.2 2).2.1 (Rd.takeF xs (Rd.takeF xs p err 1).2.1 (Rd.takeF xs p err 1).2.2 2).2.2).1.2, bitB (Rd.takeF xs p err 1).1 1, bitB (Rd.takeF xs p err 1).1 2),
   (tagF xs (Rd.takeF xs (Rd.takeF xs p err 1).2.1 (Rd.takeF xs p err 1).2.2 2).2.1 (Rd.takeF xs (Rd.takeF xs p err 1).2.1 (Rd.takeF xs p err 1).2.2 2).2.2).2)
def RdHead (W : World) (g base : Nat) (xs : List Int) (r : (Int × Int × Int × Bool × Bool) × Int × Int) (e : Ending) (w' : World) : Prop :=
  e = .returned (.agg #[.int .i64 r.1.1, .int .i64 r.1.2.1, .int .i64 r.1.2.2.1, .bool r.1.2.2.2.1, .bool r.1.2.2.2.2]) ∧ Rd.Rdr w' g base xs r.2.1 r.2.2 ∧ W.grownBy w' (some g)
set_option maxHeartbeats 4000000 in
set_option maxRecDepth 100000 in
theorem wire_reader_head.head (W : World) (g base : Nat) (xs : List Int) (p err : Int) (hR : Rd.Rdr W g base xs p err) :
    Calls Try.prog 44 #[.agg #[.pointer (some ⟨g, 0, none⟩)]] W (RdHead W g base xs (headF xs p err)) := by
  have HLT := Aside0.mk hR.lt
  obtain ⟨t1, ht1⟩ : ∃ t, Rd.takeF xs p err 1 = t := ⟨_, rfl⟩
  obtain ⟨t2, ht2⟩ : ∃ t, Rd.takeF xs t1.2.1 t1.2.2 2 = t := ⟨_, rfl⟩
  obtain ⟨t3, ht3⟩ : ∃ t, tagF xs t2.2.1 t2.2.2 = t := ⟨_, rfl⟩
  have hf : headF xs p err = ((t2.1, t3.1.1, t3.1.2, bitB t1.1 1, bitB t1.1 2), t3.2) := by unfold headF; rw [ht1, ht2, ht3]
  rw [hf]
  have HT1 := Aside0.mk ht1
  have HT2 := Aside0.mk ht2
  have HT3 := Aside0.mk ht3
  have hs1 : (W.alloc (.cells #[.pointer (some ⟨g, 0, none⟩)] 75)).heap.size = W.heap.size + 1 := by simp
  have HQ1 := Aside0.mk (show ((W.alloc (.cells #[.pointer (some ⟨g, 0, none⟩)] 75)).alloc (.cells #[.int .i64 0, .int .i64 0, .int .i64 0, .bool false, .bool false] 42)).heap[W.heap.size + 1]? = some (.cells #[.int .i64 0, .int .i64 0, .int .i64 0, .bool false, .bool false] 42 (0, 0)) from by have h := blk_new (W.alloc (.cells #[.pointer (some ⟨g, 0, none⟩)] 75)) (.cells #[.int .i64 0, .int .i64 0, .int .i64 0, .bool false, .bool false] 42); rw [hs1] at h; exact h)
  have HK1 := Aside0.mk (blk_alloc (blk_new W (.cells #[.pointer (some ⟨g, 0, none⟩)] 75)) (.cells #[.int .i64 0, .int .i64 0, .int .i64 0, .bool false, .bool false] 42))
  have HR1 := Aside0.mk (show Rd.Rdr ((W.alloc (.cells #[.pointer (some ⟨g, 0, none⟩)] 75)).alloc (.cells #[.int .i64 0, .int .i64 0, .int .i64 0, .bool false, .bool false] 42)) g base xs p err from Rd.Rdr.below (W := W) hR (below_alloc (below_alloc (Below.refl _ _) _) _))
  have HG1 := Aside0.mk (show W.grownBy ((W.alloc (.cells #[.pointer (some ⟨g, 0, none⟩)] 75)).alloc (.cells #[.int .i64 0, .int .i64 0, .int .i64 0, .bool false, .bool false] 42)) (some g) from grown_of_below (below_alloc (below_alloc (Below.refl _ _) _) _) _)
  clear hR ht1 ht2 ht3 hf hs1
  have hb1 : (bits BinOp.and .i64 t1.1 1 != 0) = bitB t1.1 1 := rfl
  have hb2 : (bits BinOp.and .i64 t1.1 2 != 0) = bitB t1.1 2 := rfl
  go_enter Try.func44, Try.ntmps44
  have c0 : ((W.alloc (.cells #[.pointer (some ⟨g, 0, none⟩)] 75)).alloc (.cells #[.int .i64 0, .int .i64 0, .int .i64 0, .bool false, .bool false] 42)).cell? ⟨W.heap.size, 0, none⟩ = some (.pointer (some ⟨g, 0, none⟩)) := (blk_cell HK1.out 0).trans rfl
  go_wp2_with fail
  refine (Rd.u8_any _ g base xs p err HR1.out).mono ?_
  rw [HT1.out]
  rintro e W2 ⟨rfl, hr2, hg2⟩
  clear c0
  have HR2 := Aside0.mk hr2
  have HK2 := Aside0.mk (blk_grown HK1.out hg2 qj)
  have HQ2 := Aside0.mk (blk_grown HQ1.out hg2 qj)
  have HG2 := Aside0.mk (grown_tr HG1.out hg2)
  clear hr2 hg2 HR1 HK1 HQ1 HG1
  have HR3 := Aside0.mk (Rd.Rdr.below (W := W2) HR2.out (below_drew1 (Below.refl _ _)))
  have HK3 := Aside0.mk (blk_drew HK2.out)
  have HQ3 := Aside0.mk (blk_drew HQ2.out)
  have HG3 := Aside0.mk (show W.grownBy W2.drew (some g) from grown_tr HG2.out (grown_wide (grown_of_below (below_drew1 (Below.refl W2.heap.size W2)) none) _))
  clear HR2 HK2 HQ2 HG2
  go_wp2_with fail
  refine start_ (n := 13) (S := fun w' => w'.cell? ⟨W.heap.size, 0, none⟩ = some (.pointer (some ⟨g, 0, none⟩))) (ds := []) (fl 13 0) (by kernel_rfl) rfl rfl ((blk_cell HK3.out 0).trans rfl) (fun hHeld => ?_)
  refine with_tabW wire_reader_head.tab2 wire_reader_head.bits2 (fun HT_ HW_ => ?_)
  generalize W2.drew = W3 at HR3 HK3 HQ3 HG3 hHeld ⊢
  refine pu_ 0 7 (fl 13 1) ?_
  refine tk_1 1 8 (fl 13 3) hHeld ?_
  refine tk_1 3 10 (fl 13 11) hHeld ?_
  refine pu_ 5 12 (fl 13 43) ?_
  refine pu_ 6 13 (fl 13 107) ?_
  refine pu_ 7 14 (fl 13 235) ?_
  refine pu_ 8 15 (fl 13 491) ?_
  refine pu_ 9 16 (fl 13 1003) ?_
  refine pu_ 10 17 (fl 13 2027) ?_
  refine on_ 2 (some 9) (fl 13 2031) fun K hK => ?_
  refine go_ Try.func51 #[.pointer (some ⟨g, 0, none⟩)] ?_
  refine (Rd.u16_any _ g base xs _ _ HR3.out).mono ?_
  rw [HT2.out]
  rintro e W4 ⟨rfl, hr4, hg4⟩
  have HR4 := Aside0.mk hr4
  have HK4 := Aside0.mk (blk_grown HK3.out hg4 qj)
  have HQ4 := Aside0.mk (blk_grown HQ3.out hg4 qj)
  have HG4 := Aside0.mk (grown_tr HG3.out hg4)
  clear hr4 hg4 HR3 HK3 HQ3 HG3
  refine nx_ hK ((blk_cell HK4.out 0).trans rfl) fun hHeld => ?_
  clear hK K
  refine on_ 4 (some 11) (fl 13 2047) fun K hK => ?_
  refine go_ Try.func43 #[.agg #[.pointer (some ⟨g, 0, none⟩)]] ?_
  refine (wire_reader_tag.tag _ g base xs _ _ HR4.out).mono ?_
  rw [HT3.out]
  rintro e W5 ⟨rfl, hr5, hg5⟩
  have HR5 := Aside0.mk hr5
  have HK5 := Aside0.mk (blk_grown HK4.out hg5 qj)
  have HQ5 := Aside0.mk (blk_grown HQ4.out hg5 qj)
  have HG5 := Aside0.mk (grown_tr HG4.out hg5)
  clear hr5 hg5 HR4 HK4 HQ4 HG4
  refine nx_ hK ((blk_cell HK5.out 0).trans rfl) fun hHeld => ?_
  clear hK K
  refine pu_ 11 18 (fl 13 4095) ?_
  refine on_ 12 none (fl 13 8191) fun K hK => ?_
  refine skip_ (w1 := (((((W5.setCell ⟨W.heap.size + 1, 0, none⟩ (.int .i64 t2.1)).setCell ⟨W.heap.size + 1, 1, none⟩ (.int .i64 t3.1.1)).setCell ⟨W.heap.size + 1, 2, none⟩ (.int .i64 t3.1.2)).setCell ⟨W.heap.size + 1, 3, none⟩ (.bool (bitB t1.1 1))).setCell ⟨W.heap.size + 1, 4, none⟩ (.bool (bitB t1.1 2)))) (by rfl) rfl ?hrun ?_
  case hrun =>
    have c0 : W5.cell? ⟨W.heap.size + 1, 0, none⟩ = some (.int .i64 0) := (blk_cell HQ5.out 0).trans rfl
    have f0 := blk_frozen HQ5.out 0
    have c1 : W5.cell? ⟨W.heap.size + 1, 1, none⟩ = some (.int .i64 0) := (blk_cell HQ5.out 1).trans rfl
    have f1 := blk_frozen HQ5.out 1
    have c2 : W5.cell? ⟨W.heap.size + 1, 2, none⟩ = some (.int .i64 0) := (blk_cell HQ5.out 2).trans rfl
    have f2 := blk_frozen HQ5.out 2
    have c3 : W5.cell? ⟨W.heap.size + 1, 3, none⟩ = some (.bool false) := (blk_cell HQ5.out 3).trans rfl
    have f3 := blk_frozen HQ5.out 3
    have c4 : W5.cell? ⟨W.heap.size + 1, 4, none⟩ = some (.bool false) := (blk_cell HQ5.out 4).trans rfl
    have f4 := blk_frozen HQ5.out 4
    first | (go_simp; done) | (go_simp; rfl)
  have hz0 : (W5.setCell ⟨W.heap.size + 1, 0, none⟩ (.int .i64 t2.1)).heap[W.heap.size + 1]? = some (.cells #[.int .i64 t2.1, .int .i64 0, .int .i64 0, .bool false, .bool false] 42 (0, 0)) := (blk_set HQ5.out 0 (.int .i64 t2.1)).trans rfl
  have hz1 : ((W5.setCell ⟨W.heap.size + 1, 0, none⟩ (.int .i64 t2.1)).setCell ⟨W.heap.size + 1, 1, none⟩ (.int .i64 t3.1.1)).heap[W.heap.size + 1]? = some (.cells #[.int .i64 t2.1, .int .i64 t3.1.1, .int .i64 0, .bool false, .bool false] 42 (0, 0)) := (blk_set hz0 1 (.int .i64 t3.1.1)).trans rfl
  have hz2 : (((W5.setCell ⟨W.heap.size + 1, 0, none⟩ (.int .i64 t2.1)).setCell ⟨W.heap.size + 1, 1, none⟩ (.int .i64 t3.1.1)).setCell ⟨W.heap.size + 1, 2, none⟩ (.int .i64 t3.1.2)).heap[W.heap.size + 1]? = some (.cells #[.int .i64 t2.1, .int .i64 t3.1.1, .int .i64 t3.1.2, .bool false, .bool false] 42 (0, 0)) := (blk_set hz1 2 (.int .i64 t3.1.2)).trans rfl
  have hz3 : ((((W5.setCell ⟨W.heap.size + 1, 0, none⟩ (.int .i64 t2.1)).setCell ⟨W.heap.size + 1, 1, none⟩ (.int .i64 t3.1.1)).setCell ⟨W.heap.size + 1, 2, none⟩ (.int .i64 t3.1.2)).setCell ⟨W.heap.size + 1, 3, none⟩ (.bool (bitB t1.1 1))).heap[W.heap.size + 1]? = some (.cells #[.int .i64 t2.1, .int .i64 t3.1.1, .int .i64 t3.1.2, .bool (bitB t1.1 1), .bool false] 42 (0, 0)) := (blk_set hz2 3 (.bool (bitB t1.1 1))).trans rfl
  have hz4 : (((((W5.setCell ⟨W.heap.size + 1, 0, none⟩ (.int .i64 t2.1)).setCell ⟨W.heap.size + 1, 1, none⟩ (.int .i64 t3.1.1)).setCell ⟨W.heap.size + 1, 2, none⟩ (.int .i64 t3.1.2)).setCell ⟨W.heap.size + 1, 3, none⟩ (.bool (bitB t1.1 1))).setCell ⟨W.heap.size + 1, 4, none⟩ (.bool (bitB t1.1 2))).heap[W.heap.size + 1]? = some (.cells #[.int .i64 t2.1, .int .i64 t3.1.1, .int .i64 t3.1.2, .bool (bitB t1.1 1), .bool (bitB t1.1 2)] 42 (0, 0)) := (blk_set hz3 4 (.bool (bitB t1.1 2))).trans rfl
  have hgs := grown_tr (grown_tr (grown_tr (grown_tr (grown_setCell W5 (W.heap.size + 1) 0 (.int .i64 t2.1)) (grown_setCell _ (W.heap.size + 1) 1 (.int .i64 t3.1.1))) (grown_setCell _ (W.heap.size + 1) 2 (.int .i64 t3.1.2))) (grown_setCell _ (W.heap.size + 1) 3 (.bool (bitB t1.1 1)))) (grown_setCell _ (W.heap.size + 1) 4 (.bool (bitB t1.1 2)))
  have HQ6 := Aside0.mk hz4
  have HK6 := Aside0.mk (blk_grown HK5.out hgs qn)
  have HR6 := Aside0.mk (HR5.out.keep (fun i hi => hgs.block i (by have := HLT.out.2; have := HG5.out.size; omega) qj))
  have HG6 := Aside0.mk (grown_new HG5.out hgs (by omega))
  clear hgs hz0 hz1 hz2 hz3 hz4 HK5 HR5 HG5 HQ5
  generalize (((((W5.setCell ⟨W.heap.size + 1, 0, none⟩ (.int .i64 t2.1)).setCell ⟨W.heap.size + 1, 1, none⟩ (.int .i64 t3.1.1)).setCell ⟨W.heap.size + 1, 2, none⟩ (.int .i64 t3.1.2)).setCell ⟨W.heap.size + 1, 3, none⟩ (.bool (bitB t1.1 1))).setCell ⟨W.heap.size + 1, 4, none⟩ (.bool (bitB t1.1 2))) = W6 at HQ6 HK6 HR6 HG6 ⊢
  refine hK.out _ _ ((blk_cell HK6.out 0).trans rfl) (fun hHeld => ?_)
  clear hK K
  refine dn_ ?_
  go_wp2
  have y0 : W6.cell? ⟨W.heap.size + 1, 0, none⟩ = some (.int .i64 t2.1) := (blk_cell HQ6.out 0).trans rfl
  have y1 : W6.cell? ⟨W.heap.size + 1, 1, none⟩ = some (.int .i64 t3.1.1) := (blk_cell HQ6.out 1).trans rfl
  have y2 : W6.cell? ⟨W.heap.size + 1, 2, none⟩ = some (.int .i64 t3.1.2) := (blk_cell HQ6.out 2).trans rfl
  have y3 : W6.cell? ⟨W.heap.size + 1, 3, none⟩ = some (.bool (bitB t1.1 1)) := (blk_cell HQ6.out 3).trans rfl
  have y4 : W6.cell? ⟨W.heap.size + 1, 4, none⟩ = some (.bool (bitB t1.1 2)) := (blk_cell HQ6.out 4).trans rfl
  exact bodyPost_ret (v := .agg #[.int .i64 t2.1, .int .i64 t3.1.1, .int .i64 t3.1.2, .bool (bitB t1.1 1), .bool (bitB t1.1 2)]) (by simp [results, Try.results44, go_sem, y0, y1, y2, y3, y4]) rfl ⟨rfl, HR6.out, HG6.out⟩
def wire_reader_texts.T0 : Bool × List (List Nat × List Nat) := (true, [([], []), ([], []), ([1], [1]), ([2], [2]), ([0, 3, 2], [0, 3]), ([4, 4, 0, 1, 2, 3, 4], [4])])
def wire_reader_texts.B0 : List Nat := [0, 0, 2, 6, 15, 31]
theorem wire_reader_texts.tab0 : rtab .any (opsOf Try.f91 0) = wire_reader_texts.T0 := by kernel_rfl
theorem wire_reader_texts.bits0 : waitsOk wire_reader_texts.T0.2 wire_reader_texts.B0 = true := by kernel_rfl
/-- What texts gathers: where it lies. -/
def TxJ (W0 : World) (g gb bx b0 : Nat) (j : Nat) (W : World) (l : List ByteArray) : Prop := ∃ v, W.heap[bx]? = some (.cells #[v] 45 (0, 0)) ∧ W.heap[gb]? = some (.cells #[.pointer (some ⟨g, 0, none⟩)] 75 (0, 0)) ∧ Kd.R Kd.string 9 W b0 (fun _ => True) v l ∧ W0.grownBy W (some g) ∧ l.length ≤ j
def txStep (xs : List Int) (l : List ByteArray) (p err : Int) : List ByteArray × Int × Int := (l ++ [strOfNums (Rd.textF xs p err 1048576).1], (Rd.textF xs p err 1048576).2)
set_option maxHeartbeats 4000000 in
set_option maxRecDepth 100000 in
theorem wire_reader_texts.one (W0 : World) (g base gb bx b0 : Nat) (xs : List Int) (hlow : g < W0.heap.size ∧ W0.heap.size ≤ gb ∧ W0.heap.size ≤ bx ∧ W0.heap.size ≤ b0) (j : Nat) (W : World) (l : List ByteArray) (p : Int) (hj : j < 100000) (hb0 : b0 ≤ W.heap.size) (hR : Rd.Rdr W g base xs p 0) (hJ : TxJ W0 g gb bx b0 j W l) :
    Calls Try.prog 91 #[.pointer (some ⟨bx, 0, none⟩), .pointer (some ⟨gb, 0, none⟩)] W fun e w' => ManyPost (TxJ W0 g gb bx b0 (j + 1)) g base xs (txStep xs l p 0) e w' ∧ Stay75 W w' := by
  obtain ⟨v, hX, hK, hO, hG, hl⟩ := hJ
  obtain ⟨A, c, ev⟩ := Kd.R_slice hO
  subst ev
  obtain ⟨t, ht⟩ : ∃ t, Rd.textF xs p 0 1048576 = t := ⟨_, rfl⟩
  have hst : txStep xs l p 0 = (l ++ [strOfNums t.1], t.2) := by unfold txStep; rw [ht]
  rw [hst]
  have HT := Aside0.mk ht
  have HGX := Aside0.mk (show g < bx by omega)
  have HGB := Aside0.mk (show g < gb by omega)
  have HGB0 := Aside0.mk (show g < b0 by omega)
  have HZ1 : Aside0 (b0 ≤ W.drew.heap.size) := ⟨hb0⟩
  have HB0L := Aside0.mk hlow.2.2.2
  have HBXL := Aside0.mk hlow.2.2.1
  have HPL := Aside0.mk (show l.length ≤ 100000 by omega)
  have HPJ := Aside0.mk hl
  have HR1 := Aside0.mk (Rd.Rdr.below (W := W) hR (below_drew1 (Below.refl _ _)))
  have HX1 := Aside0.mk (blk_drew hX)
  have HK1 := Aside0.mk (blk_drew hK)
  have HO1 := Aside0.mk (Kd.R_drew hO)
  have hgd : W.grownBy W.drew none := grown_of_below (below_drew1 (Below.refl W.heap.size W)) none
  have HG1 := Aside0.mk (grown_tr hG (grown_wide hgd (some g)))
  have HS1 : Aside0 (Stay75 W W.drew) := ⟨fun B cs h => blk_drew h⟩
  clear hst ht hlow hj hb0 hR hX hK hO hG hl hgd
  go_enter Try.func91, Try.ntmps91
  go_wp2_with fail
  refine start_ (n := 6) (S := fun w' => w'.cell? ⟨bx, 0, none⟩ = some (.slice A l.length c) ∧ w'.cell? ⟨gb, 0, none⟩ = some (.pointer (some ⟨g, 0, none⟩))) (ds := [5]) (fl 6 0) (by kernel_rfl) rfl rfl ⟨(blk_cell HX1.out 0).trans rfl, (blk_cell HK1.out 0).trans rfl⟩ (fun hHeld => ?_)
  refine with_tabW wire_reader_texts.tab0 wire_reader_texts.bits0 (fun HT_ HW_ => ?_)
  generalize W.drew = W1 at HZ1 HR1 HX1 HK1 HO1 HG1 HS1 hHeld ⊢
  refine tk_2 0 2 (fl 6 1) hHeld ?_
  refine tk_2 1 3 (fl 6 3) hHeld ?_
  refine on_ 2 (some 4) (fl 6 7) fun K hK => ?_
  refine go_ Try.func42 #[.agg #[.pointer (some ⟨g, 0, none⟩)]] ?_
  refine (wire_reader_many.text _ g base xs p 0 HR1.out).mono ?_
  rw [HT.out]
  rintro e W2 ⟨rfl, hr2, hg2⟩
  have HR2 := Aside0.mk hr2
  have HX2 := Aside0.mk (blk_grown HX1.out hg2 (by have := HGX.out; intro e; injection e with e; omega))
  have HK2 := Aside0.mk (blk_grown HK1.out hg2 (by have := HGB.out; intro e; injection e with e; omega))
  have HO2 := Aside0.mk (Kd.R_grown2 HO1.out rfl hg2 (fun k hk e => by injection hk with hk; have h1 := own_base (Kd.own_of_R HO1.out) k e.symm; have := HGB0.out; omega))
  have HG2 := Aside0.mk (grown_tr HG1.out hg2)
  have HS2 := Aside0.mk (fun B cs h => stay_grown HR1.out hg2 B cs (HS1.out B cs h))
  have HZ2 := Aside0.mk (Nat.le_trans HZ1.out hg2.size)
  clear hr2 hg2 HZ1 HR1 HX1 HK1 HO1 HG1 HS1
  refine nx_ hK ⟨(blk_cell HX2.out 0).trans rfl, (blk_cell HK2.out 0).trans rfl⟩ fun hHeld => ?_
  clear hK K
  refine on_ 3 (some 5) (fl 6 15) fun K hK => ?_
  refine Go.Proofs.Ytmdgdndidfcapaa.Str.ev_ (v := .slice (some ⟨W2.heap.size, 0, none⟩) 1 1) (w1 := W2.alloc (.cells #[.string (strOfNums t.1)] 9)) (by rfl) rfl qq ?_
  refine nm_ hK ⟨(blk_cell (blk_alloc HX2.out _) 0).trans rfl, (blk_cell (blk_alloc HK2.out _) 0).trans rfl⟩ fun hHeld => ?_
  clear hK K
  refine on_ 4 (some 6) (fl 6 31) fun K hK => ?_
  refine Kd.R_append_step Kd.string (w0 := W2) b0 (by rfl) (.tmp 2) (.tmp 5) 45 9 (.string ⟨#[]⟩) 16 rfl Try.underlying45 info9 rfl (by decide) (by omega) (.slice A l.length c) l (strOfNums t.1) [.string (strOfNums t.1)] (fun _ => True) (fun _ => False) rfl rfl rfl (fun _ hk => hk.elim) (fun _ _ => trivial) HO2.out (Below.refl _ _) HZ2.out (by have := HPL.out; omega) ?_
  intro v3 W3 ho3 hb3 hg3 hat3
  have HOB : ∀ k, (.slice A l.length c : Value).ownBlock = some k → b0 ≤ k := fun k hk => own_base (Kd.own_of_R HO2.out) k hk
  obtain ⟨A3, c3, e3⟩ := Kd.R_slice ho3
  subst e3
  have HO3 := Aside0.mk ho3
  have HR3 := Aside0.mk (HR2.out.keep (fun i hi => hg3.block i (by have := HR2.out.lt; omega) (fun e => by have := HOB i e.symm; have := HGB0.out; omega)))
  have HX3 := Aside0.mk (blk_grown HX2.out hg3 (Kd.R_ne HO2.out HX2.out (by decide)))
  have HK3 := Aside0.mk (blk_grown HK2.out hg3 (Kd.R_ne HO2.out HK2.out (by decide)))
  have HG3 : Aside0 (W0.grownBy W3 (some g)) := ⟨⟨hg3.os.trans HG2.out.os, hg3.tape.trans HG2.out.tape, hg3.output.trans HG2.out.output, Nat.le_trans HG2.out.size hg3.size, fun i hi hne => (hg3.block i (Nat.lt_of_lt_of_le hi HG2.out.size) (fun e => by have := HOB i e.symm; have := HB0L.out; omega)).trans (HG2.out.block i hi hne)⟩⟩
  have HS3 := Aside0.mk (fun B cs h => blk_grown (HS2.out B cs h) hg3 (Kd.R_ne HO2.out (HS2.out B cs h) (by decide)))
  clear ho3 hb3 hg3 hat3 HOB HR2 HX2 HK2 HO2 HG2 HS2
  refine nm_ hK ⟨(blk_cell HX3.out 0).trans rfl, (blk_cell HK3.out 0).trans rfl⟩ fun hHeld => ?_
  clear hK K
  refine la_ 5 none (fl 6 63) fun K hK => ?_
  refine skip_ (w1 := W3.setCell ⟨bx, 0, none⟩ (.slice A3 (l ++ [strOfNums t.1]).length c3)) (by rfl) rfl ?hrun ?_
  case hrun =>
    have c1 : W3.cell? ⟨bx, 0, none⟩ = some (.slice A l.length c) := (blk_cell HX3.out 0).trans rfl
    have f1 := blk_frozen HX3.out 0
    first | (go_simp; done) | (go_simp; rfl)
  have hgs := grown_setCell W3 bx 0 (.slice A3 (l ++ [strOfNums t.1]).length c3)
  have HX4 := Aside0.mk (show (W3.setCell ⟨bx, 0, none⟩ (.slice A3 (l ++ [strOfNums t.1]).length c3)).heap[bx]? = some (.cells #[(.slice A3 (l ++ [strOfNums t.1]).length c3)] 45 (0, 0)) from (blk_set HX3.out 0 (.slice A3 (l ++ [strOfNums t.1]).length c3)).trans rfl)
  have HK4 := Aside0.mk (blk_grown HK3.out hgs (by have h1 := HX3.out; have h2 := HK3.out; intro e; injection e with e; subst e; rw [h1] at h2; injection h2 with h2; injection h2 with _ h2; exact absurd h2 (by decide)))
  have HR4 := Aside0.mk (HR3.out.keep (fun i hi => hgs.block i (by have := HR3.out.lt; omega) (by have := HGX.out; intro e; injection e with e; omega)))
  have HO4 := Aside0.mk (Kd.R_grown2 HO3.out rfl hgs (fun k hk e => by injection hk with hk; rw [← hk] at e; exact (Kd.R_ne HO3.out HX3.out (by decide)) e))
  have HG4 := Aside0.mk (grown_new HG3.out hgs HBXL.out)
  have HS4 := Aside0.mk (fun B cs h => blk_grown (HS3.out B cs h) hgs (by have h1 := HX3.out; have h2 := HS3.out B cs h; intro e; injection e with e; subst e; rw [h1] at h2; injection h2 with h2; injection h2 with _ h2; exact absurd h2 (by decide)))
  clear hgs HX3 HK3 HR3 HO3 HG3 HS3
  generalize W3.setCell ⟨bx, 0, none⟩ (.slice A3 (l ++ [strOfNums t.1]).length c3) = W4 at HX4 HK4 HR4 HO4 HG4 HS4 ⊢
  refine hK.out _ _ ?_
  clear hK K
  refine dn_ ?_
  go_wp2
  exact bodyPost_end (v := .tuple #[]) (by simp [results, Try.results91, go_sem]) rfl ⟨⟨rfl, HR4.out, _, HX4.out, HK4.out, HO4.out, HG4.out, by rw [List.length_append, List.length_singleton]; have := HPJ.out; omega⟩, HS4.out⟩
theorem TxJ_grown {W0 : World} {g gb bx b0 : Nat} (hlow : g < gb ∧ g < bx ∧ g < b0) (j : Nat) (W : World) (l : List ByteArray) (w' : World) (h : TxJ W0 g gb bx b0 j W l ∧ b0 ≤ W.heap.size) (hg : W.grownBy w' (some g)) : TxJ W0 g gb bx b0 j w' l ∧ b0 ≤ w'.heap.size := by
  obtain ⟨⟨v, hX, hK, hO, hG, hl⟩, hb⟩ := h
  exact ⟨⟨v, blk_grown hX hg qn, blk_grown hK hg qn, Kd.R_grown2 hO rfl hg (fun k hk e => by injection hk with hk; have := own_base (Kd.own_of_R hO) k e.symm; omega), grown_tr hG hg, hl⟩, Nat.le_trans hb hg.size⟩
def textsF (xs : List Int) (p err : Int) : List ByteArray × Int × Int := manyF (txStep xs) (Rd.takeF xs p err 2).1.toNat [] (Rd.takeF xs p err 2).2.1 (Rd.takeF xs p err 2).2.2
def RdTexts (W : World) (g base : Nat) (xs : List Int) (r : List ByteArray × Int × Int) (e : Ending) (w' : World) : Prop := ∃ v, e = .returned v ∧ Rd.Rdr w' g base xs r.2.1 r.2.2 ∧ Kd.R Kd.string 9 w' W.heap.size (fun _ => True) v r.1 ∧ W.grownBy w' (some g) ∧ r.1.length ≤ 100000
theorem wire_reader_texts.mk_many (W : World) (g base : Nat) (xs : List Int) (p err : Int) (hR : Rd.Rdr ((W.alloc (.cells #[.pointer (some ⟨g, 0, none⟩)] 75)).alloc (.cells #[.slice none 0 0] 45)) g base xs p err) (hlt : base ≤ g ∧ g < W.heap.size) (hJ : TxJ W g W.heap.size (W.heap.size + 1) (W.heap.size + 2) 0 ((W.alloc (.cells #[.pointer (some ⟨g, 0, none⟩)] 75)).alloc (.cells #[.slice none 0 0] 45)) [] ∧ W.heap.size + 2 ≤ ((W.alloc (.cells #[.pointer (some ⟨g, 0, none⟩)] 75)).alloc (.cells #[.slice none 0 0] 45)).heap.size) :
    Calls Try.prog 48 #[.agg #[.pointer (some ⟨g, 0, none⟩)], .func (.func 91) #[] #[.pointer (some ⟨W.heap.size + 1, 0, none⟩), .pointer (some ⟨W.heap.size, 0, none⟩)]] ((W.alloc (.cells #[.pointer (some ⟨g, 0, none⟩)] 75)).alloc (.cells #[.slice none 0 0] 45)) fun e w' => ManyPost (Some1 (fun j W' l => TxJ W g W.heap.size (W.heap.size + 1) (W.heap.size + 2) j W' l ∧ W.heap.size + 2 ≤ W'.heap.size)) g base xs (textsF xs p err) e w' := by
  refine wire_reader_many.many (fun j W' l => TxJ W g W.heap.size (W.heap.size + 1) (W.heap.size + 2) j W' l ∧ W.heap.size + 2 ≤ W'.heap.size) g base xs (fun j W' l w' h hg => TxJ_grown ⟨by omega, by omega, by omega⟩ j W' l w' h hg) (txStep xs) 91 _ (enters_of Try.func91 (by kernel_rfl) rfl) (fun j W' l p1 hj hR1 hJ1 => ?_) _ [] p err hR hJ
  refine (wire_reader_texts.one W g base W.heap.size (W.heap.size + 1) (W.heap.size + 2) xs ⟨by omega, by omega, by omega, by omega⟩ j W' l p1 hj hJ1.2 hR1 hJ1.1).mono ?_
  rintro e w' ⟨⟨he, h1, h2⟩, h3⟩
  refine ⟨⟨he, h1, h2, ?_⟩, h3⟩
  obtain ⟨v, hX, hK, hO, hG, hl⟩ := h2
  have := blk_lt hX
  omega
set_option maxHeartbeats 4000000 in
set_option maxRecDepth 100000 in
theorem wire_reader_texts.texts (W : World) (g base : Nat) (xs : List Int) (p err : Int) (hR : Rd.Rdr W g base xs p err) :
    Calls Try.prog 45 #[.agg #[.pointer (some ⟨g, 0, none⟩)]] W (RdTexts W g base xs (textsF xs p err)) := by
  have HLT := Aside0.mk hR.lt
  have hs1 : (W.alloc (.cells #[.pointer (some ⟨g, 0, none⟩)] 75)).heap.size = W.heap.size + 1 := by simp
  have hs2 : ((W.alloc (.cells #[.pointer (some ⟨g, 0, none⟩)] 75)).alloc (.cells #[.slice none 0 0] 45)).heap.size = W.heap.size + 2 := by simp
  have HK1 := Aside0.mk (blk_alloc (blk_new W (.cells #[.pointer (some ⟨g, 0, none⟩)] 75)) (.cells #[.slice none 0 0] 45))
  have HX1 := Aside0.mk (show ((W.alloc (.cells #[.pointer (some ⟨g, 0, none⟩)] 75)).alloc (.cells #[.slice none 0 0] 45)).heap[W.heap.size + 1]? = some (.cells #[.slice none 0 0] 45 (0, 0)) from by have h := blk_new (W.alloc (.cells #[.pointer (some ⟨g, 0, none⟩)] 75)) (.cells #[.slice none 0 0] 45); rw [hs1] at h; exact h)
  have HR1 := Aside0.mk (show Rd.Rdr ((W.alloc (.cells #[.pointer (some ⟨g, 0, none⟩)] 75)).alloc (.cells #[.slice none 0 0] 45)) g base xs p err from Rd.Rdr.below (W := W) hR (below_alloc (below_alloc (Below.refl _ _) _) _))
  have HG1 := Aside0.mk (show W.grownBy ((W.alloc (.cells #[.pointer (some ⟨g, 0, none⟩)] 75)).alloc (.cells #[.slice none 0 0] 45)) (some g) from grown_of_below (below_alloc (below_alloc (Below.refl _ _) _) _) _)
  have HJ1 := Aside0.mk (show TxJ W g W.heap.size (W.heap.size + 1) (W.heap.size + 2) 0 ((W.alloc (.cells #[.pointer (some ⟨g, 0, none⟩)] 75)).alloc (.cells #[.slice none 0 0] 45)) [] ∧ W.heap.size + 2 ≤ ((W.alloc (.cells #[.pointer (some ⟨g, 0, none⟩)] 75)).alloc (.cells #[.slice none 0 0] 45)).heap.size from ⟨⟨_, HX1.out, HK1.out, Kd.R_nil _ _ _ _ _, HG1.out, Nat.le_refl _⟩, by rw [hs2]; exact Nat.le_refl _⟩)
  have hM := wire_reader_texts.mk_many W g base xs p err HR1.out HLT.out HJ1.out
  have c0 : ((W.alloc (.cells #[.pointer (some ⟨g, 0, none⟩)] 75)).alloc (.cells #[.slice none 0 0] 45)).cell? ⟨W.heap.size, 0, none⟩ = some (.pointer (some ⟨g, 0, none⟩)) := (blk_cell HK1.out 0).trans rfl
  have HM := Aside0.mk hM
  clear hR hs1 hs2 HX1 HG1 HJ1 hM
  go_enter Try.func45, Try.ntmps45
  go_wp2_with fail
  refine HM.out.mono ?_
  rintro e w2 ⟨rfl, h1, j, hj, ⟨v, hX, hK, hO, hG, hl⟩, hb⟩
  have c1 : w2.cell? ⟨W.heap.size + 1, 0, none⟩ = some v := (blk_cell hX 0).trans rfl
  have HX := Aside0.mk (show RdTexts W g base xs (textsF xs p err) (.returned v) w2 from ⟨v, rfl, h1, Kd.R_lower hO (by omega), hG, by have : (textsF xs p err).1.length ≤ j := hl; omega⟩)
  clear h1 hj hX hK hO hG hl hb c0
  go_wp2
  go_ret
  exact HX.out
theorem wire_reader_lines_1.info123 : (Try.prog.info? 123).map (fun i => (i.zero, i.size, i.bytes)) = some (some (.agg #[.string ⟨#[]⟩, .int .i64 0, .bool false, .int .i64 0, .int .i64 0, .int .i64 0, .bool false, .bool false]), 8, 64) := by kernel_rfl
def wire_reader_lines_1.T0 : Bool × List (List Nat × List Nat) := (true, [([], []), ([0], [0]), ([], []), ([2], [2]), ([3, 1], [3]), ([], []), ([5, 4], [5]), ([], []), ([7, 6], [7]), ([1, 4, 6, 8], [1, 4, 6, 8]), ([], []), ([10, 9, 8, 0, 1, 2, 3, 4, 5, 6, 7, 8, 9, 10], [9, 10])])
def wire_reader_lines_1.B0 : List Nat := [0, 1, 0, 4, 15, 0, 63, 0, 255, 511, 0, 2047]
theorem wire_reader_lines_1.tab0 : rtab .any (opsOf Try.f92 0) = wire_reader_lines_1.T0 := by kernel_rfl
theorem wire_reader_lines_1.bits0 : waitsOk wire_reader_lines_1.T0.2 wire_reader_lines_1.B0 = true := by kernel_rfl
/-- What lines gathers: where it lies; and what the closure's call has left. -/
def LnF (W0 W : World) (g base gb bx b0 : Nat) (xs : List Int) (v : Value) (l : List S123) (W' : World) (p err : Int) : Prop := Rd.Rdr W' g base xs p err ∧ W'.heap[bx]? = some (.cells #[v, .string ⟨#[]⟩, .int .i64 0, .bool false] 50 (0, 0)) ∧ W'.heap[gb]? = some (.cells #[.pointer (some ⟨g, 0, none⟩)] 75 (0, 0)) ∧ Kd.R k123 123 W' b0 (fun _ => True) v l ∧ W0.grownBy W' (some g) ∧ Stay75 W W' ∧ b0 ≤ W'.heap.size ∧ (g < gb ∧ g < bx ∧ g < b0 ∧ W0.heap.size ≤ bx ∧ W0.heap.size ≤ b0)
theorem LnF.move {W0 W : World} {g base gb bx b0 : Nat} {xs : List Int} {v : Value} {l : List S123} {W1 w2 : World} {p err p2 err2 : Int} (h : LnF W0 W g base gb bx b0 xs v l W1 p err) (hr : Rd.Rdr w2 g base xs p2 err2) (hg : W1.grownBy w2 (some g)) : LnF W0 W g base gb bx b0 xs v l w2 p2 err2 := by
  obtain ⟨hR, hX, hK, hO, hG, hS, hZ, hl⟩ := h
  exact ⟨hr, blk_grown hX hg qn, blk_grown hK hg qn, Kd.R_grown2 hO rfl hg (fun k hk e => by injection hk with hk; obtain ⟨inner, ho⟩ := Kd.R_own hO; have := own_base ho k e.symm; omega), grown_tr hG hg, fun B cs hb => stay_grown hR hg B cs (hS B cs hb), Nat.le_trans hZ hg.size, hl⟩
theorem LnF.alloc {W0 W : World} {g base gb bx b0 : Nat} {xs : List Int} {v : Value} {l : List S123} {W1 : World} {p err : Int} (h : LnF W0 W g base gb bx b0 xs v l W1 p err) (o : Obj) : LnF W0 W g base gb bx b0 xs v l (W1.alloc o) p err :=
  h.move (Rd.Rdr.below (W := W1) h.1 (below_alloc (Below.refl _ _) o)) (grown_of_below (below_alloc (Below.refl W1.heap.size W1) o) _)
/-- One line read. -/
def lnStep (xs : List Int) (l : List S123) (p err : Int) : List S123 × Int × Int :=
  let t1 := Rd.textF xs p err 1048576
  let t2 := Rd.takeF xs t1.2.1 t1.2.2 8
  let t3 := Rd.takeF xs t2.2.1 t2.2.2 1
  let t4 := headF xs t3.2.1 t3.2.2
  (l ++ [⟨strOfNums t1.1, t2.1, t3.1 == 1, ⟨t4.1.1, ⟨t4.1.2.1, t4.1.2.2.1⟩, t4.1.2.2.2.1, t4.1.2.2.2.2⟩⟩], t4.2)
theorem lnEx {W0 W w : World} {g base gb bx b0 : Nat} {xs : List Int} {v : Value} {l : List S123} {p : Int} {r : List S123 × Int × Int} (h : lnStep xs l p 0 = r) (h2 : LnF W0 W g base gb bx b0 xs v r.1 w r.2.1 r.2.2) : ∃ v', LnF W0 W g base gb bx b0 xs v' (lnStep xs l p 0).1 w (lnStep xs l p 0).2.1 (lnStep xs l p 0).2.2 := by
  rw [h]
  exact ⟨v, h2⟩
/-- The row grown by one, and where it lies written anew. -/
theorem LnF.app {W0 W : World} {g base gb bx b0 : Nat} {xs : List Int} {v v4 : Value} {l l4 : List S123} {W1 w4 : World} {p err : Int} (h : LnF W0 W g base gb bx b0 xs v l W1 p err) (ho : Kd.R k123 123 w4 b0 (fun _ => True) v4 l4) (hg : W1.grownBy w4 v.ownBlock) : w4.heap[bx]? = some (.cells #[v, .string ⟨#[]⟩, .int .i64 0, .bool false] 50 (0, 0)) ∧ LnF W0 W g base gb bx b0 xs v4 l4 (w4.setCell ⟨bx, 0, none⟩ v4) p err := by
  obtain ⟨hR, hX, hK, hO, hG, hS, hZ, hl⟩ := h
  have HOB : ∀ k, v.ownBlock = some k → b0 ≤ k := fun k hk => by obtain ⟨_, ho_⟩ := Kd.R_own hO; exact own_base ho_ k hk
  have hX3 := blk_grown hX hg (Kd.R_ne hO hX (by decide))
  have hK3 := blk_grown hK hg (Kd.R_ne hO hK (by decide))
  have hR3 : Rd.Rdr w4 g base xs p err := hR.keep (fun i hi => hg.block i (by have := hR.lt; omega) (fun e => by have := HOB i e.symm; omega))
  have hG3 : W0.grownBy w4 (some g) := ⟨hg.os.trans hG.os, hg.tape.trans hG.tape, hg.output.trans hG.output, Nat.le_trans hG.size hg.size, fun i hi hne => (hg.block i (Nat.lt_of_lt_of_le hi hG.size) (fun e => by have := HOB i e.symm; omega)).trans (hG.block i hi hne)⟩
  have hS3 : Stay75 W w4 := fun B cs hb => blk_grown (hS B cs hb) hg (Kd.R_ne hO (hS B cs hb) (by decide))
  have hgs := grown_setCell w4 bx 0 v4
  have ne : ∀ {B : Nat} {cs' : Array Value} {t : TypeId}, w4.heap[B]? = some (.cells cs' t (0, 0)) → t ≠ 50 → some B ≠ some bx := by
    intro B cs' t hB ht e
    injection e with e
    subst e
    rw [hB] at hX3
    injection hX3 with hN
    injection hN with _ hN
    exact ht hN
  exact ⟨hX3, hR3.keep (fun i hi => hgs.block i (by have := hR3.lt; omega) qn), (blk_set hX3 0 v4).trans rfl, blk_grown hK3 hgs (ne hK3 (by decide)), Kd.R_grown2 ho rfl hgs (fun k hk e => by injection hk with hk; rw [← hk] at e; exact (Kd.R_ne ho hX3 (by decide)) e), grown_new hG3 hgs (by omega), fun B cs hb => blk_grown (hS3 B cs hb) hgs (ne (hS3 B cs hb) (by decide)), Nat.le_trans hZ (Nat.le_trans hg.size hgs.size), hl⟩
/-- A change of a block of type 123 that is none of the row's. -/
theorem LnF.put {W0 W : World} {g base gb bx b0 : Nat} {xs : List Int} {v : Value} {l : List S123} {W1 w2 : World} {p err : Int} {bn : Nat} {cs : Array Value} (h : LnF W0 W g base gb bx b0 xs v l W1 p err) (hg : W1.grownBy w2 (some bn)) (hN : W1.heap[bn]? = some (.cells cs 123 (0, 0))) (hn : g < bn ∧ b0 ≤ bn ∧ some bn ≠ v.ownBlock) : LnF W0 W g base gb bx b0 xs v l w2 p err := by
  obtain ⟨hR, hX, hK, hO, hG, hS, hZ, hl⟩ := h
  have ne : ∀ {B : Nat} {cs' : Array Value} {t : TypeId}, W1.heap[B]? = some (.cells cs' t (0, 0)) → t ≠ 123 → some B ≠ some bn := by
    intro B cs' t hB ht e
    injection e with e
    subst e
    rw [hB] at hN
    injection hN with hN
    injection hN with _ hN
    exact ht hN
  exact ⟨hR.keep (fun i hi => hg.block i (by have := hR.lt; omega) qn), blk_grown hX hg (ne hX (by decide)), blk_grown hK hg (ne hK (by decide)), Kd.R_grown2 hO rfl hg (fun k hk e => by injection hk with hk; subst hk; exact hn.2.2 e), grown_new hG hg (by omega), fun B cs hb => blk_grown (hS B cs hb) hg (ne (hS B cs hb) (by decide)), Nat.le_trans hZ hg.size, hl⟩
set_option maxHeartbeats 8000000 in
set_option maxRecDepth 100000 in
theorem wire_reader_lines_1.one (W0 W : World) (g base gb bx b0 : Nat) (xs : List Int) (v : Value) (l : List S123) (p : Int) (h : LnF W0 W g base gb bx b0 xs v l W p 0) (hl : l.length ≤ 100000) :
    Calls Try.prog 92 #[.pointer (some ⟨gb, 0, none⟩), .pointer (some ⟨bx, 0, none⟩)] W fun e w' => e = .returned (.tuple #[]) ∧ ∃ v', LnF W0 W g base gb bx b0 xs v' (lnStep xs l p 0).1 w' (lnStep xs l p 0).2.1 (lnStep xs l p 0).2.2 := by
  obtain ⟨t1, ht1⟩ : ∃ t, Rd.textF xs p 0 1048576 = t := ⟨_, rfl⟩
  obtain ⟨t2, ht2⟩ : ∃ t, Rd.takeF xs t1.2.1 t1.2.2 8 = t := ⟨_, rfl⟩
  obtain ⟨t3, ht3⟩ : ∃ t, Rd.takeF xs t2.2.1 t2.2.2 1 = t := ⟨_, rfl⟩
  obtain ⟨b3, hb3⟩ : ∃ b, (t3.1 == 1) = b := ⟨_, rfl⟩
  obtain ⟨t4, ht4⟩ : ∃ t, headF xs t3.2.1 t3.2.2 = t := ⟨_, rfl⟩
  have HST : Aside0 (lnStep xs l p 0 = (l ++ [(⟨strOfNums t1.1, t2.1, b3, ⟨t4.1.1, ⟨t4.1.2.1, t4.1.2.2.1⟩, t4.1.2.2.2.1, t4.1.2.2.2.2⟩⟩ : S123)], t4.2)) := ⟨by unfold lnStep; simp only [ht1, ht2, ht3, ht4, hb3]⟩
  have HT1 := Aside0.mk ht1
  have HT2 := Aside0.mk ht2
  have HT3 : Aside0 ((((Rd.takeF xs t2.2.1 t2.2.2 1).1 == 1, (Rd.takeF xs t2.2.1 t2.2.2 1).2) : Bool × Int × Int) = (b3, t3.2)) := ⟨by rw [ht3, hb3]⟩
  have HT4 := Aside0.mk ht4
  have hgd : W.grownBy W.drew none := grown_of_below (below_drew1 (Below.refl W.heap.size W)) none
  have HF : Aside0 (LnF W0 W g base gb bx b0 xs v l W.drew p 0) := ⟨h.move (Rd.Rdr.below (W := W) h.1 (below_drew1 (Below.refl _ _))) (grown_wide hgd (some g))⟩
  clear ht1 ht2 ht3 hb3 ht4 hgd h
  go_enter Try.func92, Try.ntmps92
  go_wp2_with fail
  refine start_ (n := 12) (S := fun w' => w'.cell? ⟨gb, 0, none⟩ = some (.pointer (some ⟨g, 0, none⟩))) (ds := [11]) (fl 12 0) (by kernel_rfl) rfl rfl ((blk_cell HF.out.2.2.1 0).trans rfl) (fun hHeld => ?_)
  refine with_tabW wire_reader_lines_1.tab0 wire_reader_lines_1.bits0 (fun HT_ HW_ => ?_)
  generalize W.drew = W1 at HF hHeld ⊢
  refine pu_ 2 5 (fl 12 4) ?_
  refine tk_1 0 3 (fl 12 5) hHeld ?_
  refine tk_1 3 6 (fl 12 13) hHeld ?_
  refine tk_1 5 8 (fl 12 45) hHeld ?_
  refine tk_1 7 10 (fl 12 173) hHeld ?_
  refine join_ (σ := Nat) 1 (fl 12 2047) (fun bn => [(4, .string (strOfNums t1.1)), (7, .int .i64 t2.1), (9, .bool b3), (11, .agg #[.int .i64 t4.1.1, .int .i64 t4.1.2.1, .int .i64 t4.1.2.2.1, .bool t4.1.2.2.2.1, .bool t4.1.2.2.2.2]), (2, .pointer (some ⟨bn, 0, none⟩)), (12, .agg #[.string (strOfNums t1.1), .int .i64 t2.1, .bool b3, .int .i64 t4.1.1, .int .i64 t4.1.2.1, .int .i64 t4.1.2.2.1, .bool t4.1.2.2.2.1, .bool t4.1.2.2.2.2])]) (fun bn w' => LnF W0 W g base gb bx b0 xs v l w' t4.2.1 t4.2.2 ∧ w'.heap[bn]? = some (.cells #[.string ⟨#[]⟩, .int .i64 0, .bool false, .int .i64 0, .int .i64 0, .int .i64 0, .bool false, .bool false] 123 (0, 0)) ∧ (g < bn ∧ b0 ≤ bn ∧ some bn ≠ v.ownBlock)) ?cont (fun HC => ?_)
  rotate_left
  · skip
    refine two_ (i := 1) (j := 10) (Ni := some 4) (Nj := some 2) (fl 12 175) (fl 12 1197) rfl rfl rfl rfl (two_of HT_.out (by kernel_rfl)) (by decide) (by decide) (fun K hK => ?_) (fun K hK => ?_)
    rotate_left
    · skip
      refine Go.Proofs.Ytmdgdndidfcapaa.Str.ev_ (v := .pointer (some ⟨W1.heap.size, 0, none⟩)) (w1 := W1.alloc (.cells #[.string ⟨#[]⟩, .int .i64 0, .bool false, .int .i64 0, .int .i64 0, .int .i64 0, .bool false, .bool false] 123)) (by rfl) rfl qq ?_
      have HN := Aside0.mk (blk_new W1 (.cells #[.string ⟨#[]⟩, .int .i64 0, .bool false, .int .i64 0, .int .i64 0, .int .i64 0, .bool false, .bool false] 123))
      have HNG : Aside0 (g < W1.heap.size ∧ b0 ≤ W1.heap.size ∧ some W1.heap.size ≠ v.ownBlock) := ⟨(Rd.Rdr.lt HF.out.1).2, HF.out.2.2.2.2.2.2.1, fun e => by obtain ⟨_, ho_⟩ := Kd.R_own HF.out.2.2.2.1; obtain ⟨_, hc⟩ := own_typed ho_ _ e.symm; have := blk_lt hc; omega⟩
      have HF_1 := Aside0.mk (HF.out.alloc (.cells #[.string ⟨#[]⟩, .int .i64 0, .bool false, .int .i64 0, .int .i64 0, .int .i64 0, .bool false, .bool false] 123))
      refine nm_ hK ((blk_cell HF_1.out.2.2.1 0).trans rfl) fun hHeld => ?_
      clear hK K
      refine on_ 1 (some 4) (fl 12 1199) fun K hK => ?_
      refine go_ Try.func42 #[.agg #[.pointer (some ⟨g, 0, none⟩)]] ?_
      refine (wire_reader_many.text _ g base xs p 0 HF_1.out.1).mono ?_
      rw [HT1.out]
      rintro e W21 ⟨rfl, hr, hg⟩
      have HF_2 := Aside0.mk (HF_1.out.move hr hg)
      try (have HN_ := Aside0.mk (blk_grown HN.out hg qo); clear HN; have HN := HN_; clear HN_)
      clear hr hg
      refine nx_ hK ((blk_cell HF_2.out.2.2.1 0).trans rfl) fun hHeld => ?_
      clear hK K
      refine on_ 4 (some 7) (fl 12 1215) fun K hK => ?_
      refine go_ Try.func41 #[.pointer (some ⟨g, 0, none⟩)] ?_
      refine (Rd.i64_any _ g base xs _ _ HF_2.out.1).mono ?_
      rw [HT2.out]
      rintro e W22 ⟨rfl, hr, hg⟩
      have HF_3 := Aside0.mk (HF_2.out.move hr hg)
      try (have HN_ := Aside0.mk (blk_grown HN.out hg qo); clear HN; have HN := HN_; clear HN_)
      clear hr hg
      refine nx_ hK ((blk_cell HF_3.out.2.2.1 0).trans rfl) fun hHeld => ?_
      clear hK K
      refine on_ 6 (some 9) (fl 12 1279) fun K hK => ?_
      refine go_ Try.func46 #[.agg #[.pointer (some ⟨g, 0, none⟩)]] ?_
      refine (wire_reader_many.truth _ g base xs _ _ HF_3.out.1).mono ?_
      rw [HT3.out]
      rintro e W23 ⟨rfl, hr, hg⟩
      have HF_4 := Aside0.mk (HF_3.out.move hr hg)
      try (have HN_ := Aside0.mk (blk_grown HN.out hg qo); clear HN; have HN := HN_; clear HN_)
      clear hr hg
      refine nx_ hK ((blk_cell HF_4.out.2.2.1 0).trans rfl) fun hHeld => ?_
      clear hK K
      refine on_ 8 (some 11) (fl 12 1535) fun K hK => ?_
      refine go_ Try.func44 #[.agg #[.pointer (some ⟨g, 0, none⟩)]] ?_
      refine (wire_reader_head.head _ g base xs _ _ HF_4.out.1).mono ?_
      rw [HT4.out]
      rintro e W24 ⟨rfl, hr, hg⟩
      have HF_5 := Aside0.mk (HF_4.out.move hr hg)
      try (have HN_ := Aside0.mk (blk_grown HN.out hg qo); clear HN; have HN := HN_; clear HN_)
      clear hr hg
      refine nx_ hK ((blk_cell HF_5.out.2.2.1 0).trans rfl) fun hHeld => ?_
      clear hK K
      refine pu_ 9 12 (fl 12 2047) ?_
      refine norm_ ?_ (HC _ _ ⟨HF_5.out, HN.out, HNG.out⟩)
      simp only [putAll, Act.put, List.setIfInBounds_toArray, List.set_cons_zero, List.set_cons_succ]
    refine go_ Try.func42 #[.agg #[.pointer (some ⟨g, 0, none⟩)]] ?_
    refine (wire_reader_many.text _ g base xs p 0 HF.out.1).mono ?_
    rw [HT1.out]
    rintro e W21 ⟨rfl, hr, hg⟩
    have HF_6 := Aside0.mk (HF.out.move hr hg)
    try (have HN_ := Aside0.mk (blk_grown HN.out hg qo); clear HN; have HN := HN_; clear HN_)
    clear hr hg
    refine nx_ hK ((blk_cell HF_6.out.2.2.1 0).trans rfl) fun hHeld => ?_
    clear hK K
    refine two_ (i := 4) (j := 10) (Ni := some 7) (Nj := some 2) (fl 12 191) (fl 12 1199) rfl rfl rfl rfl (two_of HT_.out (by kernel_rfl)) (by decide) (by decide) (fun K hK => ?_) (fun K hK => ?_)
    rotate_left
    · skip
      refine Go.Proofs.Ytmdgdndidfcapaa.Str.ev_ (v := .pointer (some ⟨W21.heap.size, 0, none⟩)) (w1 := W21.alloc (.cells #[.string ⟨#[]⟩, .int .i64 0, .bool false, .int .i64 0, .int .i64 0, .int .i64 0, .bool false, .bool false] 123)) (by rfl) rfl qq ?_
      have HN := Aside0.mk (blk_new W21 (.cells #[.string ⟨#[]⟩, .int .i64 0, .bool false, .int .i64 0, .int .i64 0, .int .i64 0, .bool false, .bool false] 123))
      have HNG : Aside0 (g < W21.heap.size ∧ b0 ≤ W21.heap.size ∧ some W21.heap.size ≠ v.ownBlock) := ⟨(Rd.Rdr.lt HF_6.out.1).2, HF_6.out.2.2.2.2.2.2.1, fun e => by obtain ⟨_, ho_⟩ := Kd.R_own HF_6.out.2.2.2.1; obtain ⟨_, hc⟩ := own_typed ho_ _ e.symm; have := blk_lt hc; omega⟩
      have HF_7 := Aside0.mk (HF_6.out.alloc (.cells #[.string ⟨#[]⟩, .int .i64 0, .bool false, .int .i64 0, .int .i64 0, .int .i64 0, .bool false, .bool false] 123))
      refine nm_ hK ((blk_cell HF_7.out.2.2.1 0).trans rfl) fun hHeld => ?_
      clear hK K
      refine on_ 4 (some 7) (fl 12 1215) fun K hK => ?_
      refine go_ Try.func41 #[.pointer (some ⟨g, 0, none⟩)] ?_
      refine (Rd.i64_any _ g base xs _ _ HF_7.out.1).mono ?_
      rw [HT2.out]
      rintro e W22 ⟨rfl, hr, hg⟩
      have HF_8 := Aside0.mk (HF_7.out.move hr hg)
      try (have HN_ := Aside0.mk (blk_grown HN.out hg qo); clear HN; have HN := HN_; clear HN_)
      clear hr hg
      refine nx_ hK ((blk_cell HF_8.out.2.2.1 0).trans rfl) fun hHeld => ?_
      clear hK K
      refine on_ 6 (some 9) (fl 12 1279) fun K hK => ?_
      refine go_ Try.func46 #[.agg #[.pointer (some ⟨g, 0, none⟩)]] ?_
      refine (wire_reader_many.truth _ g base xs _ _ HF_8.out.1).mono ?_
      rw [HT3.out]
      rintro e W23 ⟨rfl, hr, hg⟩
      have HF_9 := Aside0.mk (HF_8.out.move hr hg)
      try (have HN_ := Aside0.mk (blk_grown HN.out hg qo); clear HN; have HN := HN_; clear HN_)
      clear hr hg
      refine nx_ hK ((blk_cell HF_9.out.2.2.1 0).trans rfl) fun hHeld => ?_
      clear hK K
      refine on_ 8 (some 11) (fl 12 1535) fun K hK => ?_
      refine go_ Try.func44 #[.agg #[.pointer (some ⟨g, 0, none⟩)]] ?_
      refine (wire_reader_head.head _ g base xs _ _ HF_9.out.1).mono ?_
      rw [HT4.out]
      rintro e W24 ⟨rfl, hr, hg⟩
      have HF_10 := Aside0.mk (HF_9.out.move hr hg)
      try (have HN_ := Aside0.mk (blk_grown HN.out hg qo); clear HN; have HN := HN_; clear HN_)
      clear hr hg
      refine nx_ hK ((blk_cell HF_10.out.2.2.1 0).trans rfl) fun hHeld => ?_
      clear hK K
      refine pu_ 9 12 (fl 12 2047) ?_
      refine norm_ ?_ (HC _ _ ⟨HF_10.out, HN.out, HNG.out⟩)
      simp only [putAll, Act.put, List.setIfInBounds_toArray, List.set_cons_zero, List.set_cons_succ]
    refine go_ Try.func41 #[.pointer (some ⟨g, 0, none⟩)] ?_
    refine (Rd.i64_any _ g base xs _ _ HF_6.out.1).mono ?_
    rw [HT2.out]
    rintro e W22 ⟨rfl, hr, hg⟩
    have HF_11 := Aside0.mk (HF_6.out.move hr hg)
    try (have HN_ := Aside0.mk (blk_grown HN.out hg qo); clear HN; have HN := HN_; clear HN_)
    clear hr hg
    refine nx_ hK ((blk_cell HF_11.out.2.2.1 0).trans rfl) fun hHeld => ?_
    clear hK K
    refine two_ (i := 6) (j := 10) (Ni := some 9) (Nj := some 2) (fl 12 255) (fl 12 1215) rfl rfl rfl rfl (two_of HT_.out (by kernel_rfl)) (by decide) (by decide) (fun K hK => ?_) (fun K hK => ?_)
    rotate_left
    · skip
      refine Go.Proofs.Ytmdgdndidfcapaa.Str.ev_ (v := .pointer (some ⟨W22.heap.size, 0, none⟩)) (w1 := W22.alloc (.cells #[.string ⟨#[]⟩, .int .i64 0, .bool false, .int .i64 0, .int .i64 0, .int .i64 0, .bool false, .bool false] 123)) (by rfl) rfl qq ?_
      have HN := Aside0.mk (blk_new W22 (.cells #[.string ⟨#[]⟩, .int .i64 0, .bool false, .int .i64 0, .int .i64 0, .int .i64 0, .bool false, .bool false] 123))
      have HNG : Aside0 (g < W22.heap.size ∧ b0 ≤ W22.heap.size ∧ some W22.heap.size ≠ v.ownBlock) := ⟨(Rd.Rdr.lt HF_11.out.1).2, HF_11.out.2.2.2.2.2.2.1, fun e => by obtain ⟨_, ho_⟩ := Kd.R_own HF_11.out.2.2.2.1; obtain ⟨_, hc⟩ := own_typed ho_ _ e.symm; have := blk_lt hc; omega⟩
      have HF_12 := Aside0.mk (HF_11.out.alloc (.cells #[.string ⟨#[]⟩, .int .i64 0, .bool false, .int .i64 0, .int .i64 0, .int .i64 0, .bool false, .bool false] 123))
      refine nm_ hK ((blk_cell HF_12.out.2.2.1 0).trans rfl) fun hHeld => ?_
      clear hK K
      refine on_ 6 (some 9) (fl 12 1279) fun K hK => ?_
      refine go_ Try.func46 #[.agg #[.pointer (some ⟨g, 0, none⟩)]] ?_
      refine (wire_reader_many.truth _ g base xs _ _ HF_12.out.1).mono ?_
      rw [HT3.out]
      rintro e W23 ⟨rfl, hr, hg⟩
      have HF_13 := Aside0.mk (HF_12.out.move hr hg)
      try (have HN_ := Aside0.mk (blk_grown HN.out hg qo); clear HN; have HN := HN_; clear HN_)
      clear hr hg
      refine nx_ hK ((blk_cell HF_13.out.2.2.1 0).trans rfl) fun hHeld => ?_
      clear hK K
      refine on_ 8 (some 11) (fl 12 1535) fun K hK => ?_
      refine go_ Try.func44 #[.agg #[.pointer (some ⟨g, 0, none⟩)]] ?_
      refine (wire_reader_head.head _ g base xs _ _ HF_13.out.1).mono ?_
      rw [HT4.out]
      rintro e W24 ⟨rfl, hr, hg⟩
      have HF_14 := Aside0.mk (HF_13.out.move hr hg)
      try (have HN_ := Aside0.mk (blk_grown HN.out hg qo); clear HN; have HN := HN_; clear HN_)
      clear hr hg
      refine nx_ hK ((blk_cell HF_14.out.2.2.1 0).trans rfl) fun hHeld => ?_
      clear hK K
      refine pu_ 9 12 (fl 12 2047) ?_
      refine norm_ ?_ (HC _ _ ⟨HF_14.out, HN.out, HNG.out⟩)
      simp only [putAll, Act.put, List.setIfInBounds_toArray, List.set_cons_zero, List.set_cons_succ]
    refine go_ Try.func46 #[.agg #[.pointer (some ⟨g, 0, none⟩)]] ?_
    refine (wire_reader_many.truth _ g base xs _ _ HF_11.out.1).mono ?_
    rw [HT3.out]
    rintro e W23 ⟨rfl, hr, hg⟩
    have HF_15 := Aside0.mk (HF_11.out.move hr hg)
    try (have HN_ := Aside0.mk (blk_grown HN.out hg qo); clear HN; have HN := HN_; clear HN_)
    clear hr hg
    refine nx_ hK ((blk_cell HF_15.out.2.2.1 0).trans rfl) fun hHeld => ?_
    clear hK K
    refine two_ (i := 8) (j := 10) (Ni := some 11) (Nj := some 2) (fl 12 511) (fl 12 1279) rfl rfl rfl rfl (two_of HT_.out (by kernel_rfl)) (by decide) (by decide) (fun K hK => ?_) (fun K hK => ?_)
    rotate_left
    · skip
      refine Go.Proofs.Ytmdgdndidfcapaa.Str.ev_ (v := .pointer (some ⟨W23.heap.size, 0, none⟩)) (w1 := W23.alloc (.cells #[.string ⟨#[]⟩, .int .i64 0, .bool false, .int .i64 0, .int .i64 0, .int .i64 0, .bool false, .bool false] 123)) (by rfl) rfl qq ?_
      have HN := Aside0.mk (blk_new W23 (.cells #[.string ⟨#[]⟩, .int .i64 0, .bool false, .int .i64 0, .int .i64 0, .int .i64 0, .bool false, .bool false] 123))
      have HNG : Aside0 (g < W23.heap.size ∧ b0 ≤ W23.heap.size ∧ some W23.heap.size ≠ v.ownBlock) := ⟨(Rd.Rdr.lt HF_15.out.1).2, HF_15.out.2.2.2.2.2.2.1, fun e => by obtain ⟨_, ho_⟩ := Kd.R_own HF_15.out.2.2.2.1; obtain ⟨_, hc⟩ := own_typed ho_ _ e.symm; have := blk_lt hc; omega⟩
      have HF_16 := Aside0.mk (HF_15.out.alloc (.cells #[.string ⟨#[]⟩, .int .i64 0, .bool false, .int .i64 0, .int .i64 0, .int .i64 0, .bool false, .bool false] 123))
      refine nm_ hK ((blk_cell HF_16.out.2.2.1 0).trans rfl) fun hHeld => ?_
      clear hK K
      refine on_ 8 (some 11) (fl 12 1535) fun K hK => ?_
      refine go_ Try.func44 #[.agg #[.pointer (some ⟨g, 0, none⟩)]] ?_
      refine (wire_reader_head.head _ g base xs _ _ HF_16.out.1).mono ?_
      rw [HT4.out]
      rintro e W24 ⟨rfl, hr, hg⟩
      have HF_17 := Aside0.mk (HF_16.out.move hr hg)
      try (have HN_ := Aside0.mk (blk_grown HN.out hg qo); clear HN; have HN := HN_; clear HN_)
      clear hr hg
      refine nx_ hK ((blk_cell HF_17.out.2.2.1 0).trans rfl) fun hHeld => ?_
      clear hK K
      refine pu_ 9 12 (fl 12 2047) ?_
      refine norm_ ?_ (HC _ _ ⟨HF_17.out, HN.out, HNG.out⟩)
      simp only [putAll, Act.put, List.setIfInBounds_toArray, List.set_cons_zero, List.set_cons_succ]
    refine go_ Try.func44 #[.agg #[.pointer (some ⟨g, 0, none⟩)]] ?_
    refine (wire_reader_head.head _ g base xs _ _ HF_15.out.1).mono ?_
    rw [HT4.out]
    rintro e W24 ⟨rfl, hr, hg⟩
    have HF_18 := Aside0.mk (HF_15.out.move hr hg)
    try (have HN_ := Aside0.mk (blk_grown HN.out hg qo); clear HN; have HN := HN_; clear HN_)
    clear hr hg
    refine nx_ hK ((blk_cell HF_18.out.2.2.1 0).trans rfl) fun hHeld => ?_
    clear hK K
    refine pu_ 9 12 (fl 12 1023) ?_
    refine on_ 10 (some 2) (fl 12 2047) fun K hK => ?_
    refine Go.Proofs.Ytmdgdndidfcapaa.Str.ev_ (v := .pointer (some ⟨W24.heap.size, 0, none⟩)) (w1 := W24.alloc (.cells #[.string ⟨#[]⟩, .int .i64 0, .bool false, .int .i64 0, .int .i64 0, .int .i64 0, .bool false, .bool false] 123)) (by rfl) rfl qq ?_
    have HN := Aside0.mk (blk_new W24 (.cells #[.string ⟨#[]⟩, .int .i64 0, .bool false, .int .i64 0, .int .i64 0, .int .i64 0, .bool false, .bool false] 123))
    have HNG : Aside0 (g < W24.heap.size ∧ b0 ≤ W24.heap.size ∧ some W24.heap.size ≠ v.ownBlock) := ⟨(Rd.Rdr.lt HF_18.out.1).2, HF_18.out.2.2.2.2.2.2.1, fun e => by obtain ⟨_, ho_⟩ := Kd.R_own HF_18.out.2.2.2.1; obtain ⟨_, hc⟩ := own_typed ho_ _ e.symm; have := blk_lt hc; omega⟩
    have HF_19 := Aside0.mk (HF_18.out.alloc (.cells #[.string ⟨#[]⟩, .int .i64 0, .bool false, .int .i64 0, .int .i64 0, .int .i64 0, .bool false, .bool false] 123))
    refine nm_ hK ((blk_cell HF_19.out.2.2.1 0).trans rfl) fun hHeld => ?_
    clear hK K
    refine norm_ ?_ (HC _ _ ⟨HF_19.out, HN.out, HNG.out⟩)
    simp only [putAll, Act.put, List.setIfInBounds_toArray, List.set_cons_zero, List.set_cons_succ]
  case cont =>
    rintro bn w2 ⟨hF, hN, hgn⟩
    clear HF hHeld
    have HF2 := Aside0.mk hF
    have HN2 := Aside0.mk hN
    have HGN := Aside0.mk hgn
    clear hF hN hgn
    simp only [putAll, Act.put, List.setIfInBounds_toArray, List.set_cons_zero, List.set_cons_succ]
    refine la_ 11 none (fl 12 4095) fun K hK => ?_
    refine skip_ (w1 := ((((((((w2.setCell ⟨bn, 0, none⟩ (.string (strOfNums t1.1))).setCell ⟨bn, 1, none⟩ (.int .i64 t2.1)).setCell ⟨bn, 2, none⟩ (.bool b3)).setCell ⟨bn, 3, none⟩ (.int .i64 t4.1.1)).setCell ⟨bn, 4, none⟩ (.int .i64 t4.1.2.1)).setCell ⟨bn, 5, none⟩ (.int .i64 t4.1.2.2.1)).setCell ⟨bn, 6, none⟩ (.bool t4.1.2.2.2.1)).setCell ⟨bn, 7, none⟩ (.bool t4.1.2.2.2.2))) (by rfl) rfl ?hrun ?_
    case hrun =>
      have z0 : w2.cell? ⟨bn, 0, none⟩ = some (.string ⟨#[]⟩) := (blk_cell HN2.out 0).trans rfl
      have f0 := blk_frozen HN2.out 0
      have z1 : w2.cell? ⟨bn, 1, none⟩ = some (.int .i64 0) := (blk_cell HN2.out 1).trans rfl
      have f1 := blk_frozen HN2.out 1
      have z2 : w2.cell? ⟨bn, 2, none⟩ = some (.bool false) := (blk_cell HN2.out 2).trans rfl
      have f2 := blk_frozen HN2.out 2
      have z3 : w2.cell? ⟨bn, 3, none⟩ = some (.int .i64 0) := (blk_cell HN2.out 3).trans rfl
      have f3 := blk_frozen HN2.out 3
      have z4 : w2.cell? ⟨bn, 4, none⟩ = some (.int .i64 0) := (blk_cell HN2.out 4).trans rfl
      have f4 := blk_frozen HN2.out 4
      have z5 : w2.cell? ⟨bn, 5, none⟩ = some (.int .i64 0) := (blk_cell HN2.out 5).trans rfl
      have f5 := blk_frozen HN2.out 5
      have z6 : w2.cell? ⟨bn, 6, none⟩ = some (.bool false) := (blk_cell HN2.out 6).trans rfl
      have f6 := blk_frozen HN2.out 6
      have z7 : w2.cell? ⟨bn, 7, none⟩ = some (.bool false) := (blk_cell HN2.out 7).trans rfl
      have f7 := blk_frozen HN2.out 7
      first | (go_simp; done) | (go_simp; rfl)
    have hz0 : (w2.setCell ⟨bn, 0, none⟩ (.string (strOfNums t1.1))).heap[bn]? = some (.cells #[.string (strOfNums t1.1), .int .i64 0, .bool false, .int .i64 0, .int .i64 0, .int .i64 0, .bool false, .bool false] 123 (0, 0)) := (blk_set HN2.out 0 (.string (strOfNums t1.1))).trans rfl
    have hz1 : ((w2.setCell ⟨bn, 0, none⟩ (.string (strOfNums t1.1))).setCell ⟨bn, 1, none⟩ (.int .i64 t2.1)).heap[bn]? = some (.cells #[.string (strOfNums t1.1), .int .i64 t2.1, .bool false, .int .i64 0, .int .i64 0, .int .i64 0, .bool false, .bool false] 123 (0, 0)) := (blk_set hz0 1 (.int .i64 t2.1)).trans rfl
    have hz2 : (((w2.setCell ⟨bn, 0, none⟩ (.string (strOfNums t1.1))).setCell ⟨bn, 1, none⟩ (.int .i64 t2.1)).setCell ⟨bn, 2, none⟩ (.bool b3)).heap[bn]? = some (.cells #[.string (strOfNums t1.1), .int .i64 t2.1, .bool b3, .int .i64 0, .int .i64 0, .int .i64 0, .bool false, .bool false] 123 (0, 0)) := (blk_set hz1 2 (.bool b3)).trans rfl
    have hz3 : ((((w2.setCell ⟨bn, 0, none⟩ (.string (strOfNums t1.1))).setCell ⟨bn, 1, none⟩ (.int .i64 t2.1)).setCell ⟨bn, 2, none⟩ (.bool b3)).setCell ⟨bn, 3, none⟩ (.int .i64 t4.1.1)).heap[bn]? = some (.cells #[.string (strOfNums t1.1), .int .i64 t2.1, .bool b3, .int .i64 t4.1.1, .int .i64 0, .int .i64 0, .bool false, .bool false] 123 (0, 0)) := (blk_set hz2 3 (.int .i64 t4.1.1)).trans rfl
    have hz4 : (((((w2.setCell ⟨bn, 0, none⟩ (.string (strOfNums t1.1))).setCell ⟨bn, 1, none⟩ (.int .i64 t2.1)).setCell ⟨bn, 2, none⟩ (.bool b3)).setCell ⟨bn, 3, none⟩ (.int .i64 t4.1.1)).setCell ⟨bn, 4, none⟩ (.int .i64 t4.1.2.1)).heap[bn]? = some (.cells #[.string (strOfNums t1.1), .int .i64 t2.1, .bool b3, .int .i64 t4.1.1, .int .i64 t4.1.2.1, .int .i64 0, .bool false, .bool false] 123 (0, 0)) := (blk_set hz3 4 (.int .i64 t4.1.2.1)).trans rfl
    have hz5 : ((((((w2.setCell ⟨bn, 0, none⟩ (.string (strOfNums t1.1))).setCell ⟨bn, 1, none⟩ (.int .i64 t2.1)).setCell ⟨bn, 2, none⟩ (.bool b3)).setCell ⟨bn, 3, none⟩ (.int .i64 t4.1.1)).setCell ⟨bn, 4, none⟩ (.int .i64 t4.1.2.1)).setCell ⟨bn, 5, none⟩ (.int .i64 t4.1.2.2.1)).heap[bn]? = some (.cells #[.string (strOfNums t1.1), .int .i64 t2.1, .bool b3, .int .i64 t4.1.1, .int .i64 t4.1.2.1, .int .i64 t4.1.2.2.1, .bool false, .bool false] 123 (0, 0)) := (blk_set hz4 5 (.int .i64 t4.1.2.2.1)).trans rfl
    have hz6 : (((((((w2.setCell ⟨bn, 0, none⟩ (.string (strOfNums t1.1))).setCell ⟨bn, 1, none⟩ (.int .i64 t2.1)).setCell ⟨bn, 2, none⟩ (.bool b3)).setCell ⟨bn, 3, none⟩ (.int .i64 t4.1.1)).setCell ⟨bn, 4, none⟩ (.int .i64 t4.1.2.1)).setCell ⟨bn, 5, none⟩ (.int .i64 t4.1.2.2.1)).setCell ⟨bn, 6, none⟩ (.bool t4.1.2.2.2.1)).heap[bn]? = some (.cells #[.string (strOfNums t1.1), .int .i64 t2.1, .bool b3, .int .i64 t4.1.1, .int .i64 t4.1.2.1, .int .i64 t4.1.2.2.1, .bool t4.1.2.2.2.1, .bool false] 123 (0, 0)) := (blk_set hz5 6 (.bool t4.1.2.2.2.1)).trans rfl
    have hz7 : ((((((((w2.setCell ⟨bn, 0, none⟩ (.string (strOfNums t1.1))).setCell ⟨bn, 1, none⟩ (.int .i64 t2.1)).setCell ⟨bn, 2, none⟩ (.bool b3)).setCell ⟨bn, 3, none⟩ (.int .i64 t4.1.1)).setCell ⟨bn, 4, none⟩ (.int .i64 t4.1.2.1)).setCell ⟨bn, 5, none⟩ (.int .i64 t4.1.2.2.1)).setCell ⟨bn, 6, none⟩ (.bool t4.1.2.2.2.1)).setCell ⟨bn, 7, none⟩ (.bool t4.1.2.2.2.2)).heap[bn]? = some (.cells #[.string (strOfNums t1.1), .int .i64 t2.1, .bool b3, .int .i64 t4.1.1, .int .i64 t4.1.2.1, .int .i64 t4.1.2.2.1, .bool t4.1.2.2.2.1, .bool t4.1.2.2.2.2] 123 (0, 0)) := (blk_set hz6 7 (.bool t4.1.2.2.2.2)).trans rfl
    have hgs := grown_tr (grown_tr (grown_tr (grown_tr (grown_tr (grown_tr (grown_tr (grown_setCell w2 bn 0 (.string (strOfNums t1.1))) (grown_setCell _ bn 1 (.int .i64 t2.1))) (grown_setCell _ bn 2 (.bool b3))) (grown_setCell _ bn 3 (.int .i64 t4.1.1))) (grown_setCell _ bn 4 (.int .i64 t4.1.2.1))) (grown_setCell _ bn 5 (.int .i64 t4.1.2.2.1))) (grown_setCell _ bn 6 (.bool t4.1.2.2.2.1))) (grown_setCell _ bn 7 (.bool t4.1.2.2.2.2))
    have HN3 := Aside0.mk hz7
    clear hz0 hz1 hz2 hz3 hz4 hz5 hz6 hz7
    have HF3 := Aside0.mk (LnF.put HF2.out hgs HN2.out HGN.out)
    clear hgs HF2 HN2
    generalize ((((((((w2.setCell ⟨bn, 0, none⟩ (.string (strOfNums t1.1))).setCell ⟨bn, 1, none⟩ (.int .i64 t2.1)).setCell ⟨bn, 2, none⟩ (.bool b3)).setCell ⟨bn, 3, none⟩ (.int .i64 t4.1.1)).setCell ⟨bn, 4, none⟩ (.int .i64 t4.1.2.1)).setCell ⟨bn, 5, none⟩ (.int .i64 t4.1.2.2.1)).setCell ⟨bn, 6, none⟩ (.bool t4.1.2.2.2.1)).setCell ⟨bn, 7, none⟩ (.bool t4.1.2.2.2.2)) = w3 at HN3 HF3 ⊢
    refine hK.out _ _ ?_
    clear hK K
    refine dn_ ?_
    have c0 : w3.cell? ⟨bx, 0, none⟩ = some v := (blk_cell HF3.out.2.1 0).trans rfl
    have z0 : w3.cell? ⟨bn, 0, none⟩ = some (.string (strOfNums t1.1)) := (blk_cell HN3.out 0).trans rfl
    have z1 : w3.cell? ⟨bn, 1, none⟩ = some (.int .i64 t2.1) := (blk_cell HN3.out 1).trans rfl
    have z2 : w3.cell? ⟨bn, 2, none⟩ = some (.bool b3) := (blk_cell HN3.out 2).trans rfl
    have z3 : w3.cell? ⟨bn, 3, none⟩ = some (.int .i64 t4.1.1) := (blk_cell HN3.out 3).trans rfl
    have z4 : w3.cell? ⟨bn, 4, none⟩ = some (.int .i64 t4.1.2.1) := (blk_cell HN3.out 4).trans rfl
    have z5 : w3.cell? ⟨bn, 5, none⟩ = some (.int .i64 t4.1.2.2.1) := (blk_cell HN3.out 5).trans rfl
    have z6 : w3.cell? ⟨bn, 6, none⟩ = some (.bool t4.1.2.2.2.1) := (blk_cell HN3.out 6).trans rfl
    have z7 : w3.cell? ⟨bn, 7, none⟩ = some (.bool t4.1.2.2.2.2) := (blk_cell HN3.out 7).trans rfl
    have c1 := blk_frozen HF3.out.2.1 0
    go_wp2_with ((with_reducible refine gate_builtin (b := .append) (xs := #[.tmp 14, .tmp 16]) rfl ?_); at_builtin; refine Kd.R_append k123 (w0 := w3) b0 rfl (.tmp 14) (.tmp 16) 48 123 (.agg #[.string ⟨#[]⟩, .int .i64 0, .bool false, .int .i64 0, .int .i64 0, .int .i64 0, .bool false, .bool false]) 64 rfl Try.underlying48 wire_reader_lines_1.info123 rfl (by decide) (by omega) v l (⟨strOfNums t1.1, t2.1, b3, ⟨t4.1.1, ⟨t4.1.2.1, t4.1.2.2.1⟩, t4.1.2.2.2.1, t4.1.2.2.2.2⟩⟩ : S123) [.string (strOfNums t1.1), .int .i64 t2.1, .bool b3, .int .i64 t4.1.1, .int .i64 t4.1.2.1, .int .i64 t4.1.2.2.1, .bool t4.1.2.2.2.1, .bool t4.1.2.2.2.2] (fun _ => True) (fun _ => False) rfl rfl (k123_mkM _ _ _ _) (fun _ hk => hk.elim) (fun _ _ => trivial) HF3.out.2.2.2.1 (Below.refl _ _) HF3.out.2.2.2.2.2.2.1 (by omega) ?_; intro v4 w4 ho4 hb4 hg4 hat4; obtain ⟨A4, c4, e4⟩ := Kd.R_slice ho4; subst e4; have HF4 := Aside0.mk (HF3.out.app ho4 hg4); have d0 := (blk_cell HF4.out.1 0).trans rfl; have d1 := blk_frozen HF4.out.1 0)
    exact bodyPost_end (v := .tuple #[]) (by simp [results, Try.results92, go_sem]) rfl ⟨rfl, by have h := lnEx HST.out HF4.out.2; simp only [List.length_append, List.length_cons, List.length_nil, Nat.zero_add] at h; exact h⟩
/-- What lines gathers, by rounds. -/
def LnJ (W0 : World) (g gb bx b0 : Nat) (j : Nat) (W : World) (l : List S123) : Prop := ∃ v, W.heap[bx]? = some (.cells #[v, .string ⟨#[]⟩, .int .i64 0, .bool false] 50 (0, 0)) ∧ W.heap[gb]? = some (.cells #[.pointer (some ⟨g, 0, none⟩)] 75 (0, 0)) ∧ Kd.R k123 123 W b0 (fun _ => True) v l ∧ W0.grownBy W (some g) ∧ l.length ≤ j
theorem lnStep_len (xs : List Int) (l : List S123) (p err : Int) : (lnStep xs l p err).1.length = l.length + 1 := by simp [lnStep]
theorem wire_reader_lines_1.oneJ (W0 : World) (g base gb bx b0 : Nat) (xs : List Int) (hlow : g < gb ∧ g < bx ∧ g < b0 ∧ W0.heap.size ≤ bx ∧ W0.heap.size ≤ b0) (j : Nat) (W : World) (l : List S123) (p : Int) (hj : j < 100000) (hb0 : b0 ≤ W.heap.size) (hR : Rd.Rdr W g base xs p 0) (hJ : LnJ W0 g gb bx b0 j W l) :
    Calls Try.prog 92 #[.pointer (some ⟨gb, 0, none⟩), .pointer (some ⟨bx, 0, none⟩)] W fun e w' => ManyPost (LnJ W0 g gb bx b0 (j + 1)) g base xs (lnStep xs l p 0) e w' ∧ Stay75 W w' := by
  obtain ⟨v, hX, hK, hO, hG, hl⟩ := hJ
  refine (wire_reader_lines_1.one W0 W g base gb bx b0 xs v l p ⟨hR, hX, hK, hO, hG, fun _ _ h => h, hb0, hlow⟩ (by omega)).mono ?_
  rintro e w' ⟨he, v', h1, h2, h3, h4, h5, h6, h7, h8⟩
  exact ⟨⟨he, h1, v', h2, h3, h4, h5, by rw [lnStep_len]; omega⟩, h6⟩
theorem LnJ_grown {W0 : World} {g gb bx b0 : Nat} (hlow : g < gb ∧ g < bx ∧ g < b0) (j : Nat) (W : World) (l : List S123) (w' : World) (h : LnJ W0 g gb bx b0 j W l ∧ b0 ≤ W.heap.size) (hg : W.grownBy w' (some g)) : LnJ W0 g gb bx b0 j w' l ∧ b0 ≤ w'.heap.size := by
  obtain ⟨⟨v, hX, hK, hO, hG, hl⟩, hb⟩ := h
  exact ⟨⟨v, blk_grown hX hg qn, blk_grown hK hg qn, Kd.R_grown2 hO rfl hg (fun k hk e => by injection hk with hk; obtain ⟨_, ho⟩ := Kd.R_own hO; have := own_base ho k e.symm; omega), grown_tr hG hg, hl⟩, Nat.le_trans hb hg.size⟩
def linesRow (xs : List Int) (p err : Int) : List S123 × Int × Int := manyF (lnStep xs) (Rd.takeF xs p err 2).1.toNat [] (Rd.takeF xs p err 2).2.1 (Rd.takeF xs p err 2).2.2
theorem wire_reader_lines_1.mk_many (W : World) (g base : Nat) (xs : List Int) (p err : Int) (hR : Rd.Rdr (((W.alloc (.cells #[.pointer (some ⟨g, 0, none⟩)] 75)).alloc (.cells #[.slice none 0 0, .string ⟨#[]⟩, .int .i64 0, .bool false] 50)).alloc (.cells #[.slice none 0 0, .string ⟨#[]⟩, .int .i64 0, .bool false] 50)) g base xs p err) (hlt : base ≤ g ∧ g < W.heap.size) (hJ : LnJ ((W.alloc (.cells #[.pointer (some ⟨g, 0, none⟩)] 75)).alloc (.cells #[.slice none 0 0, .string ⟨#[]⟩, .int .i64 0, .bool false] 50)) g W.heap.size (W.heap.size + 2) (W.heap.size + 3) 0 (((W.alloc (.cells #[.pointer (some ⟨g, 0, none⟩)] 75)).alloc (.cells #[.slice none 0 0, .string ⟨#[]⟩, .int .i64 0, .bool false] 50)).alloc (.cells #[.slice none 0 0, .string ⟨#[]⟩, .int .i64 0, .bool false] 50)) [] ∧ W.heap.size + 3 ≤ (((W.alloc (.cells #[.pointer (some ⟨g, 0, none⟩)] 75)).alloc (.cells #[.slice none 0 0, .string ⟨#[]⟩, .int .i64 0, .bool false] 50)).alloc (.cells #[.slice none 0 0, .string ⟨#[]⟩, .int .i64 0, .bool false] 50)).heap.size) :
    Calls Try.prog 48 #[.agg #[.pointer (some ⟨g, 0, none⟩)], .func (.func 92) #[] #[.pointer (some ⟨W.heap.size, 0, none⟩), .pointer (some ⟨W.heap.size + 2, 0, none⟩)]] (((W.alloc (.cells #[.pointer (some ⟨g, 0, none⟩)] 75)).alloc (.cells #[.slice none 0 0, .string ⟨#[]⟩, .int .i64 0, .bool false] 50)).alloc (.cells #[.slice none 0 0, .string ⟨#[]⟩, .int .i64 0, .bool false] 50)) fun e w' => ManyPost (Some1 (fun j W' l => LnJ ((W.alloc (.cells #[.pointer (some ⟨g, 0, none⟩)] 75)).alloc (.cells #[.slice none 0 0, .string ⟨#[]⟩, .int .i64 0, .bool false] 50)) g W.heap.size (W.heap.size + 2) (W.heap.size + 3) j W' l ∧ W.heap.size + 3 ≤ W'.heap.size)) g base xs (linesRow xs p err) e w' := by
  have hs2 : ((W.alloc (.cells #[.pointer (some ⟨g, 0, none⟩)] 75)).alloc (.cells #[.slice none 0 0, .string ⟨#[]⟩, .int .i64 0, .bool false] 50)).heap.size = W.heap.size + 2 := by simp
  refine wire_reader_many.many (fun j W' l => LnJ ((W.alloc (.cells #[.pointer (some ⟨g, 0, none⟩)] 75)).alloc (.cells #[.slice none 0 0, .string ⟨#[]⟩, .int .i64 0, .bool false] 50)) g W.heap.size (W.heap.size + 2) (W.heap.size + 3) j W' l ∧ W.heap.size + 3 ≤ W'.heap.size) g base xs (fun j W' l w' h hg => LnJ_grown ⟨by omega, by omega, by omega⟩ j W' l w' h hg) (lnStep xs) 92 _ (enters_of Try.func92 (by kernel_rfl) rfl) (fun j W' l p1 hj hR1 hJ1 => ?_) _ [] p err hR hJ
  refine (wire_reader_lines_1.oneJ ((W.alloc (.cells #[.pointer (some ⟨g, 0, none⟩)] 75)).alloc (.cells #[.slice none 0 0, .string ⟨#[]⟩, .int .i64 0, .bool false] 50)) g base W.heap.size (W.heap.size + 2) (W.heap.size + 3) xs ⟨by omega, by omega, by omega, by omega, by omega⟩ j W' l p1 hj hJ1.2 hR1 hJ1.1).mono ?_
  rintro e w' ⟨⟨he, h1, h2⟩, h3⟩
  refine ⟨⟨he, h1, h2, ?_⟩, h3⟩
  obtain ⟨v, hX, hK, hO, hG, hl⟩ := h2
  have := hG.size
  have := blk_lt hX
  omega
def wire_reader_lines.T3 : Bool × List (List Nat × List Nat) := (true, [([], []), ([0], [0]), ([], []), ([2], [2]), ([3, 1], [3]), ([], []), ([5, 4], [5]), ([0, 1], []), ([7, 1, 6, 0, 1], [1, 7]), ([0, 1, 2, 3, 4, 7, 8], []), ([9, 4, 8, 0, 1, 2, 3, 4, 7, 8], [4, 9]), ([0, 1, 2, 3, 4, 5, 6, 7, 8, 9, 10], []), ([11, 6, 10, 0, 1, 2, 3, 4, 5, 6, 7, 8, 9, 10], [6, 11])])
def wire_reader_lines.B3 : List Nat := [0, 1, 0, 4, 15, 0, 63, 3, 255, 511, 1023, 2047, 4095]
theorem wire_reader_lines.tab3 : rtab .any (opsOf Try.f47 3) = wire_reader_lines.T3 := by kernel_rfl
theorem wire_reader_lines.bits3 : waitsOk wire_reader_lines.T3.2 wire_reader_lines.B3 = true := by kernel_rfl
/-- Lines being filled in. -/
def LnE (W w : World) (g base gb bx rb b0 : Nat) (xs : List Int) (v : Value) (cs : Array Value) (l : List S123) (p err : Int) : Prop := Rd.Rdr w g base xs p err ∧ w.heap[bx]? = some (.cells cs 50 (0, 0)) ∧ w.heap[gb]? = some (.cells #[.pointer (some ⟨g, 0, none⟩)] 75 (0, 0)) ∧ w.heap[rb]? = some (.cells #[.slice none 0 0, .string ⟨#[]⟩, .int .i64 0, .bool false] 50 (0, 0)) ∧ Kd.R k123 123 w b0 (fun _ => True) v l ∧ W.grownBy w (some g) ∧ (g < gb ∧ g < bx ∧ g < rb ∧ g < b0 ∧ bx ≠ rb ∧ W.heap.size ≤ bx ∧ W.heap.size ≤ rb)
theorem LnE.move {W w w2 : World} {g base gb bx rb b0 : Nat} {xs : List Int} {v : Value} {cs : Array Value} {l : List S123} {p err p2 err2 : Int} (h : LnE W w g base gb bx rb b0 xs v cs l p err) (hr : Rd.Rdr w2 g base xs p2 err2) (hg : w.grownBy w2 (some g)) : LnE W w2 g base gb bx rb b0 xs v cs l p2 err2 := by
  obtain ⟨hR, hX, hK, hB, hO, hG, hl⟩ := h
  exact ⟨hr, blk_grown hX hg qn, blk_grown hK hg qn, blk_grown hB hg qn, Kd.R_grown2 hO rfl hg (fun k hk e => by injection hk with hk; obtain ⟨_, ho⟩ := Kd.R_own hO; have := own_base ho k e.symm; omega), grown_tr hG hg, hl⟩
theorem LnE.set {W w : World} {g base gb bx rb b0 : Nat} {xs : List Int} {v : Value} {cs cs2 : Array Value} {l : List S123} {p err : Int} (h : LnE W w g base gb bx rb b0 xs v cs l p err) (i : Nat) (x : Value) (he : some (Obj.cells (cs.set! i x) 50 (0, 0)) = some (Obj.cells cs2 50 (0, 0))) : LnE W (w.setCell ⟨bx, i, none⟩ x) g base gb bx rb b0 xs v cs2 l p err := by
  obtain ⟨hR, hX, hK, hB, hO, hG, hl⟩ := h
  have hgs := grown_setCell w bx i x
  exact ⟨hR.keep (fun k hk => hgs.block k (by have := hR.lt; omega) qn), (blk_set hX i x).trans he, blk_grown hK hgs (by intro e; injection e with e; subst e; rw [hX] at hK; injection hK with hK; injection hK with _ hK; exact absurd hK (by decide)), blk_grown hB hgs qn, Kd.R_grown2 hO rfl hgs (fun k hk e => by injection hk with hk; rw [← hk] at e; exact (Kd.R_ne hO hX (by decide)) e), grown_new hG hgs (by omega), hl⟩
theorem LnE.fin {W w w2 : World} {g base gb bx rb b0 : Nat} {xs : List Int} {v : Value} {cs : Array Value} {l : List S123} {p err : Int} (h : LnE W w g base gb bx rb b0 xs v cs l p err) (hb : W.heap.size ≤ b0) (hg : w.grownBy w2 (some rb)) : Rd.Rdr w2 g base xs p err ∧ Kd.R k123 123 w2 W.heap.size (fun _ => True) v l ∧ W.grownBy w2 (some g) := by
  obtain ⟨hR, hX, hK, hB, hO, hG, hl⟩ := h
  exact ⟨hR.keep (fun k hk => hg.block k (by have := hR.lt; omega) qn), Kd.R_lower (Kd.R_grown2 hO rfl hg (fun k hk e => by injection hk with hk; rw [← hk] at e; exact (Kd.R_ne hO hB (by decide)) e)) hb, grown_new hG hg (by omega)⟩
def linesF (xs : List Int) (p err : Int) : (List S123 × ByteArray × Int × Bool) × Int × Int :=
  let r := linesRow xs p err
  let t1 := Rd.textF xs r.2.1 r.2.2 1048576
  let t2 := Rd.takeF xs t1.2.1 t1.2.2 8
  let t3 := Rd.takeF xs t2.2.1 t2.2.2 1
  ((r.1, strOfNums t1.1, t2.1, t3.1 == 1), t3.2)
def RdLines (W : World) (g base : Nat) (xs : List Int) (r : (List S123 × ByteArray × Int × Bool) × Int × Int) (e : Ending) (w' : World) : Prop := ∃ v, e = .returned (.agg #[v, .string r.1.2.1, .int .i64 r.1.2.2.1, .bool r.1.2.2.2]) ∧ Rd.Rdr w' g base xs r.2.1 r.2.2 ∧ Kd.R k123 123 w' W.heap.size (fun _ => True) v r.1.1 ∧ W.grownBy w' (some g) ∧ r.1.1.length ≤ 100000
set_option maxHeartbeats 8000000 in
set_option maxRecDepth 100000 in
theorem wire_reader_lines.lines (W : World) (g base : Nat) (xs : List Int) (p err : Int) (hR : Rd.Rdr W g base xs p err) :
    Calls Try.prog 47 #[.agg #[.pointer (some ⟨g, 0, none⟩)]] W (RdLines W g base xs (linesF xs p err)) := by
  have HLT := Aside0.mk hR.lt
  have hs1 : (W.alloc (.cells #[.pointer (some ⟨g, 0, none⟩)] 75)).heap.size = W.heap.size + 1 := by simp
  have hs2 : ((W.alloc (.cells #[.pointer (some ⟨g, 0, none⟩)] 75)).alloc (.cells #[.slice none 0 0, .string ⟨#[]⟩, .int .i64 0, .bool false] 50)).heap.size = W.heap.size + 2 := by simp
  have hs3 : (((W.alloc (.cells #[.pointer (some ⟨g, 0, none⟩)] 75)).alloc (.cells #[.slice none 0 0, .string ⟨#[]⟩, .int .i64 0, .bool false] 50)).alloc (.cells #[.slice none 0 0, .string ⟨#[]⟩, .int .i64 0, .bool false] 50)).heap.size = W.heap.size + 3 := by simp
  have HK1 := Aside0.mk (blk_alloc (blk_alloc (blk_new W (.cells #[.pointer (some ⟨g, 0, none⟩)] 75)) (.cells #[.slice none 0 0, .string ⟨#[]⟩, .int .i64 0, .bool false] 50)) (.cells #[.slice none 0 0, .string ⟨#[]⟩, .int .i64 0, .bool false] 50))
  have HB1 := Aside0.mk (show ((W.alloc (.cells #[.pointer (some ⟨g, 0, none⟩)] 75)).alloc (.cells #[.slice none 0 0, .string ⟨#[]⟩, .int .i64 0, .bool false] 50)).heap[W.heap.size + 1]? = some (.cells #[.slice none 0 0, .string ⟨#[]⟩, .int .i64 0, .bool false] 50 (0, 0)) from by have h := blk_new (W.alloc (.cells #[.pointer (some ⟨g, 0, none⟩)] 75)) (.cells #[.slice none 0 0, .string ⟨#[]⟩, .int .i64 0, .bool false] 50); rw [hs1] at h; exact h)
  have HX1 := Aside0.mk (show (((W.alloc (.cells #[.pointer (some ⟨g, 0, none⟩)] 75)).alloc (.cells #[.slice none 0 0, .string ⟨#[]⟩, .int .i64 0, .bool false] 50)).alloc (.cells #[.slice none 0 0, .string ⟨#[]⟩, .int .i64 0, .bool false] 50)).heap[W.heap.size + 2]? = some (.cells #[.slice none 0 0, .string ⟨#[]⟩, .int .i64 0, .bool false] 50 (0, 0)) from by have h := blk_new ((W.alloc (.cells #[.pointer (some ⟨g, 0, none⟩)] 75)).alloc (.cells #[.slice none 0 0, .string ⟨#[]⟩, .int .i64 0, .bool false] 50)) (.cells #[.slice none 0 0, .string ⟨#[]⟩, .int .i64 0, .bool false] 50); rw [hs2] at h; exact h)
  have HR1 := Aside0.mk (show Rd.Rdr (((W.alloc (.cells #[.pointer (some ⟨g, 0, none⟩)] 75)).alloc (.cells #[.slice none 0 0, .string ⟨#[]⟩, .int .i64 0, .bool false] 50)).alloc (.cells #[.slice none 0 0, .string ⟨#[]⟩, .int .i64 0, .bool false] 50)) g base xs p err from Rd.Rdr.below (W := W) hR (below_alloc (below_alloc (below_alloc (Below.refl _ _) _) _) _))
  have HG0 := Aside0.mk (show W.grownBy ((W.alloc (.cells #[.pointer (some ⟨g, 0, none⟩)] 75)).alloc (.cells #[.slice none 0 0, .string ⟨#[]⟩, .int .i64 0, .bool false] 50)) (some g) from grown_of_below (below_alloc (below_alloc (Below.refl _ _) _) _) _)
  have HG1 := Aside0.mk (show ((W.alloc (.cells #[.pointer (some ⟨g, 0, none⟩)] 75)).alloc (.cells #[.slice none 0 0, .string ⟨#[]⟩, .int .i64 0, .bool false] 50)).grownBy (((W.alloc (.cells #[.pointer (some ⟨g, 0, none⟩)] 75)).alloc (.cells #[.slice none 0 0, .string ⟨#[]⟩, .int .i64 0, .bool false] 50)).alloc (.cells #[.slice none 0 0, .string ⟨#[]⟩, .int .i64 0, .bool false] 50)) (some g) from grown_of_below (below_alloc (Below.refl _ _) _) _)
  have HJ1 := Aside0.mk (show LnJ ((W.alloc (.cells #[.pointer (some ⟨g, 0, none⟩)] 75)).alloc (.cells #[.slice none 0 0, .string ⟨#[]⟩, .int .i64 0, .bool false] 50)) g W.heap.size (W.heap.size + 2) (W.heap.size + 3) 0 (((W.alloc (.cells #[.pointer (some ⟨g, 0, none⟩)] 75)).alloc (.cells #[.slice none 0 0, .string ⟨#[]⟩, .int .i64 0, .bool false] 50)).alloc (.cells #[.slice none 0 0, .string ⟨#[]⟩, .int .i64 0, .bool false] 50)) [] ∧ W.heap.size + 3 ≤ (((W.alloc (.cells #[.pointer (some ⟨g, 0, none⟩)] 75)).alloc (.cells #[.slice none 0 0, .string ⟨#[]⟩, .int .i64 0, .bool false] 50)).alloc (.cells #[.slice none 0 0, .string ⟨#[]⟩, .int .i64 0, .bool false] 50)).heap.size from ⟨⟨_, HX1.out, HK1.out, Kd.R_nil _ _ _ _ _, HG1.out, Nat.le_refl _⟩, by rw [hs3]; exact Nat.le_refl _⟩)
  have hM := wire_reader_lines_1.mk_many W g base xs p err HR1.out HLT.out HJ1.out
  have c0 : (((W.alloc (.cells #[.pointer (some ⟨g, 0, none⟩)] 75)).alloc (.cells #[.slice none 0 0, .string ⟨#[]⟩, .int .i64 0, .bool false] 50)).alloc (.cells #[.slice none 0 0, .string ⟨#[]⟩, .int .i64 0, .bool false] 50)).cell? ⟨W.heap.size, 0, none⟩ = some (.pointer (some ⟨g, 0, none⟩)) := (blk_cell HK1.out 0).trans rfl
  have HM := Aside0.mk hM
  have HS2 := Aside0.mk hs2
  clear hR hs1 hs2 hs3 HX1 HG1 HJ1 hM
  go_enter Try.func47, Try.ntmps47
  go_wp2_with fail
  refine HM.out.mono ?_
  rintro e w2 ⟨rfl, h1, j, hj, ⟨v, hX, hK, hO, hG, hl⟩, hb⟩
  have HL := Aside0.mk (show (linesRow xs p err).1.length ≤ 100000 by omega)
  obtain ⟨gb, hgb⟩ : ∃ gb, W.heap.size = gb := ⟨_, rfl⟩
  have hF : LnE W w2 g base gb (gb + 2) (gb + 1) (gb + 3) xs v #[v, .string ⟨#[]⟩, .int .i64 0, .bool false] (linesRow xs p err).1 (linesRow xs p err).2.1 (linesRow xs p err).2.2 := by
    have := HLT.out
    rw [hgb] at hX hK hO
    have hB := blk_grown HB1.out hG qn
    rw [hgb] at hB
    exact ⟨h1, hX, hK, hB, hO, grown_tr HG0.out hG, by omega, by omega, by omega, by omega, by omega, by omega, by omega⟩
  have HF : Aside0 (LnE W w2.drew g base gb (gb + 2) (gb + 1) (gb + 3) xs v #[v, .string ⟨#[]⟩, .int .i64 0, .bool false] (linesRow xs p err).1 (linesRow xs p err).2.1 (linesRow xs p err).2.2) := ⟨hF.move (Rd.Rdr.below (W := w2) hF.1 (below_drew1 (Below.refl _ _))) (grown_wide (grown_of_below (below_drew1 (Below.refl w2.heap.size w2)) none) (some g))⟩
  clear h1 hj hX hK hO hG hl hb c0 hF HK1 HB1 HR1 HG0 HM HS2
  obtain ⟨r, hr⟩ : ∃ r, linesRow xs p err = r := ⟨_, rfl⟩
  obtain ⟨t1, ht1⟩ : ∃ t, Rd.textF xs r.2.1 r.2.2 1048576 = t := ⟨_, rfl⟩
  obtain ⟨t2, ht2⟩ : ∃ t, Rd.takeF xs t1.2.1 t1.2.2 8 = t := ⟨_, rfl⟩
  obtain ⟨t3, ht3⟩ : ∃ t, Rd.takeF xs t2.2.1 t2.2.2 1 = t := ⟨_, rfl⟩
  obtain ⟨b3, hb3⟩ : ∃ b, (t3.1 == 1) = b := ⟨_, rfl⟩
  have HRES : Aside0 (linesF xs p err = ((r.1, strOfNums t1.1, t2.1, b3), t3.2)) := ⟨by unfold linesF; simp only [hr, ht1, ht2, ht3, hb3]⟩
  rw [hr] at HF HL
  have HT1 := Aside0.mk ht1
  have HT2 := Aside0.mk ht2
  have HT3 : Aside0 ((((Rd.takeF xs t2.2.1 t2.2.2 1).1 == 1, (Rd.takeF xs t2.2.1 t2.2.2 1).2) : Bool × Int × Int) = (b3, t3.2)) := ⟨by rw [ht3, hb3]⟩
  clear hr ht1 ht2 ht3 hb3
  obtain ⟨l, hl⟩ : ∃ l, r.1 = l := ⟨_, rfl⟩
  rw [hl] at HF HRES HL
  clear hl
  rw [hgb, show gb + 1 + 1 = gb + 2 from rfl]
  obtain ⟨bx, hbx⟩ : ∃ b, gb + 2 = b := ⟨_, rfl⟩
  obtain ⟨rb, hrb⟩ : ∃ b, gb + 1 = b := ⟨_, rfl⟩
  obtain ⟨b0, hb0⟩ : ∃ b, gb + 3 = b := ⟨_, rfl⟩
  have HB0 := Aside0.mk (show W.heap.size ≤ b0 by omega)
  rw [hbx, hrb] at HF ⊢
  rw [hb0] at HF
  clear hgb hbx hrb hb0
  go_wp2_with fail
  refine start_ (n := 13) (S := fun w' => w'.cell? ⟨gb, 0, none⟩ = some (.pointer (some ⟨g, 0, none⟩))) (ds := [12]) (fl 13 0) (by kernel_rfl) rfl rfl ((blk_cell HF.out.2.2.1 0).trans rfl) (fun hHeld => ?_)
  refine with_tabW wire_reader_lines.tab3 wire_reader_lines.bits3 (fun HT_ HW_ => ?_)
  generalize w2.drew = w3 at HF hHeld ⊢
  refine pu_ 2 9 (fl 13 4) ?_
  refine tk_1 0 7 (fl 13 5) hHeld ?_
  refine tk_1 3 10 (fl 13 13) hHeld ?_
  refine tk_1 5 12 (fl 13 45) hHeld ?_
  refine on_ 1 (some 8) (fl 13 47) fun K hK => ?_
  refine go_ Try.func42 #[.agg #[.pointer (some ⟨g, 0, none⟩)]] ?_
  refine (wire_reader_many.text _ g base xs _ _ HF.out.1).mono ?_
  rw [HT1.out]
  rintro e w21 ⟨rfl, hr, hg⟩
  have HF1 := Aside0.mk (HF.out.move hr hg)
  clear hr hg HF
  refine nx_ hK ((blk_cell HF1.out.2.2.1 0).trans rfl) fun hHeld => ?_
  clear hK K
  refine pu_ 7 14 (fl 13 175) ?_
  refine on_ 4 (some 11) (fl 13 191) fun K hK => ?_
  refine go_ Try.func41 #[.pointer (some ⟨g, 0, none⟩)] ?_
  refine (Rd.i64_any _ g base xs _ _ HF1.out.1).mono ?_
  rw [HT2.out]
  rintro e w22 ⟨rfl, hr, hg⟩
  have HF2 := Aside0.mk (HF1.out.move hr hg)
  clear hr hg HF1
  refine nx_ hK ((blk_cell HF2.out.2.2.1 0).trans rfl) fun hHeld => ?_
  clear hK K
  refine on_ 6 (some 13) (fl 13 255) fun K hK => ?_
  refine go_ Try.func46 #[.agg #[.pointer (some ⟨g, 0, none⟩)]] ?_
  refine (wire_reader_many.truth _ g base xs _ _ HF2.out.1).mono ?_
  rw [HT3.out]
  rintro e w23 ⟨rfl, hr, hg⟩
  have HF3 := Aside0.mk (HF2.out.move hr hg)
  clear hr hg HF2
  refine nx_ hK ((blk_cell HF3.out.2.2.1 0).trans rfl) fun hHeld => ?_
  clear hK K
  refine on_ 8 none (fl 13 511) fun K hK => ?_
  refine skip_ (w1 := w23.setCell ⟨bx, 1, none⟩ (.string (strOfNums t1.1))) (by rfl) rfl ?hrun ?_
  case hrun =>
    have c1 : w23.cell? ⟨bx, 1, none⟩ = some (.string ⟨#[]⟩) := (blk_cell HF3.out.2.1 1).trans rfl
    have f1 := blk_frozen HF3.out.2.1 1
    first | (go_simp; done) | (go_simp; rfl)
  have HF4 : Aside0 (LnE W (w23.setCell ⟨bx, 1, none⟩ (.string (strOfNums t1.1))) g base gb bx rb b0 xs v #[v, .string (strOfNums t1.1), .int .i64 0, .bool false] l t3.2.1 t3.2.2) := ⟨HF3.out.set 1 (.string (strOfNums t1.1)) rfl⟩
  clear HF3
  generalize w23.setCell ⟨bx, 1, none⟩ (.string (strOfNums t1.1)) = w24 at HF4 ⊢
  refine hK.out _ _ ((blk_cell HF4.out.2.2.1 0).trans rfl) (fun hHeld => ?_)
  clear hK K
  refine pu_ 9 15 (fl 13 1023) ?_
  refine on_ 10 none (fl 13 2047) fun K hK => ?_
  refine skip_ (w1 := w24.setCell ⟨bx, 2, none⟩ (.int .i64 t2.1)) (by rfl) rfl ?hrun ?_
  case hrun =>
    have c1 : w24.cell? ⟨bx, 2, none⟩ = some (.int .i64 0) := (blk_cell HF4.out.2.1 2).trans rfl
    have f1 := blk_frozen HF4.out.2.1 2
    first | (go_simp; done) | (go_simp; rfl)
  have HF5 : Aside0 (LnE W (w24.setCell ⟨bx, 2, none⟩ (.int .i64 t2.1)) g base gb bx rb b0 xs v #[v, .string (strOfNums t1.1), .int .i64 t2.1, .bool false] l t3.2.1 t3.2.2) := ⟨HF4.out.set 2 (.int .i64 t2.1) rfl⟩
  clear HF4
  generalize w24.setCell ⟨bx, 2, none⟩ (.int .i64 t2.1) = w25 at HF5 ⊢
  refine hK.out _ _ ((blk_cell HF5.out.2.2.1 0).trans rfl) (fun hHeld => ?_)
  clear hK K
  refine pu_ 11 16 (fl 13 4095) ?_
  refine la_ 12 none (fl 13 8191) fun K hK => ?_
  refine skip_ (w1 := w25.setCell ⟨bx, 3, none⟩ (.bool b3)) (by rfl) rfl ?hrun ?_
  case hrun =>
    have c1 : w25.cell? ⟨bx, 3, none⟩ = some (.bool false) := (blk_cell HF5.out.2.1 3).trans rfl
    have f1 := blk_frozen HF5.out.2.1 3
    first | (go_simp; done) | (go_simp; rfl)
  have HF6 : Aside0 (LnE W (w25.setCell ⟨bx, 3, none⟩ (.bool b3)) g base gb bx rb b0 xs v #[v, .string (strOfNums t1.1), .int .i64 t2.1, .bool b3] l t3.2.1 t3.2.2) := ⟨HF5.out.set 3 (.bool b3) rfl⟩
  clear HF5
  generalize w25.setCell ⟨bx, 3, none⟩ (.bool b3) = w26 at HF6 ⊢
  refine hK.out _ _ ?_
  clear hK K
  refine dn_ ?_
  have c0 : w26.cell? ⟨bx, 0, none⟩ = some v := (blk_cell HF6.out.2.1 0).trans rfl
  have c1 : w26.cell? ⟨bx, 1, none⟩ = some (.string (strOfNums t1.1)) := (blk_cell HF6.out.2.1 1).trans rfl
  have c2 : w26.cell? ⟨bx, 2, none⟩ = some (.int .i64 t2.1) := (blk_cell HF6.out.2.1 2).trans rfl
  have c3 : w26.cell? ⟨bx, 3, none⟩ = some (.bool b3) := (blk_cell HF6.out.2.1 3).trans rfl
  have z0 : w26.cell? ⟨rb, 0, none⟩ = some (.slice none 0 0) := (blk_cell HF6.out.2.2.2.1 0).trans rfl
  have z1 : w26.cell? ⟨rb, 1, none⟩ = some (.string ⟨#[]⟩) := (blk_cell HF6.out.2.2.2.1 1).trans rfl
  have z2 : w26.cell? ⟨rb, 2, none⟩ = some (.int .i64 0) := (blk_cell HF6.out.2.2.2.1 2).trans rfl
  have z3 : w26.cell? ⟨rb, 3, none⟩ = some (.bool false) := (blk_cell HF6.out.2.2.2.1 3).trans rfl
  have f0 := blk_frozen HF6.out.2.2.2.1 0
  have f1 := blk_frozen HF6.out.2.2.2.1 1
  have f2 := blk_frozen HF6.out.2.2.2.1 2
  have f3 := blk_frozen HF6.out.2.2.2.1 3
  obtain ⟨A4, c4, e4⟩ := Kd.R_slice HF6.out.2.2.2.2.1
  subst e4
  go_wp2
  clear c0 c1 c2 c3 z0 z1 z2 z3 f0 f1 f2 f3
  have hz0 : (w26.setCell ⟨rb, 0, none⟩ (.slice A4 l.length c4)).heap[rb]? = some (.cells #[.slice A4 l.length c4, .string ⟨#[]⟩, .int .i64 0, .bool false] 50 (0, 0)) := (blk_set HF6.out.2.2.2.1 0 (.slice A4 l.length c4)).trans rfl
  have hz1 : ((w26.setCell ⟨rb, 0, none⟩ (.slice A4 l.length c4)).setCell ⟨rb, 1, none⟩ (.string (strOfNums t1.1))).heap[rb]? = some (.cells #[.slice A4 l.length c4, .string (strOfNums t1.1), .int .i64 0, .bool false] 50 (0, 0)) := (blk_set hz0 1 (.string (strOfNums t1.1))).trans rfl
  have hz2 : (((w26.setCell ⟨rb, 0, none⟩ (.slice A4 l.length c4)).setCell ⟨rb, 1, none⟩ (.string (strOfNums t1.1))).setCell ⟨rb, 2, none⟩ (.int .i64 t2.1)).heap[rb]? = some (.cells #[.slice A4 l.length c4, .string (strOfNums t1.1), .int .i64 t2.1, .bool false] 50 (0, 0)) := (blk_set hz1 2 (.int .i64 t2.1)).trans rfl
  have hz3 : ((((w26.setCell ⟨rb, 0, none⟩ (.slice A4 l.length c4)).setCell ⟨rb, 1, none⟩ (.string (strOfNums t1.1))).setCell ⟨rb, 2, none⟩ (.int .i64 t2.1)).setCell ⟨rb, 3, none⟩ (.bool b3)).heap[rb]? = some (.cells #[.slice A4 l.length c4, .string (strOfNums t1.1), .int .i64 t2.1, .bool b3] 50 (0, 0)) := (blk_set hz2 3 (.bool b3)).trans rfl
  have hgs := grown_tr (grown_tr (grown_tr (grown_setCell w26 rb 0 (.slice A4 l.length c4)) (grown_setCell _ rb 1 (.string (strOfNums t1.1)))) (grown_setCell _ rb 2 (.int .i64 t2.1))) (grown_setCell _ rb 3 (.bool b3))
  have HZ := Aside0.mk hz3
  have HPOST := Aside0.mk (LnE.fin HF6.out HB0.out hgs)
  clear hz0 hz1 hz2 hz3 hgs HF6
  have hgen : ∃ w5, ((((w26.setCell ⟨rb, 0, none⟩ (.slice A4 l.length c4)).setCell ⟨rb, 1, none⟩ (.string (strOfNums t1.1))).setCell ⟨rb, 2, none⟩ (.int .i64 t2.1)).setCell ⟨rb, 3, none⟩ (.bool b3)) = w5 := ⟨_, rfl⟩
  obtain ⟨w5, hw5⟩ := hgen
  rw [hw5] at HZ HPOST ⊢
  clear hw5
  have c0 : w5.cell? ⟨rb, 0, none⟩ = some (.slice A4 l.length c4) := (blk_cell HZ.out 0).trans rfl
  have c1 : w5.cell? ⟨rb, 1, none⟩ = some (.string (strOfNums t1.1)) := (blk_cell HZ.out 1).trans rfl
  have c2 : w5.cell? ⟨rb, 2, none⟩ = some (.int .i64 t2.1) := (blk_cell HZ.out 2).trans rfl
  have c3 : w5.cell? ⟨rb, 3, none⟩ = some (.bool b3) := (blk_cell HZ.out 3).trans rfl
  refine bodyPost_ret (v := .agg #[.slice A4 l.length c4, .string (strOfNums t1.1), .int .i64 t2.1, .bool b3]) (by simp [results, Try.results47, go_sem, c0, c1, c2, c3]; try rfl) rfl ?_
  rw [HRES.out]
  exact ⟨_, rfl, HPOST.out.1, HPOST.out.2.1, HPOST.out.2.2, HL.out⟩
/-- Outside of the reader's block and the answer's, what is elder than the row is as it was. -/
def An0 (W0 W : World) (g bx b0 : Nat) : Prop := W.os = W0.os ∧ W.tape = W0.tape ∧ W.output = W0.output ∧ W0.heap.size ≤ W.heap.size ∧ ∀ k, k < b0 → k ≠ g → k ≠ bx → W.heap[k]? = W0.heap[k]?
def AnF {α : Type} (k : Kd α) (e i : Nat) (W0 W : World) (g base gb bx b0 : Nat) (xs : List Int) (v : Value) (cs : Array Value) (l : List α) (W' : World) (p err : Int) : Prop := Rd.Rdr W' g base xs p err ∧ W'.heap[bx]? = some (.cells (cs.set! i v) 54 (0, 0)) ∧ W'.heap[gb]? = some (.cells #[.pointer (some ⟨g, 0, none⟩)] 75 (0, 0)) ∧ Kd.R k e W' b0 (fun _ => True) v l ∧ An0 W0 W' g bx b0 ∧ Stay75 W W' ∧ b0 ≤ W'.heap.size ∧ (g < gb ∧ g < bx ∧ g < b0)
theorem An0.grown {W0 W W2 : World} {g bx b0 : Nat} {row : Option Nat} (h : An0 W0 W g bx b0) (hg : W.grownBy W2 row) (hb : b0 ≤ W.heap.size) (hr : ∀ k, row = some k → k = g ∨ k = bx ∨ b0 ≤ k) : An0 W0 W2 g bx b0 :=
  ⟨hg.os.trans h.1, hg.tape.trans h.2.1, hg.output.trans h.2.2.1, Nat.le_trans h.2.2.2.1 hg.size, fun k hk h1 h2 => (hg.block k (by omega) (fun e => by have := hr k e.symm; omega)).trans (h.2.2.2.2 k hk h1 h2)⟩
theorem AnF.move {α : Type} {k : Kd α} (hE : k.E = []) {e i : Nat} {W0 W : World} {g base gb bx b0 : Nat} {xs : List Int} {v : Value} {cs : Array Value} {l : List α} {W1 w2 : World} {p err p2 err2 : Int} (h : AnF k e i W0 W g base gb bx b0 xs v cs l W1 p err) (hr : Rd.Rdr w2 g base xs p2 err2) (hg : W1.grownBy w2 (some g)) : AnF k e i W0 W g base gb bx b0 xs v cs l w2 p2 err2 := by
  obtain ⟨hR, hX, hK, hO, hG, hS, hZ, hl⟩ := h
  exact ⟨hr, blk_grown hX hg qn, blk_grown hK hg qn, Kd.R_grown2 hO hE hg (fun k hk e => by injection hk with hk; obtain ⟨inner, ho⟩ := Kd.R_own hO; have := own_base ho k e.symm; omega), hG.grown hg hZ (fun k hk => by injection hk with hk; exact Or.inl hk.symm), fun B cs hb => stay_grown hR hg B cs (hS B cs hb), Nat.le_trans hZ hg.size, hl⟩
theorem AnF.app {α : Type} {k : Kd α} (hE : k.E = []) {e i : Nat} {W0 W : World} {g base gb bx b0 : Nat} {xs : List Int} {v v4 : Value} {cs : Array Value} {l l4 : List α} {W1 w4 : World} {p err : Int} (h : AnF k e i W0 W g base gb bx b0 xs v cs l W1 p err) (h75 : e ≠ 75) (h54 : e ≠ 54) (ho : Kd.R k e w4 b0 (fun _ => True) v4 l4) (hg : W1.grownBy w4 v.ownBlock) : w4.heap[bx]? = some (.cells (cs.set! i v) 54 (0, 0)) ∧ w4.heap[gb]? = some (.cells #[.pointer (some ⟨g, 0, none⟩)] 75 (0, 0)) ∧ AnF k e i W0 W g base gb bx b0 xs v4 cs l4 (w4.setCell ⟨bx, i, none⟩ v4) p err := by
  obtain ⟨hR, hX, hK, hO, hG, hS, hZ, hl⟩ := h
  have HOB : ∀ k, v.ownBlock = some k → b0 ≤ k := fun k hk => by obtain ⟨_, ho_⟩ := Kd.R_own hO; exact own_base ho_ k hk
  have hX3 := blk_grown hX hg (Kd.R_ne hO hX h54)
  have hK3 := blk_grown hK hg (Kd.R_ne hO hK h75)
  have hR3 : Rd.Rdr w4 g base xs p err := hR.keep (fun i hi => hg.block i (by have := hR.lt; omega) (fun e => by have := HOB i e.symm; omega))
  have hG3 : An0 W0 w4 g bx b0 := hG.grown hg hZ (fun k hk => Or.inr (Or.inr (HOB k hk)))
  have hS3 : Stay75 W w4 := fun B cs hb => blk_grown (hS B cs hb) hg (Kd.R_ne hO (hS B cs hb) h75)
  have hgs := grown_setCell w4 bx i v4
  have ne : ∀ {B : Nat} {cs' : Array Value} {t : TypeId}, w4.heap[B]? = some (.cells cs' t (0, 0)) → t ≠ 54 → some B ≠ some bx := by
    intro B cs' t hB ht e
    injection e with e
    subst e
    rw [hB] at hX3
    injection hX3 with hN
    injection hN with _ hN
    exact ht hN
  have hset : (cs.set! i v).setIfInBounds i v4 = cs.set! i v4 := by simp [Array.set!_eq_setIfInBounds]
  exact ⟨hX3, hK3, hR3.keep (fun i hi => hgs.block i (by have := hR3.lt; omega) qn), (blk_set hX3 i v4).trans (by rw [hset]), blk_grown hK3 hgs (ne hK3 (by decide)), Kd.R_grown2 ho hE hgs (fun k hk e => by injection hk with hk; rw [← hk] at e; exact (Kd.R_ne ho hX3 h54) e), hG3.grown hgs (Nat.le_trans hZ hg.size) (fun k hk => by injection hk with hk; exact Or.inr (Or.inl hk.symm)), fun B cs hb => blk_grown (hS3 B cs hb) hgs (ne (hS3 B cs hb) (by decide)), Nat.le_trans hZ (Nat.le_trans hg.size hgs.size), hl⟩
theorem info87 : (Try.prog.info? 87).map (fun i => (i.zero, i.size, i.bytes)) = some (some (.agg #[.string ⟨#[]⟩, .int .i64 0]), 2, 24) := by kernel_rfl
def wire_ReadAnswer_1.T0 : Bool × List (List Nat × List Nat) := (true, [([], []), ([0], [0]), ([], []), ([2], [2]), ([], []), ([4], [4]), ([5, 3], [5]), ([3, 6], [3, 6]), ([7], [7]), ([1, 8, 6], [1, 8]), ([0, 1, 2, 3, 4, 5, 6, 7, 8, 9], []), ([10, 9, 9, 0, 1, 2, 3, 4, 5, 6, 7, 8, 9], [9, 10])])
def wire_ReadAnswer_1.B0 : List Nat := [0, 1, 0, 4, 0, 16, 60, 124, 252, 511, 1023, 2047]
theorem wire_ReadAnswer_1.tab0 : rtab .any (opsOf Try.f49 0) = wire_ReadAnswer_1.T0 := by kernel_rfl
theorem wire_ReadAnswer_1.bits0 : waitsOk wire_ReadAnswer_1.T0.2 wire_ReadAnswer_1.B0 = true := by kernel_rfl
def an1Step (xs : List Int) (l : List S87) (p err : Int) : List S87 × Int × Int :=
  let t1 := Rd.textF xs p err 1048576
  let t2 := Rd.takeF xs t1.2.1 t1.2.2 8
  (l ++ [⟨strOfNums t1.1, t2.1⟩], t2.2)
theorem AnF.ex {α : Type} {k : Kd α} {e i : Nat} {W0 W w : World} {g base gb bx b0 : Nat} {xs : List Int} {v : Value} {cs : Array Value} {s r : List α × Int × Int} (h : s = r) (h2 : AnF k e i W0 W g base gb bx b0 xs v cs r.1 w r.2.1 r.2.2) : ∃ v', AnF k e i W0 W g base gb bx b0 xs v' cs s.1 w s.2.1 s.2.2 := by
  rw [h]
  exact ⟨v, h2⟩
set_option maxHeartbeats 8000000 in
set_option maxRecDepth 100000 in
theorem wire_ReadAnswer_1.one (W0 W : World) (g base gb bx b0 : Nat) (xs : List Int) (v : Value) (cs : Array Value) (h9 : cs.size = 24) (l : List S87) (p : Int) (h : AnF k87 87 22 W0 W g base gb bx b0 xs v cs l W p 0) (hl : l.length ≤ 100000) :
    Calls Try.prog 49 #[.pointer (some ⟨bx, 0, none⟩), .pointer (some ⟨gb, 0, none⟩)] W fun e w' => e = .returned (.tuple #[]) ∧ ∃ v', AnF k87 87 22 W0 W g base gb bx b0 xs v' cs (an1Step xs l p 0).1 w' (an1Step xs l p 0).2.1 (an1Step xs l p 0).2.2 := by
  obtain ⟨t1, ht1⟩ : ∃ t, Rd.textF xs p 0 1048576 = t := ⟨_, rfl⟩
  obtain ⟨t2, ht2⟩ : ∃ t, Rd.takeF xs t1.2.1 t1.2.2 8 = t := ⟨_, rfl⟩
  have HST : Aside0 (an1Step xs l p 0 = (l ++ [(⟨strOfNums t1.1, t2.1⟩ : S87)], t2.2)) := ⟨by unfold an1Step; simp only [ht1, ht2]⟩
  have HT1 := Aside0.mk ht1
  have HT2 := Aside0.mk ht2
  have HPL := Aside0.mk hl
  have HC9 : Aside0 ((cs.set! 22 v)[22]? = some v) := ⟨by simp [Array.set!_eq_setIfInBounds, h9]⟩
  have HF : Aside0 (AnF k87 87 22 W0 W g base gb bx b0 xs v cs l W.drew p 0) := ⟨h.move rfl (Rd.Rdr.below (W := W) h.1 (below_drew1 (Below.refl _ _))) (grown_wide (grown_of_below (below_drew1 (Below.refl W.heap.size W)) none) (some g))⟩
  clear ht1 ht2 hl h9 h
  go_enter Try.func49, Try.ntmps49
  go_wp2_with fail
  refine start_ (n := 12) (S := fun w' => w'.cell? ⟨bx, 22, none⟩ = some v ∧ w'.cell? ⟨gb, 0, none⟩ = some (.pointer (some ⟨g, 0, none⟩))) (ds := [11]) (fl 12 0) (by kernel_rfl) rfl rfl ⟨(blk_cell HF.out.2.1 22).trans HC9.out, (blk_cell HF.out.2.2.1 0).trans rfl⟩ (fun hHeld => ?_)
  refine with_tabW wire_ReadAnswer_1.tab0 wire_ReadAnswer_1.bits0 (fun HT_ HW_ => ?_)
  generalize W.drew = W1 at HF hHeld ⊢
  refine pu_ 0 2 (fl 12 1) ?_
  refine tk_2 1 3 (fl 12 3) hHeld ?_
  refine tk_2 2 4 (fl 12 7) hHeld ?_
  refine pu_ 4 6 (fl 12 23) ?_
  refine tk_2 5 7 (fl 12 55) hHeld ?_
  refine on_ 3 (some 5) (fl 12 63) fun K hK => ?_
  refine go_ Try.func42 #[.agg #[.pointer (some ⟨g, 0, none⟩)]] ?_
  refine (wire_reader_many.text _ g base xs _ _ HF.out.1).mono ?_
  rw [HT1.out]
  rintro e w21 ⟨rfl, hr, hg⟩
  have HF1 := Aside0.mk (HF.out.move rfl hr hg)
  clear hr hg HF
  refine nx_ hK ⟨(blk_cell HF1.out.2.1 22).trans HC9.out, (blk_cell HF1.out.2.2.1 0).trans rfl⟩ fun hHeld => ?_
  clear hK K
  refine on_ 6 (some 8) (fl 12 127) fun K hK => ?_
  refine go_ Try.func41 #[.pointer (some ⟨g, 0, none⟩)] ?_
  refine (Rd.i64_any _ g base xs _ _ HF1.out.1).mono ?_
  rw [HT2.out]
  rintro e w22 ⟨rfl, hr, hg⟩
  have HF2 := Aside0.mk (HF1.out.move rfl hr hg)
  clear hr hg HF1
  refine nx_ hK ⟨(blk_cell HF2.out.2.1 22).trans HC9.out, (blk_cell HF2.out.2.2.1 0).trans rfl⟩ fun hHeld => ?_
  clear hK K
  refine pu_ 7 9 (fl 12 255) ?_
  refine on_ 8 (some 10) (fl 12 511) fun K hK => ?_
  refine Go.Proofs.Ytmdgdndidfcapaa.Str.ev_ (v := .slice (some ⟨w22.heap.size, 0, none⟩) 1 1) (w1 := w22.alloc (.cells #[.string (strOfNums t1.1), .int .i64 t2.1] 87)) (by rfl) rfl qq ?_
  refine nm_ hK ⟨(blk_cell (blk_alloc HF2.out.2.1 _) 22).trans HC9.out, (blk_cell (blk_alloc HF2.out.2.2.1 _) 0).trans rfl⟩ fun hHeld => ?_
  clear hK K
  refine on_ 9 (some 11) (fl 12 1023) fun K hK => ?_
  refine Kd.R_append_step k87 (w0 := w22) b0 (by rfl) (.tmp 3) (.tmp 10) 51 87 (.agg #[.string ⟨#[]⟩, .int .i64 0]) 24 rfl Try.underlying51 info87 rfl (by decide) (by omega) v l (⟨strOfNums t1.1, t2.1⟩ : S87) [.string (strOfNums t1.1), .int .i64 t2.1] (fun _ => True) (fun _ => False) rfl rfl (k87_mkM _ _ _ _) (fun _ hk => hk.elim) (fun _ _ => trivial) HF2.out.2.2.2.1 (Below.refl _ _) HF2.out.2.2.2.2.2.2.1 (by have := HPL.out; omega) ?_
  intro v4 w4 ho4 hb4 hg4 hat4
  obtain ⟨A4, c4, e4⟩ := Kd.R_slice ho4
  subst e4
  have HX4 := Aside0.mk (HF2.out.app rfl (by decide) (by decide) ho4 hg4)
  clear ho4 hb4 hg4 hat4 HF2
  refine nm_ hK ⟨(blk_cell HX4.out.1 22).trans HC9.out, (blk_cell HX4.out.2.1 0).trans rfl⟩ fun hHeld => ?_
  clear hK K
  refine pu_ 10 12 (fl 12 2047) ?_
  refine la_ 11 none (fl 12 4095) fun K hK => ?_
  refine skip_ (w1 := (w4.setCell ⟨bx, 22, none⟩ (.slice A4 (l ++ [(⟨strOfNums t1.1, t2.1⟩ : S87)]).length c4))) (by rfl) rfl ?hrun ?_
  case hrun =>
    have c1 : w4.cell? ⟨bx, 22, none⟩ = some v := (blk_cell HX4.out.1 22).trans HC9.out
    have f1 := blk_frozen HX4.out.1 22
    first | (go_simp; done) | (go_simp; rfl)
  have HF5 := Aside0.mk HX4.out.2.2
  clear HX4
  generalize (w4.setCell ⟨bx, 22, none⟩ (.slice A4 (l ++ [(⟨strOfNums t1.1, t2.1⟩ : S87)]).length c4)) = w5 at HF5 ⊢
  refine hK.out _ _ ?_
  clear hK K
  refine dn_ ?_
  go_wp2
  exact bodyPost_end (v := .tuple #[]) (by simp [results, Try.results49, go_sem]) rfl ⟨rfl, AnF.ex HST.out HF5.out⟩
theorem info89 : (Try.prog.info? 89).map (fun i => (i.zero, i.size, i.bytes)) = some (some (.agg #[.int .i64 0, .int .i64 0, .int .i64 0, .int .i64 0, .bool false, .bool false]), 6, 40) := by kernel_rfl
def wire_ReadAnswer_2.T0 : Bool × List (List Nat × List Nat) := (true, [([], []), ([0], [0]), ([], []), ([2], [2]), ([3], [3]), ([], []), ([5, 4], [5]), ([4, 6], [4, 6]), ([7], [7]), ([1, 8, 6], [1, 8]), ([0, 1, 2, 3, 4, 5, 6, 7, 8, 9], []), ([10, 9, 9, 0, 1, 2, 3, 4, 5, 6, 7, 8, 9], [9, 10])])
def wire_ReadAnswer_2.B0 : List Nat := [0, 1, 0, 4, 12, 0, 60, 124, 252, 511, 1023, 2047]
theorem wire_ReadAnswer_2.tab0 : rtab .any (opsOf Try.f50 0) = wire_ReadAnswer_2.T0 := by kernel_rfl
theorem wire_ReadAnswer_2.bits0 : waitsOk wire_ReadAnswer_2.T0.2 wire_ReadAnswer_2.B0 = true := by kernel_rfl
def an2Step (xs : List Int) (l : List S89) (p err : Int) : List S89 × Int × Int :=
  let t1 := Rd.takeF xs p err 2
  let t2 := headF xs t1.2.1 t1.2.2
  (l ++ [⟨t1.1, ⟨t2.1.1, ⟨t2.1.2.1, t2.1.2.2.1⟩, t2.1.2.2.2.1, t2.1.2.2.2.2⟩⟩], t2.2)
set_option maxHeartbeats 8000000 in
set_option maxRecDepth 100000 in
theorem wire_ReadAnswer_2.one (W0 W : World) (g base gb bx b0 : Nat) (xs : List Int) (v : Value) (cs : Array Value) (h9 : cs.size = 24) (l : List S89) (p : Int) (h : AnF k89 89 23 W0 W g base gb bx b0 xs v cs l W p 0) (hl : l.length ≤ 100000) :
    Calls Try.prog 50 #[.pointer (some ⟨bx, 0, none⟩), .pointer (some ⟨gb, 0, none⟩)] W fun e w' => e = .returned (.tuple #[]) ∧ ∃ v', AnF k89 89 23 W0 W g base gb bx b0 xs v' cs (an2Step xs l p 0).1 w' (an2Step xs l p 0).2.1 (an2Step xs l p 0).2.2 := by
  obtain ⟨t1, ht1⟩ : ∃ t, Rd.takeF xs p 0 2 = t := ⟨_, rfl⟩
  obtain ⟨t2, ht2⟩ : ∃ t, headF xs t1.2.1 t1.2.2 = t := ⟨_, rfl⟩
  have HST : Aside0 (an2Step xs l p 0 = (l ++ [(⟨t1.1, ⟨t2.1.1, ⟨t2.1.2.1, t2.1.2.2.1⟩, t2.1.2.2.2.1, t2.1.2.2.2.2⟩⟩ : S89)], t2.2)) := ⟨by unfold an2Step; simp only [ht1, ht2]⟩
  have HT1 := Aside0.mk ht1
  have HT2 := Aside0.mk ht2
  have HPL := Aside0.mk hl
  have HC9 : Aside0 ((cs.set! 23 v)[23]? = some v) := ⟨by simp [Array.set!_eq_setIfInBounds, h9]⟩
  have HF : Aside0 (AnF k89 89 23 W0 W g base gb bx b0 xs v cs l W.drew p 0) := ⟨h.move rfl (Rd.Rdr.below (W := W) h.1 (below_drew1 (Below.refl _ _))) (grown_wide (grown_of_below (below_drew1 (Below.refl W.heap.size W)) none) (some g))⟩
  clear ht1 ht2 hl h9 h
  go_enter Try.func50, Try.ntmps50
  go_wp2_with fail
  refine start_ (n := 12) (S := fun w' => w'.cell? ⟨bx, 23, none⟩ = some v ∧ w'.cell? ⟨gb, 0, none⟩ = some (.pointer (some ⟨g, 0, none⟩))) (ds := [11]) (fl 12 0) (by kernel_rfl) rfl rfl ⟨(blk_cell HF.out.2.1 23).trans HC9.out, (blk_cell HF.out.2.2.1 0).trans rfl⟩ (fun hHeld => ?_)
  refine with_tabW wire_ReadAnswer_2.tab0 wire_ReadAnswer_2.bits0 (fun HT_ HW_ => ?_)
  generalize W.drew = W1 at HF hHeld ⊢
  refine pu_ 0 2 (fl 12 1) ?_
  refine tk_2 1 3 (fl 12 3) hHeld ?_
  refine pu_ 2 4 (fl 12 7) ?_
  refine tk_2 3 5 (fl 12 15) hHeld ?_
  refine tk_2 5 7 (fl 12 47) hHeld ?_
  refine on_ 4 (some 6) (fl 12 63) fun K hK => ?_
  refine go_ Try.func51 #[.pointer (some ⟨g, 0, none⟩)] ?_
  refine (Rd.u16_any _ g base xs _ _ HF.out.1).mono ?_
  rw [HT1.out]
  rintro e w21 ⟨rfl, hr, hg⟩
  have HF1 := Aside0.mk (HF.out.move rfl hr hg)
  clear hr hg HF
  refine nx_ hK ⟨(blk_cell HF1.out.2.1 23).trans HC9.out, (blk_cell HF1.out.2.2.1 0).trans rfl⟩ fun hHeld => ?_
  clear hK K
  refine on_ 6 (some 8) (fl 12 127) fun K hK => ?_
  refine go_ Try.func44 #[.agg #[.pointer (some ⟨g, 0, none⟩)]] ?_
  refine (wire_reader_head.head _ g base xs _ _ HF1.out.1).mono ?_
  rw [HT2.out]
  rintro e w22 ⟨rfl, hr, hg⟩
  have HF2 := Aside0.mk (HF1.out.move rfl hr hg)
  clear hr hg HF1
  refine nx_ hK ⟨(blk_cell HF2.out.2.1 23).trans HC9.out, (blk_cell HF2.out.2.2.1 0).trans rfl⟩ fun hHeld => ?_
  clear hK K
  refine pu_ 7 9 (fl 12 255) ?_
  refine on_ 8 (some 10) (fl 12 511) fun K hK => ?_
  refine Go.Proofs.Ytmdgdndidfcapaa.Str.ev_ (v := .slice (some ⟨w22.heap.size, 0, none⟩) 1 1) (w1 := w22.alloc (.cells #[.int .i64 t1.1, .int .i64 t2.1.1, .int .i64 t2.1.2.1, .int .i64 t2.1.2.2.1, .bool t2.1.2.2.2.1, .bool t2.1.2.2.2.2] 89)) (by rfl) rfl qq ?_
  refine nm_ hK ⟨(blk_cell (blk_alloc HF2.out.2.1 _) 23).trans HC9.out, (blk_cell (blk_alloc HF2.out.2.2.1 _) 0).trans rfl⟩ fun hHeld => ?_
  clear hK K
  refine on_ 9 (some 11) (fl 12 1023) fun K hK => ?_
  refine Kd.R_append_step k89 (w0 := w22) b0 (by rfl) (.tmp 3) (.tmp 10) 52 89 (.agg #[.int .i64 0, .int .i64 0, .int .i64 0, .int .i64 0, .bool false, .bool false]) 40 rfl Try.underlying52 info89 rfl (by decide) (by omega) v l (⟨t1.1, ⟨t2.1.1, ⟨t2.1.2.1, t2.1.2.2.1⟩, t2.1.2.2.2.1, t2.1.2.2.2.2⟩⟩ : S89) [.int .i64 t1.1, .int .i64 t2.1.1, .int .i64 t2.1.2.1, .int .i64 t2.1.2.2.1, .bool t2.1.2.2.2.1, .bool t2.1.2.2.2.2] (fun _ => True) (fun _ => False) rfl rfl (k89_mkM _ _ _ _) (fun _ hk => hk.elim) (fun _ _ => trivial) HF2.out.2.2.2.1 (Below.refl _ _) HF2.out.2.2.2.2.2.2.1 (by have := HPL.out; omega) ?_
  intro v4 w4 ho4 hb4 hg4 hat4
  obtain ⟨A4, c4, e4⟩ := Kd.R_slice ho4
  subst e4
  have HX4 := Aside0.mk (HF2.out.app rfl (by decide) (by decide) ho4 hg4)
  clear ho4 hb4 hg4 hat4 HF2
  refine nm_ hK ⟨(blk_cell HX4.out.1 23).trans HC9.out, (blk_cell HX4.out.2.1 0).trans rfl⟩ fun hHeld => ?_
  clear hK K
  refine pu_ 10 12 (fl 12 2047) ?_
  refine la_ 11 none (fl 12 4095) fun K hK => ?_
  refine skip_ (w1 := (w4.setCell ⟨bx, 23, none⟩ (.slice A4 (l ++ [(⟨t1.1, ⟨t2.1.1, ⟨t2.1.2.1, t2.1.2.2.1⟩, t2.1.2.2.2.1, t2.1.2.2.2.2⟩⟩ : S89)]).length c4))) (by rfl) rfl ?hrun ?_
  case hrun =>
    have c1 : w4.cell? ⟨bx, 23, none⟩ = some v := (blk_cell HX4.out.1 23).trans HC9.out
    have f1 := blk_frozen HX4.out.1 23
    first | (go_simp; done) | (go_simp; rfl)
  have HF5 := Aside0.mk HX4.out.2.2
  clear HX4
  generalize (w4.setCell ⟨bx, 23, none⟩ (.slice A4 (l ++ [(⟨t1.1, ⟨t2.1.1, ⟨t2.1.2.1, t2.1.2.2.1⟩, t2.1.2.2.2.1, t2.1.2.2.2.2⟩⟩ : S89)]).length c4)) = w5 at HF5 ⊢
  refine hK.out _ _ ?_
  clear hK K
  refine dn_ ?_
  go_wp2
  exact bodyPost_end (v := .tuple #[]) (by simp [results, Try.results50, go_sem]) rfl ⟨rfl, AnF.ex HST.out HF5.out⟩
def AnJ {α : Type} (k : Kd α) (e i : Nat) (W0 : World) (g gb bx b0 : Nat) (cs : Array Value) (j : Nat) (W : World) (l : List α) : Prop := ∃ v, W.heap[bx]? = some (.cells (cs.set! i v) 54 (0, 0)) ∧ W.heap[gb]? = some (.cells #[.pointer (some ⟨g, 0, none⟩)] 75 (0, 0)) ∧ Kd.R k e W b0 (fun _ => True) v l ∧ An0 W0 W g bx b0 ∧ b0 ≤ W.heap.size ∧ l.length ≤ j
theorem AnJ_grown {α : Type} {k : Kd α} (hE : k.E = []) {e i : Nat} {W0 : World} {g gb bx b0 : Nat} {cs : Array Value} (hlow : g < gb ∧ g < bx ∧ g < b0) (j : Nat) (W : World) (l : List α) (w' : World) (h : AnJ k e i W0 g gb bx b0 cs j W l) (hg : W.grownBy w' (some g)) : AnJ k e i W0 g gb bx b0 cs j w' l := by
  obtain ⟨v, hX, hK, hO, hG, hZ, hl⟩ := h
  exact ⟨v, blk_grown hX hg qn, blk_grown hK hg qn, Kd.R_grown2 hO hE hg (fun k hk e => by injection hk with hk; obtain ⟨_, ho⟩ := Kd.R_own hO; have := own_base ho k e.symm; omega), hG.grown hg hZ (fun k hk => by injection hk with hk; exact Or.inl hk.symm), Nat.le_trans hZ hg.size, hl⟩
theorem an1Step_len (xs : List Int) (l : List S87) (p err : Int) : (an1Step xs l p err).1.length = l.length + 1 := by simp [an1Step]
theorem an1_many (W0 W : World) (g base gb bx b0 : Nat) (xs : List Int) (cs : Array Value) (h9 : cs.size = 24) (hlow : g < gb ∧ g < bx ∧ g < b0) (p err : Int) (hR : Rd.Rdr W g base xs p err) (hJ : AnJ k87 87 22 W0 g gb bx b0 cs 0 W []) :
    Calls Try.prog 48 #[.agg #[.pointer (some ⟨g, 0, none⟩)], .func (.func 49) #[] #[.pointer (some ⟨bx, 0, none⟩), .pointer (some ⟨gb, 0, none⟩)]] W fun e w' => ManyPost (Some1 (AnJ k87 87 22 W0 g gb bx b0 cs)) g base xs (manyF (an1Step xs) (Rd.takeF xs p err 2).1.toNat [] (Rd.takeF xs p err 2).2.1 (Rd.takeF xs p err 2).2.2) e w' := by
  refine wire_reader_many.many (AnJ k87 87 22 W0 g gb bx b0 cs) g base xs (fun j W' l w' h hg => AnJ_grown rfl hlow j W' l w' h hg) (an1Step xs) 49 _ (enters_of Try.func49 (by kernel_rfl) rfl) (fun j W' l p1 hj hR1 hJ1 => ?_) _ [] p err hR hJ
  obtain ⟨v, hX, hK, hO, hG, hZ, hl⟩ := hJ1
  refine (wire_ReadAnswer_1.one W0 W' g base gb bx b0 xs v cs h9 l p1 ⟨hR1, hX, hK, hO, hG, fun _ _ h => h, hZ, hlow⟩ (by omega)).mono ?_
  rintro e w' ⟨he, v', h1, h2, h3, h4, h5, h6, h7, h8⟩
  exact ⟨⟨he, h1, v', h2, h3, h4, h5, h7, by rw [an1Step_len]; omega⟩, h6⟩
theorem an2Step_len (xs : List Int) (l : List S89) (p err : Int) : (an2Step xs l p err).1.length = l.length + 1 := by simp [an2Step]
theorem an2_many (W0 W : World) (g base gb bx b0 : Nat) (xs : List Int) (cs : Array Value) (h9 : cs.size = 24) (hlow : g < gb ∧ g < bx ∧ g < b0) (p err : Int) (hR : Rd.Rdr W g base xs p err) (hJ : AnJ k89 89 23 W0 g gb bx b0 cs 0 W []) :
    Calls Try.prog 48 #[.agg #[.pointer (some ⟨g, 0, none⟩)], .func (.func 50) #[] #[.pointer (some ⟨bx, 0, none⟩), .pointer (some ⟨gb, 0, none⟩)]] W fun e w' => ManyPost (Some1 (AnJ k89 89 23 W0 g gb bx b0 cs)) g base xs (manyF (an2Step xs) (Rd.takeF xs p err 2).1.toNat [] (Rd.takeF xs p err 2).2.1 (Rd.takeF xs p err 2).2.2) e w' := by
  refine wire_reader_many.many (AnJ k89 89 23 W0 g gb bx b0 cs) g base xs (fun j W' l w' h hg => AnJ_grown rfl hlow j W' l w' h hg) (an2Step xs) 50 _ (enters_of Try.func50 (by kernel_rfl) rfl) (fun j W' l p1 hj hR1 hJ1 => ?_) _ [] p err hR hJ
  obtain ⟨v, hX, hK, hO, hG, hZ, hl⟩ := hJ1
  refine (wire_ReadAnswer_2.one W0 W' g base gb bx b0 xs v cs h9 l p1 ⟨hR1, hX, hK, hO, hG, fun _ _ h => h, hZ, hlow⟩ (by omega)).mono ?_
  rintro e w' ⟨he, v', h1, h2, h3, h4, h5, h6, h7, h8⟩
  exact ⟨⟨he, h1, v', h2, h3, h4, h5, h7, by rw [an2Step_len]; omega⟩, h6⟩
end Go.Proofs.Ytmdgdndidfcapaa.QB
