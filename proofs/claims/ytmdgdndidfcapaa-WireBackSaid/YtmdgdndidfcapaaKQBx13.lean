import Derived.Test.YtmdgdndidfcapaaKQBx9
namespace Go.Proofs.Ytmdgdndidfcapaa.QB
open Go.RowKit Go.Proofs.YtmdgdndidfcapaaW.PrintWords Go.Proofs.YtmdgdndidfcapaaW.PrintLast Go.Proofs.YtmdgdndidfcapaaW.PrintMore
attribute [local go_sem] max2_int min2_int max_two min_two max_three min_three max_four min_four   -- for this text's walks alone
set_option linter.unusedVariables false
set_option linter.unusedSimpArgs false
def restF (xs : List Int) : Nat → Int → Int → List Int → List Int × Int × Int
 | 0, p, err, acc => (acc, p, err)
 | n + 1, p, err, acc => if (Rd.takeF xs p err 1).2.2 = 0 then restF xs n (Rd.takeF xs p err 1).2.1 (Rd.takeF xs p err 1).2.2 (acc ++ [(Rd.takeF xs p err 1).1]) else ([], (Rd.takeF xs p err 1).2.1, (Rd.takeF xs p err 1).2.2)
theorem take1_bd (xs : List Int) (p err : Int) (hb : ∀ x ∈ xs, 0 ≤ x ∧ x ≤ 255) : 0 ≤ (Rd.takeF xs p err 1).1 ∧ (Rd.takeF xs p err 1).1 ≤ 255 := by
 unfold Rd.takeF
 split
 ·split
  ·have h := Rd.num_bd ((xs.drop p.toNat).take 1) (fun x hx => hb x (List.mem_of_mem_drop (List.mem_of_mem_take hx)))
   have hl : ((xs.drop p.toNat).take 1).length ≤ 1 := List.length_take_le _ _
   have h2 := Rd.pow_bd _ (Nat.le_trans hl (by decide))
   have h3 : (256 : Int) ^ ((xs.drop p.toNat).take 1).length ≤ 256 := by
    rcases Nat.lt_or_ge ((xs.drop p.toNat).take 1).length 1 with h4 | h4
    ·rw [show ((xs.drop p.toNat).take 1).length = 0 by omega]; decide
    ·rw [show ((xs.drop p.toNat).take 1).length = 1 by omega]; decide
   dsimp only
   unfold wrap64
   omega
  ·simp
 ·simp
theorem take2_bd (xs : List Int) (p err : Int) (hb : ∀ x ∈ xs, 0 ≤ x ∧ x ≤ 255) : 0 ≤ (Rd.takeF xs p err 2).1 ∧ (Rd.takeF xs p err 2).1 ≤ 65535 := by
 unfold Rd.takeF
 split
 ·split
  ·have h := Rd.num_bd ((xs.drop p.toNat).take 2) (fun x hx => hb x (List.mem_of_mem_drop (List.mem_of_mem_take hx)))
   have hl : ((xs.drop p.toNat).take 2).length ≤ 2 := List.length_take_le _ _
   have h3 : (256 : Int) ^ ((xs.drop p.toNat).take 2).length ≤ 65536 := by
    rcases (by omega : ((xs.drop p.toNat).take 2).length = 0 ∨ ((xs.drop p.toNat).take 2).length = 1 ∨ ((xs.drop p.toNat).take 2).length = 2) with h4 | h4 | h4 <;> rw [h4] <;> decide
   dsimp only
   unfold wrap64
   omega
  ·simp
 ·simp
theorem Rdr_bytes {W : World} {g base : Nat} {xs : List Int} {p err : Int} (hR : Rd.Rdr W g base xs p err) : ∀ x ∈ xs, 0 ≤ x ∧ x ≤ 255 := by
 obtain ⟨A, c, hb, hbg, hlc, hrd, ha, hx, _⟩ := hR
 exact hx
theorem grown_wide {a b : World} (h : a.grownBy b none) (row : Option Nat) : a.grownBy b row := ⟨h.os, h.tape, h.output, h.size, fun i hi _ => h.block i hi (by simp)⟩
def restLoop (W W' : World) (g base : Nat) (xs : List Int) (p err : Int) (v : Value) (acc : List Int) : Prop := W.grownBy W' (some g) ∧ W'.heap[W.heap.size]? = some (.cells #[.pointer (some ⟨g, 0, none⟩)] 75 (0, 0)) ∧ Rd.Rdr W' g base xs p err ∧ Kd.R (Kd.int .u8) 5 W' W.heap.size (fun _ => True) v acc
set_option maxHeartbeats 4000000 in
set_option maxRecDepth 100000 in
theorem wire_reader_rest.rest (W : World) (g base : Nat) (xs : List Int) (p err : Int) (n : Nat) (hn : n ≤ 100000) (hR : Rd.Rdr W g base xs p err) :
  Calls Try.prog 69 #[.agg #[.pointer (some ⟨g, 0, none⟩)], .int .i64 (n : Int)] W (Rd.RdText W g base xs (restF xs n p err [])) := by
 have hlt := hR.lt
 have HR := Aside0.mk hR
 have HXB := Aside0.mk (Rdr_bytes hR)
 obtain ⟨i0, hi0, hz0, hs0, hb0⟩ := info_parts info5
 obtain ⟨w1, hmk, hown, hgr⟩ := run_make_own (P := Try.prog) (W.alloc (.cells #[.pointer (some ⟨g, 0, none⟩)] 75)) W.heap.size 31 5 i0 (.int .u8 0) 1 Try.underlying31 hi0 hz0 hs0 .i64 .i64 64 (by rw [hb0]; decide) (by decide) (by simp)
 have hmk : (Instr.makeSlice 31 (.int .i64 0) (.int .i64 64)).run Try.prog (W.alloc (.cells #[.pointer (some ⟨g, 0, none⟩)] 75)) = .ok (.slice (some ⟨(W.alloc (.cells #[.pointer (some ⟨g, 0, none⟩)] 75)).heap.size, 0, none⟩) 0 64) w1 := hmk
 rw [World.size_alloc] at hmk
 have HOWN := Aside0.mk hown
 have HGR := Aside0.mk hgr
 have HLT := Aside0.mk hlt
 clear hown hgr hR hi0 hz0 hs0 hb0 hlt
 go_enter Try.func69, Try.ntmps69
 have BK := Aside0.mk (blk_grown (blk_new W (.cells #[.pointer (some ⟨g, 0, none⟩)] 75)) HGR.out (by simp))
 have HR1 := Aside0.mk ((HR.out.grown (World.grownBy_alloc W (.cells #[.pointer (some ⟨g, 0, none⟩)] 75) none) (by simp)).grown HGR.out (by simp))
 have HO1 := Aside0.mk (show Kd.R (Kd.int .u8) 5 w1 W.heap.size (fun _ => True) (.slice (some ⟨W.heap.size + 1, 0, none⟩) 0 64) ([] : List Int) from Kd.R_of_own (enc := Value.int .u8) (h1 := fun _ => rfl) (by have h := HOWN.out; rw [World.size_alloc] at h; exact h) (fun _ _ => trivial))
 have HG1 := Aside0.mk (grown_wide (grown_tr (World.grownBy_alloc W (.cells #[.pointer (some ⟨g, 0, none⟩)] 75) none) HGR.out) (some g))
 clear HGR HOWN HR
 go_wp2
 go_loopg [5, 9] n (fun gg u5 u9 wr => ∃ (j : Nat) (acc : List Int) (p1 err1 : Int), u9 = .int .i64 j ∧ j ≤ n ∧ n - j ≤ gg ∧ acc.length ≤ j ∧ restLoop W wr g base xs p1 err1 u5 acc ∧ Aside0 (restF xs (n - j) p1 err1 acc = restF xs n p err []))
 case atStart => exact ⟨0, [], p, err, rfl, Nat.zero_le _, by omega, Nat.zero_le _, ⟨HG1.out, BK.out, HR1.out, HO1.out⟩, ⟨rfl⟩⟩
 case round =>
  obtain ⟨j, acc, p1, err1, rfl, hj, hg, hal, hL, HF⟩ := hrel
  obtain ⟨hG, hK, hRd, hO⟩ := hL
  have HG := Aside0.mk hG
  have HK := Aside0.mk hK
  have HRD := Aside0.mk hRd
  have HO := Aside0.mk hO
  have HAL := Aside0.mk hal
  have c0 : wr.cell? ⟨W.heap.size, 0, none⟩ = some (.pointer (some ⟨g, 0, none⟩)) := (blk_cell hK 0).trans rfl
  clear hG hK hRd hO hal BK HR1 HO1 HG1
  by_cases hlt : j < n
  ·obtain ⟨t, ht⟩ : ∃ t, Rd.takeF xs p1 err1 1 = t := ⟨_, rfl⟩
   have hbd := take1_bd xs p1 err1 HXB.out
   have hF := HF.out
   rw [show n - j = (n - (j + 1)) + 1 by omega, restF, ht] at hF
   have HF2 := Aside0.mk hF
   rw [ht] at hbd
   obtain ⟨hb0, hb1⟩ := hbd
   have HT := Aside0.mk ht
   clear hF HF ht
   go_wp2_with fail
   refine (Rd.u8_any wr g base xs p1 err1 HRD.out).mono ?_
   rw [HT.out]
   rintro e w2 ⟨rfl, hr2, hg2⟩
   have HRD2 := Aside0.mk hr2
   have HK2 := Aside0.mk (blk_grown HK.out hg2 qj)
   have HO2 := Aside0.mk (Kd.R_grown2 HO.out rfl hg2 (fun k hk e => by have h1 := own_base (Kd.own_of_R HO.out) k e.symm; injection hk with hk; have := HLT.out.2; omega))
   have HG2 := Aside0.mk (grown_tr HG.out hg2)
   have c2 : w2.cell? ⟨W.heap.size, 0, none⟩ = some (.pointer (some ⟨g, 0, none⟩)) := (blk_cell HK2.out 0).trans rfl
   clear hr2 hg2 HRD HK HO HG c0 HT
   by_cases h0 : t.2.2 = 0
   ·have hn : (t.2.2 != 0) = false := by simp [h0]
    have HF3 := Aside0.mk (by have h := HF2.out; rw [if_pos h0] at h; exact h)
    have H0 := Aside0.mk h0
    clear HF2 h0
    go_wp2_with fail
    refine (Rd.err_any w2 g base xs _ _ HRD2.out).mono ?_
    rintro e w3 ⟨rfl, rfl⟩
    go_wp2_with ((with_reducible refine gate_builtin (b := .append) (xs := #[.tmp 18, .tmp 21]) rfl ?_); at_builtin; refine Kd.R_append (Kd.int .u8) (w0 := w2) W.heap.size rfl (.tmp 18) (.tmp 21) 31 5 (.int .u8 0) 1 rfl Try.underlying31 info5 rfl (by decide) (by omega) u5 acc t.1 [.int .u8 t.1] (fun _ => True) (fun _ => False) rfl rfl rfl (fun _ hk => hk.elim) (fun _ _ => trivial) HO2.out (Below.refl _ _) HG2.out.size (by have := HAL.out; omega) ?_; intro v4 w4 ho4 hb4 hg4 hat4)
    have HOB : ∀ k_, u5.ownBlock = some k_ → W.heap.size ≤ k_ := fun k_ hk_ => own_base (Kd.own_of_R HO2.out) k_ hk_
    have HRD4 := Aside0.mk (HRD2.out.keep (fun i hi => hg4.block i (by have := HLT.out.2; have := HG2.out.size; omega) (fun e => by have := HOB i e.symm; have := HLT.out.2; omega)))
    have HK4 := Aside0.mk (blk_grown HK2.out hg4 (Kd.R_ne HO2.out HK2.out (by decide)))
    have HG4 : Aside0 (W.grownBy w4 (some g)) := ⟨⟨hg4.os.trans HG2.out.os, hg4.tape.trans HG2.out.tape, hg4.output.trans HG2.out.output, Nat.le_trans HG2.out.size hg4.size, fun i hi hne => (hg4.block i (Nat.lt_of_lt_of_le hi HG2.out.size) (fun e => by have := HOB i e.symm; omega)).trans (HG2.out.block i hi hne)⟩⟩
    have HO4 := Aside0.mk ho4
    have HAL4 : (acc ++ [t.1]).length ≤ j + 1 := by rw [List.length_append, List.length_singleton]; have := HAL.out; omega
    clear ho4 hb4 hg4 hat4 HOB
    go_roundg (n - (j + 1))
    case measure => omega
    case rel => exact ⟨j + 1, acc ++ [t.1], t.2.1, t.2.2, by go_num, by omega, by omega, HAL4, ⟨HG4.out, HK4.out, HRD4.out, HO4.out⟩, HF3⟩
   ·have hn : (t.2.2 != 0) = true := by simpa using h0
    have HF3 := Aside0.mk (by have h := HF2.out; rw [if_neg h0] at h; exact h)
    clear HF2 h0
    go_wp2_with fail
    refine (Rd.err_any w2 g base xs _ _ HRD2.out).mono ?_
    rintro e w3 ⟨rfl, rfl⟩
    go_wp2
    go_ret
    rw [← HF3.out]
    exact ⟨rfl, HRD2.out, HG2.out⟩
  ·have : j = n := by omega
   subst this
   have hF := HF.out
   rw [Nat.sub_self, restF] at hF
   have HF2 := Aside0.mk hF
   have hcv : (convert 31 9 u5).run Try.prog wr = .ok (.string (strOfNums acc)) wr := own_string Try.underlying31 Try.underlying5 Try.underlying9 (Kd.own_of_R HO.out)
   clear HF hF hg hj
   go_wp2
   go_ret
   rw [← HF2.out]
   exact ⟨rfl, HRD.out, HG.out⟩
def wire_reader_tag.T1 : Bool × List (List Nat × List Nat) := (true, [([], []), ([0], [0]), ([1], [1]), ([], []), ([3], [3]), ([4, 2], [4]), ([2, 5], [2, 5]), ([6, 5, 0, 1, 2, 3, 4, 5, 6], [6])])
def wire_reader_tag.B1 : List Nat := [0, 1, 3, 0, 8, 31, 63, 127]
theorem wire_reader_tag.tab1 : rtab .any (opsOf Try.f43 1) = wire_reader_tag.T1 := by kernel_rfl
theorem wire_reader_tag.bits1 : waitsOk wire_reader_tag.T1.2 wire_reader_tag.B1 = true := by kernel_rfl
theorem grown_new {a b c : World} {row : Option Nat} {k : Nat} (h : a.grownBy b row) (h2 : b.grownBy c (some k)) (hk : a.heap.size ≤ k) : a.grownBy c row :=
 ⟨h2.os.trans h.os, h2.tape.trans h.tape, h2.output.trans h.output, Nat.le_trans h.size h2.size, fun i hi hne => (h2.block i (Nat.lt_of_lt_of_le hi h.size) (fun e => by injection e with e; omega)).trans (h.block i hi hne)⟩
def tagF (xs : List Int) (p err : Int) : (Int × Int) × Int × Int := (((Rd.takeF xs p err 4).1, (Rd.takeF xs (Rd.takeF xs p err 4).2.1 (Rd.takeF xs p err 4).2.2 4).1), (Rd.takeF xs (Rd.takeF xs p err 4).2.1 (Rd.takeF xs p err 4).2.2 4).2)
def RdTag (W : World) (g base : Nat) (xs : List Int) (r : (Int × Int) × Int × Int) (e : Ending) (w' : World) : Prop :=
 e = .returned (.agg #[.int .i64 r.1.1, .int .i64 r.1.2]) ∧ Rd.Rdr w' g base xs r.2.1 r.2.2 ∧ W.grownBy w' (some g)
set_option maxHeartbeats 4000000 in
set_option maxRecDepth 100000 in
theorem wire_reader_tag.tag (W : World) (g base : Nat) (xs : List Int) (p err : Int) (hR : Rd.Rdr W g base xs p err) :
  Calls Try.prog 43 #[.agg #[.pointer (some ⟨g, 0, none⟩)]] W (RdTag W g base xs (tagF xs p err)) := by
 have HLT := Aside0.mk hR.lt
 obtain ⟨t1, ht1⟩ : ∃ t, Rd.takeF xs p err 4 = t := ⟨_, rfl⟩
 obtain ⟨t2, ht2⟩ : ∃ t, Rd.takeF xs t1.2.1 t1.2.2 4 = t := ⟨_, rfl⟩
 have hf : tagF xs p err = ((t1.1, t2.1), t2.2) := by unfold tagF; rw [ht1, ht2]
 rw [hf]
 have HT1 := Aside0.mk ht1
 have HT2 := Aside0.mk ht2
 have hs1 : (W.alloc (.cells #[.pointer (some ⟨g, 0, none⟩)] 75)).heap.size = W.heap.size + 1 := by simp
 have HQ1 := Aside0.mk (blk_drew (show ((W.alloc (.cells #[.pointer (some ⟨g, 0, none⟩)] 75)).alloc (.cells #[.int .i64 0, .int .i64 0] 25)).heap[W.heap.size + 1]? = some (.cells #[.int .i64 0, .int .i64 0] 25 (0, 0)) from by have h := blk_new (W.alloc (.cells #[.pointer (some ⟨g, 0, none⟩)] 75)) (.cells #[.int .i64 0, .int .i64 0] 25); rw [hs1] at h; exact h))
 have HK1 := Aside0.mk (blk_drew (blk_alloc (blk_new W (.cells #[.pointer (some ⟨g, 0, none⟩)] 75)) (.cells #[.int .i64 0, .int .i64 0] 25)))
 have HR1 := Aside0.mk (show Rd.Rdr ((W.alloc (.cells #[.pointer (some ⟨g, 0, none⟩)] 75)).alloc (.cells #[.int .i64 0, .int .i64 0] 25)).drew g base xs p err from Rd.Rdr.below (W := W) hR (below_drew1 (below_alloc (below_alloc (Below.refl _ _) _) _)))
 have HG1 := Aside0.mk (show W.grownBy ((W.alloc (.cells #[.pointer (some ⟨g, 0, none⟩)] 75)).alloc (.cells #[.int .i64 0, .int .i64 0] 25)).drew (some g) from grown_of_below (below_drew1 (below_alloc (below_alloc (Below.refl _ _) _) _)) _)
 clear hR ht1 ht2 hf hs1
 go_enter Try.func43, Try.ntmps43
 go_wp2_with fail
 refine start_ (n := 8) (S := fun w' => w'.cell? ⟨W.heap.size, 0, none⟩ = some (.pointer (some ⟨g, 0, none⟩))) (ds := []) (fl 8 0) (by kernel_rfl) rfl rfl ((blk_cell HK1.out 0).trans rfl) (fun hHeld => ?_)
 refine with_tabW wire_reader_tag.tab1 wire_reader_tag.bits1 (fun HT_ HW_ => ?_)
 generalize ((W.alloc (.cells #[.pointer (some ⟨g, 0, none⟩)] 75)).alloc (.cells #[.int .i64 0, .int .i64 0] 25)).drew = W1 at HR1 HK1 HQ1 HG1 hHeld ⊢
 refine pu_ 0 3 (fl 8 1) ?_
 refine pu_ 3 6 (fl 8 9) ?_
 refine tk_1 1 4 (fl 8 11) hHeld ?_
 refine tk_1 4 7 (fl 8 27) hHeld ?_
 refine on_ 2 (some 5) (fl 8 31) fun K hK => ?_
 refine go_ Try.func90 #[.pointer (some ⟨g, 0, none⟩)] ?_
 refine (Rd.u32_any _ g base xs _ _ HR1.out).mono ?_
 rw [HT1.out]
 rintro e W2 ⟨rfl, hr2, hg2⟩
 have HR2 := Aside0.mk hr2
 have HK2 := Aside0.mk (blk_grown HK1.out hg2 qj)
 have HQ2 := Aside0.mk (blk_grown HQ1.out hg2 qj)
 have HG2 := Aside0.mk (grown_tr HG1.out hg2)
 clear hr2 hg2 HR1 HK1 HQ1 HG1
 refine nx_ hK ((blk_cell HK2.out 0).trans rfl) fun hHeld => ?_
 clear hK K
 refine on_ 5 (some 8) (fl 8 63) fun K hK => ?_
 refine go_ Try.func90 #[.pointer (some ⟨g, 0, none⟩)] ?_
 refine (Rd.u32_any _ g base xs _ _ HR2.out).mono ?_
 rw [HT2.out]
 rintro e W3 ⟨rfl, hr3, hg3⟩
 have HR3 := Aside0.mk hr3
 have HK3 := Aside0.mk (blk_grown HK2.out hg3 qj)
 have HQ3 := Aside0.mk (blk_grown HQ2.out hg3 qj)
 have HG3 := Aside0.mk (grown_tr HG2.out hg3)
 clear hr3 hg3 HR2 HK2 HQ2 HG2
 refine nx_ hK ((blk_cell HK3.out 0).trans rfl) fun hHeld => ?_
 clear hK K
 refine pu_ 6 9 (fl 8 127) ?_
 refine on_ 7 none (fl 8 255) fun K hK => ?_
 refine skip_ (w1 := (W3.setCell ⟨W.heap.size + 1, 0, none⟩ (.int .i64 t1.1)).setCell ⟨W.heap.size + 1, 1, none⟩ (.int .i64 t2.1)) (by rfl) rfl ?hrun ?_
 case hrun =>
  have c0 : W3.cell? ⟨W.heap.size + 1, 0, none⟩ = some (.int .i64 0) := (blk_cell HQ3.out 0).trans rfl
  have c1 : W3.cell? ⟨W.heap.size + 1, 1, none⟩ = some (.int .i64 0) := (blk_cell HQ3.out 1).trans rfl
  have f0 := blk_frozen HQ3.out 0
  have f1 := blk_frozen HQ3.out 1
  first | (go_simp; done) | (go_simp; rfl)
 have HQ4 := Aside0.mk ((blk_set (blk_set HQ3.out 0 (.int .i64 t1.1)) 1 (.int .i64 t2.1)).trans rfl)
 have hgs := grown_tr (grown_setCell W3 (W.heap.size + 1) 0 (.int .i64 t1.1)) (grown_setCell _ (W.heap.size + 1) 1 (.int .i64 t2.1))
 have HK4 := Aside0.mk (blk_grown HK3.out hgs qn)
 have HR4 := Aside0.mk (HR3.out.keep (fun i hi => hgs.block i (by have := HLT.out.2; have := HG3.out.size; omega) qj))
 have HG4 := Aside0.mk (grown_new HG3.out hgs (by omega))
 clear hgs HK3 HR3 HG3 HQ3
 generalize ((W3.setCell ⟨W.heap.size + 1, 0, none⟩ (.int .i64 t1.1)).setCell ⟨W.heap.size + 1, 1, none⟩ (.int .i64 t2.1)) = W4 at HQ4 HK4 HR4 HG4 ⊢
 refine hK.out _ _ ((blk_cell HK4.out 0).trans rfl) (fun hHeld => ?_)
 clear hK K
 refine dn_ ?_
 go_wp2
 have c0 : W4.cell? ⟨W.heap.size + 1, 0, none⟩ = some (.int .i64 t1.1) := (blk_cell HQ4.out 0).trans rfl
 have c1 : W4.cell? ⟨W.heap.size + 1, 1, none⟩ = some (.int .i64 t2.1) := (blk_cell HQ4.out 1).trans rfl
 exact bodyPost_ret (v := .agg #[.int .i64 t1.1, .int .i64 t2.1]) (by simp [results, Try.results43, go_sem, c0, c1]) rfl ⟨rfl, HR4.out, HG4.out⟩
/-- All but the reader's block and the request's is as it was. -/
def G2 (W w' : World) (g gq : Nat) : Prop := w'.os = W.os ∧ w'.tape = W.tape ∧ w'.output = W.output ∧ W.heap.size ≤ w'.heap.size ∧ ∀ i, i < W.heap.size → i ≠ g → i ≠ gq → w'.heap[i]? = W.heap[i]?
theorem G2.grown {W w1 w2 : World} {g gq k : Nat} (h : G2 W w1 g gq) (hg : w1.grownBy w2 (some k)) (hk : k = g ∨ k = gq ∨ W.heap.size ≤ k) : G2 W w2 g gq :=
 ⟨hg.os.trans h.1, hg.tape.trans h.2.1, hg.output.trans h.2.2.1, Nat.le_trans h.2.2.2.1 hg.size, fun i hi h1 h2 => (hg.block i (Nat.lt_of_lt_of_le hi h.2.2.2.1) (fun e => by injection e with e; omega)).trans (h.2.2.2.2 i hi h1 h2)⟩
theorem G2.below {W w1 : World} (g gq : Nat) (h : Below W.heap.size W w1) : G2 W w1 g gq := ⟨h.os, h.tape, h.output, h.size, fun i hi _ _ => h.block i hi⟩
def GetPost (W : World) (g base gq : Nat) (xs : List Int) (r : Rq × Int × Int) (e : Ending) (w' : World) : Prop := e = .returned (.tuple #[]) ∧ Rd.Rdr w' g base xs r.2.1 r.2.2 ∧ w'.heap[gq]? = some (.cells r.1.cells 30 (0, 0)) ∧ G2 W w' g gq
def getF (xs : List Int) (c : Nat) (q : Rq) (p err : Int) : Rq × Int × Int :=
 if c = 83 then ({ q with ses := (Rd.takeF xs p err 1).1 }, (Rd.takeF xs p err 1).2)
 else if c = 66 then ({ q with bu := strOfNums (restF xs (Rd.takeF xs p err 1).1.toNat (Rd.takeF xs p err 1).2.1 (Rd.takeF xs p err 1).2.2 []).1 }, (restF xs (Rd.takeF xs p err 1).1.toNat (Rd.takeF xs p err 1).2.1 (Rd.takeF xs p err 1).2.2 []).2)
 else if c = 79 then ({ q with ob := strOfNums (restF xs (Rd.takeF xs p err 1).1.toNat (Rd.takeF xs p err 1).2.1 (Rd.takeF xs p err 1).2.2 []).1 }, (restF xs (Rd.takeF xs p err 1).1.toNat (Rd.takeF xs p err 1).2.1 (Rd.takeF xs p err 1).2.2 []).2)
 else if c = 86 then ({ q with ve := strOfNums (restF xs (Rd.takeF xs p err 1).1.toNat (Rd.takeF xs p err 1).2.1 (Rd.takeF xs p err 1).2.2 []).1 }, (restF xs (Rd.takeF xs p err 1).1.toNat (Rd.takeF xs p err 1).2.1 (Rd.takeF xs p err 1).2.2 []).2)
 else if c = 80 then ({ q with pr := strOfNums (restF xs (Rd.takeF xs p err 1).1.toNat (Rd.takeF xs p err 1).2.1 (Rd.takeF xs p err 1).2.2 []).1 }, (restF xs (Rd.takeF xs p err 1).1.toNat (Rd.takeF xs p err 1).2.1 (Rd.takeF xs p err 1).2.2 []).2)
 else if c = 68 then ({ q with de := strOfNums (restF xs (Rd.takeF xs p err 1).1.toNat (Rd.takeF xs p err 1).2.1 (Rd.takeF xs p err 1).2.2 []).1 }, (restF xs (Rd.takeF xs p err 1).1.toNat (Rd.takeF xs p err 1).2.1 (Rd.takeF xs p err 1).2.2 []).2)
 else if c = 88 then ({ q with bo := strOfNums (restF xs (Rd.takeF xs p err 2).1.toNat (Rd.takeF xs p err 2).2.1 (Rd.takeF xs p err 2).2.2 []).1 }, (restF xs (Rd.takeF xs p err 2).1.toNat (Rd.takeF xs p err 2).2.1 (Rd.takeF xs p err 2).2.2 []).2)
 else if c = 67 then (if (Rd.takeF xs p err 1).1 = 2 then ({ q with ck := (Rd.takeF xs p err 1).1, re := (tagF xs (Rd.takeF xs p err 1).2.1 (Rd.takeF xs p err 1).2.2).1.1, im := (tagF xs (Rd.takeF xs p err 1).2.1 (Rd.takeF xs p err 1).2.2).1.2 }, (tagF xs (Rd.takeF xs p err 1).2.1 (Rd.takeF xs p err 1).2.2).2) else ({ q with ck := (Rd.takeF xs p err 1).1 }, (Rd.takeF xs p err 1).2))
 else if c = 73 then ({ q with id := (Rd.takeF xs p err 8).1 }, (Rd.takeF xs p err 8).2)
 else if c = 78 then ({ q with n := (Rd.takeF xs p err 2).1 }, (Rd.takeF xs p err 2).2)
 else (q, p, err)
set_option maxHeartbeats 4000000 in
set_option maxRecDepth 100000 in
theorem wire_reader_get.get83 (W : World) (g base gq : Nat) (xs : List Int) (p err : Int) (q : Rq) (hR : Rd.Rdr W g base xs p err) (hq : W.heap[gq]? = some (.cells q.cells 30 (0, 0))) (hgq : g < gq) :
  Calls Try.prog 27 #[.agg #[.pointer (some ⟨g, 0, none⟩)], .pointer (some ⟨gq, 0, none⟩), .int .i32 83] W (GetPost W g base gq xs (getF xs 83 q p err)) := by
 have HLT := Aside0.mk hR.lt
 have HGQ := Aside0.mk hgq
 have HQL := Aside0.mk (blk_lt hq)
 have HB := Aside0.mk (Rdr_bytes hR)
 obtain ⟨t, ht⟩ : ∃ t, Rd.takeF xs p err 1 = t := ⟨_, rfl⟩
 have hf : getF xs 83 q p err = ({ q with ses := t.1 }, t.2) := by simp only [getF, ht]; rfl
 rw [hf]
 have HT := Aside0.mk ht
 clear hf ht
 have HK1 := Aside0.mk (show (W.alloc (.cells #[.pointer (some ⟨g, 0, none⟩)] 75)).heap[W.heap.size]? = some (.cells #[.pointer (some ⟨g, 0, none⟩)] 75 (0, 0)) from (blk_new W (.cells #[.pointer (some ⟨g, 0, none⟩)] 75)))
 have HQ1 := Aside0.mk (show (W.alloc (.cells #[.pointer (some ⟨g, 0, none⟩)] 75)).heap[gq]? = some (.cells q.cells 30 (0, 0)) from (blk_alloc hq (.cells #[.pointer (some ⟨g, 0, none⟩)] 75)))
 have HR1 := Aside0.mk (show Rd.Rdr (W.alloc (.cells #[.pointer (some ⟨g, 0, none⟩)] 75)) g base xs p err from Rd.Rdr.below (W := W) hR (below_alloc (Below.refl _ _) _))
 have HG1 := Aside0.mk (show G2 W (W.alloc (.cells #[.pointer (some ⟨g, 0, none⟩)] 75)) g gq from G2.below g gq (below_alloc (Below.refl _ _) _))
 clear hR hq hgq
 go_enter Try.func27, Try.ntmps27
 have c0 : (W.alloc (.cells #[.pointer (some ⟨g, 0, none⟩)] 75)).cell? ⟨W.heap.size, 0, none⟩ = some (.pointer (some ⟨g, 0, none⟩)) := (blk_cell HK1.out 0).trans rfl
 go_wp2_with fail
 refine (Rd.u8_any _ g base xs p err HR1.out).mono ?_
 rw [HT.out]
 rintro e W2 ⟨rfl, hr2, hg2⟩
 clear c0
 have HR2 := Aside0.mk hr2
 have HK2 := Aside0.mk (blk_grown HK1.out hg2 qj)
 have HQ2 := Aside0.mk (blk_grown HQ1.out hg2 qk)
 have HG2 := Aside0.mk (HG1.out.grown hg2 (.inl rfl))
 clear hr2 hg2 HR1 HK1 HQ1 HG1
 have c1 : W2.cell? ⟨gq, 1, none⟩ = some (.int .i64 q.ses) := (blk_cell HQ2.out 1).trans rfl
 have f1 := blk_frozen HQ2.out 1
 go_wp2
 clear c1 f1
 have hgs := grown_setCell W2 gq 1 (.int .i64 t.1)
 have HK3 := Aside0.mk (blk_grown HK2.out hgs qp)
 have HR3 := Aside0.mk (HR2.out.keep (fun i hi => hgs.block i (qs HG2.out) qk))
 have HG3 := Aside0.mk (HG2.out.grown hgs (.inr (.inl rfl)))
 have HQ3 := Aside0.mk (show (W2.setCell ⟨gq, 1, none⟩ (.int .i64 t.1)).heap[gq]? = some (.cells (Rq.cells { q with ses := t.1 }) 30 (0, 0)) from (blk_set HQ2.out 1 (.int .i64 t.1)).trans rfl)
 exact bodyPost_end (v := .tuple #[]) qt rfl ⟨rfl, HR3.out, HQ3.out, HG3.out⟩
set_option maxHeartbeats 4000000 in
set_option maxRecDepth 100000 in
theorem wire_reader_get.get73 (W : World) (g base gq : Nat) (xs : List Int) (p err : Int) (q : Rq) (hR : Rd.Rdr W g base xs p err) (hq : W.heap[gq]? = some (.cells q.cells 30 (0, 0))) (hgq : g < gq) :
  Calls Try.prog 27 #[.agg #[.pointer (some ⟨g, 0, none⟩)], .pointer (some ⟨gq, 0, none⟩), .int .i32 73] W (GetPost W g base gq xs (getF xs 73 q p err)) := by
 have HLT := Aside0.mk hR.lt
 have HGQ := Aside0.mk hgq
 have HQL := Aside0.mk (blk_lt hq)
 have HB := Aside0.mk (Rdr_bytes hR)
 obtain ⟨t, ht⟩ : ∃ t, Rd.takeF xs p err 8 = t := ⟨_, rfl⟩
 have hf : getF xs 73 q p err = ({ q with id := t.1 }, t.2) := by simp only [getF, ht]; rfl
 rw [hf]
 have HT := Aside0.mk ht
 clear hf ht
 have HK1 := Aside0.mk (show (W.alloc (.cells #[.pointer (some ⟨g, 0, none⟩)] 75)).heap[W.heap.size]? = some (.cells #[.pointer (some ⟨g, 0, none⟩)] 75 (0, 0)) from (blk_new W (.cells #[.pointer (some ⟨g, 0, none⟩)] 75)))
 have HQ1 := Aside0.mk (show (W.alloc (.cells #[.pointer (some ⟨g, 0, none⟩)] 75)).heap[gq]? = some (.cells q.cells 30 (0, 0)) from (blk_alloc hq (.cells #[.pointer (some ⟨g, 0, none⟩)] 75)))
 have HR1 := Aside0.mk (show Rd.Rdr (W.alloc (.cells #[.pointer (some ⟨g, 0, none⟩)] 75)) g base xs p err from Rd.Rdr.below (W := W) hR (below_alloc (Below.refl _ _) _))
 have HG1 := Aside0.mk (show G2 W (W.alloc (.cells #[.pointer (some ⟨g, 0, none⟩)] 75)) g gq from G2.below g gq (below_alloc (Below.refl _ _) _))
 clear hR hq hgq
 go_enter Try.func27, Try.ntmps27
 have c0 : (W.alloc (.cells #[.pointer (some ⟨g, 0, none⟩)] 75)).cell? ⟨W.heap.size, 0, none⟩ = some (.pointer (some ⟨g, 0, none⟩)) := (blk_cell HK1.out 0).trans rfl
 go_wp2_with fail
 refine (Rd.i64_any _ g base xs p err HR1.out).mono ?_
 rw [HT.out]
 rintro e W2 ⟨rfl, hr2, hg2⟩
 clear c0
 have HR2 := Aside0.mk hr2
 have HK2 := Aside0.mk (blk_grown HK1.out hg2 qj)
 have HQ2 := Aside0.mk (blk_grown HQ1.out hg2 qk)
 have HG2 := Aside0.mk (HG1.out.grown hg2 (.inl rfl))
 clear hr2 hg2 HR1 HK1 HQ1 HG1
 have c1 : W2.cell? ⟨gq, 11, none⟩ = some (.int .i64 q.id) := (blk_cell HQ2.out 11).trans rfl
 have f1 := blk_frozen HQ2.out 11
 go_wp2
 clear c1 f1
 have hgs := grown_setCell W2 gq 11 (.int .i64 t.1)
 have HK3 := Aside0.mk (blk_grown HK2.out hgs qp)
 have HR3 := Aside0.mk (HR2.out.keep (fun i hi => hgs.block i (qs HG2.out) qk))
 have HG3 := Aside0.mk (HG2.out.grown hgs (.inr (.inl rfl)))
 have HQ3 := Aside0.mk (show (W2.setCell ⟨gq, 11, none⟩ (.int .i64 t.1)).heap[gq]? = some (.cells (Rq.cells { q with id := t.1 }) 30 (0, 0)) from (blk_set HQ2.out 11 (.int .i64 t.1)).trans rfl)
 exact bodyPost_end (v := .tuple #[]) qt rfl ⟨rfl, HR3.out, HQ3.out, HG3.out⟩
set_option maxHeartbeats 4000000 in
set_option maxRecDepth 100000 in
theorem wire_reader_get.get78 (W : World) (g base gq : Nat) (xs : List Int) (p err : Int) (q : Rq) (hR : Rd.Rdr W g base xs p err) (hq : W.heap[gq]? = some (.cells q.cells 30 (0, 0))) (hgq : g < gq) :
  Calls Try.prog 27 #[.agg #[.pointer (some ⟨g, 0, none⟩)], .pointer (some ⟨gq, 0, none⟩), .int .i32 78] W (GetPost W g base gq xs (getF xs 78 q p err)) := by
 have HLT := Aside0.mk hR.lt
 have HGQ := Aside0.mk hgq
 have HQL := Aside0.mk (blk_lt hq)
 have HB := Aside0.mk (Rdr_bytes hR)
 obtain ⟨t, ht⟩ : ∃ t, Rd.takeF xs p err 2 = t := ⟨_, rfl⟩
 have hf : getF xs 78 q p err = ({ q with n := t.1 }, t.2) := by simp only [getF, ht]; rfl
 rw [hf]
 have HT := Aside0.mk ht
 clear hf ht
 have HK1 := Aside0.mk (show (W.alloc (.cells #[.pointer (some ⟨g, 0, none⟩)] 75)).heap[W.heap.size]? = some (.cells #[.pointer (some ⟨g, 0, none⟩)] 75 (0, 0)) from (blk_new W (.cells #[.pointer (some ⟨g, 0, none⟩)] 75)))
 have HQ1 := Aside0.mk (show (W.alloc (.cells #[.pointer (some ⟨g, 0, none⟩)] 75)).heap[gq]? = some (.cells q.cells 30 (0, 0)) from (blk_alloc hq (.cells #[.pointer (some ⟨g, 0, none⟩)] 75)))
 have HR1 := Aside0.mk (show Rd.Rdr (W.alloc (.cells #[.pointer (some ⟨g, 0, none⟩)] 75)) g base xs p err from Rd.Rdr.below (W := W) hR (below_alloc (Below.refl _ _) _))
 have HG1 := Aside0.mk (show G2 W (W.alloc (.cells #[.pointer (some ⟨g, 0, none⟩)] 75)) g gq from G2.below g gq (below_alloc (Below.refl _ _) _))
 clear hR hq hgq
 go_enter Try.func27, Try.ntmps27
 have c0 : (W.alloc (.cells #[.pointer (some ⟨g, 0, none⟩)] 75)).cell? ⟨W.heap.size, 0, none⟩ = some (.pointer (some ⟨g, 0, none⟩)) := (blk_cell HK1.out 0).trans rfl
 go_wp2_with fail
 refine (Rd.u16_any _ g base xs p err HR1.out).mono ?_
 rw [HT.out]
 rintro e W2 ⟨rfl, hr2, hg2⟩
 clear c0
 have HR2 := Aside0.mk hr2
 have HK2 := Aside0.mk (blk_grown HK1.out hg2 qj)
 have HQ2 := Aside0.mk (blk_grown HQ1.out hg2 qk)
 have HG2 := Aside0.mk (HG1.out.grown hg2 (.inl rfl))
 clear hr2 hg2 HR1 HK1 HQ1 HG1
 have c1 : W2.cell? ⟨gq, 12, none⟩ = some (.int .i64 q.n) := (blk_cell HQ2.out 12).trans rfl
 have f1 := blk_frozen HQ2.out 12
 go_wp2
 clear c1 f1
 have hgs := grown_setCell W2 gq 12 (.int .i64 t.1)
 have HK3 := Aside0.mk (blk_grown HK2.out hgs qp)
 have HR3 := Aside0.mk (HR2.out.keep (fun i hi => hgs.block i (qs HG2.out) qk))
 have HG3 := Aside0.mk (HG2.out.grown hgs (.inr (.inl rfl)))
 have HQ3 := Aside0.mk (show (W2.setCell ⟨gq, 12, none⟩ (.int .i64 t.1)).heap[gq]? = some (.cells (Rq.cells { q with n := t.1 }) 30 (0, 0)) from (blk_set HQ2.out 12 (.int .i64 t.1)).trans rfl)
 exact bodyPost_end (v := .tuple #[]) qt rfl ⟨rfl, HR3.out, HQ3.out, HG3.out⟩
def wire_reader_get.T5 : Bool × List (List Nat × List Nat) := (true, [([], []), ([], []), ([], []), ([2], [2]), ([3], [3]), ([1, 4, 4], [1, 4]), ([0, 0, 1, 2, 3, 4, 5], [0]), ([6, 0, 1, 2, 3, 4, 5], [6]), ([7, 5, 5, 0, 1, 2, 3, 4, 5], [5, 7])])
def wire_reader_get.B5 : List Nat := [0, 0, 0, 4, 12, 30, 63, 127, 255]
theorem wire_reader_get.tab5 : rtab .any (opsOf Try.f27 5) = wire_reader_get.T5 := by kernel_rfl
theorem wire_reader_get.bits5 : waitsOk wire_reader_get.T5.2 wire_reader_get.B5 = true := by kernel_rfl
set_option maxHeartbeats 4000000 in
set_option maxRecDepth 100000 in
theorem wire_reader_get.get66 (W : World) (g base gq : Nat) (xs : List Int) (p err : Int) (q : Rq) (hR : Rd.Rdr W g base xs p err) (hq : W.heap[gq]? = some (.cells q.cells 30 (0, 0))) (hgq : g < gq) :
  Calls Try.prog 27 #[.agg #[.pointer (some ⟨g, 0, none⟩)], .pointer (some ⟨gq, 0, none⟩), .int .i32 66] W (GetPost W g base gq xs (getF xs 66 q p err)) := by
 have HLT := Aside0.mk hR.lt
 have HGQ := Aside0.mk hgq
 have HQL := Aside0.mk (blk_lt hq)
 have HB := Aside0.mk (Rdr_bytes hR)
 obtain ⟨t, ht⟩ : ∃ t, Rd.takeF xs p err 1 = t := ⟨_, rfl⟩
 obtain ⟨n, hn, hn2⟩ : ∃ n : Nat, t.1 = (n : Int) ∧ n ≤ 100000 := by
  have h := take1_bd xs p err HB.out
  rw [ht] at h
  exact ⟨t.1.toNat, by omega, by omega⟩
 obtain ⟨s, hs⟩ : ∃ s, restF xs n t.2.1 t.2.2 [] = s := ⟨_, rfl⟩
 have hf : getF xs 66 q p err = ({ q with bu := strOfNums s.1 }, s.2) := by simp only [getF, ht, hn, Int.toNat_natCast, hs]; rfl
 rw [hf]
 have HT := Aside0.mk ht
 have HS := Aside0.mk hs
 have HN := Aside0.mk hn
 have HN2 := Aside0.mk hn2
 clear hf ht hs hn hn2
 have HK1 := Aside0.mk (show (W.alloc (.cells #[.pointer (some ⟨g, 0, none⟩)] 75)).drew.heap[W.heap.size]? = some (.cells #[.pointer (some ⟨g, 0, none⟩)] 75 (0, 0)) from (blk_drew (blk_new W (.cells #[.pointer (some ⟨g, 0, none⟩)] 75))))
 have HQ1 := Aside0.mk (show (W.alloc (.cells #[.pointer (some ⟨g, 0, none⟩)] 75)).drew.heap[gq]? = some (.cells q.cells 30 (0, 0)) from (blk_drew (blk_alloc hq (.cells #[.pointer (some ⟨g, 0, none⟩)] 75))))
 have HR1 := Aside0.mk (show Rd.Rdr (W.alloc (.cells #[.pointer (some ⟨g, 0, none⟩)] 75)).drew g base xs p err from Rd.Rdr.below (W := W) hR (below_drew1 (below_alloc (Below.refl _ _) _)))
 have HG1 := Aside0.mk (show G2 W (W.alloc (.cells #[.pointer (some ⟨g, 0, none⟩)] 75)).drew g gq from G2.below g gq (below_drew1 (below_alloc (Below.refl _ _) _)))
 clear hR hq hgq
 go_enter Try.func27, Try.ntmps27
 go_wp2_with fail
 refine start_ (n := 9) (S := fun w' => w'.cell? ⟨W.heap.size, 0, none⟩ = some (.pointer (some ⟨g, 0, none⟩))) (ds := []) (fl 9 0) (by kernel_rfl) rfl rfl ((blk_cell HK1.out 0).trans rfl) (fun hHeld => ?_)
 refine with_tabW wire_reader_get.tab5 wire_reader_get.bits5 (fun HT_ HW_ => ?_)
 generalize (W.alloc (.cells #[.pointer (some ⟨g, 0, none⟩)] 75)).drew = W1 at HR1 HK1 HQ1 HG1 hHeld ⊢
 refine pu_ 0 17 (fl 9 1) ?_
 refine pu_ 2 19 (fl 9 5) ?_
 refine tk_1 1 18 (fl 9 7) hHeld ?_
 refine tk_1 3 20 (fl 9 15) hHeld ?_
 refine on_ 4 (some 21) (fl 9 31) fun K hK => ?_
 refine go_ Try.func26 #[.pointer (some ⟨g, 0, none⟩)] ?_
 refine (Rd.u8_any _ g base xs p err HR1.out).mono ?_
 rw [HT.out]
 rintro e W2 ⟨rfl, hr2, hg2⟩
 have HR2 := Aside0.mk hr2
 have HK2 := Aside0.mk (blk_grown HK1.out hg2 qj)
 have HQ2 := Aside0.mk (blk_grown HQ1.out hg2 qk)
 have HG2 := Aside0.mk (HG1.out.grown hg2 (.inl rfl))
 clear hr2 hg2 HR1 HK1 HQ1 HG1
 refine nx_ hK ((blk_cell HK2.out 0).trans rfl) fun hHeld => ?_
 clear hK K
 refine on_ 5 (some 22) (fl 9 63) fun K hK => ?_
 refine go_ Try.func69 #[.agg #[.pointer (some ⟨g, 0, none⟩)], .int .i64 t.1] ?_
 rw [HN.out]
 refine (wire_reader_rest.rest _ g base xs _ _ n HN2.out HR2.out).mono ?_
 rw [HS.out]
 rintro e W3 ⟨rfl, hr3, hg3⟩
 have HR3 := Aside0.mk hr3
 have HK3 := Aside0.mk (blk_grown HK2.out hg3 qj)
 have HQ3 := Aside0.mk (blk_grown HQ2.out hg3 qk)
 have HG3 := Aside0.mk (HG2.out.grown hg3 (.inl rfl))
 clear hr3 hg3 HR2 HK2 HQ2 HG2
 refine nx_ hK ((blk_cell HK3.out 0).trans rfl) fun hHeld => ?_
 clear hK K
 refine pu_ 6 23 (fl 9 127) ?_
 refine pu_ 7 24 (fl 9 255) ?_
 refine on_ 8 none (fl 9 511) fun K hK => ?_
 refine skip_ (w1 := (W3.setCell ⟨gq, 2, none⟩ (.string (strOfNums s.1)))) (by rfl) rfl ?hrun ?_
 case hrun =>
  have c1 : W3.cell? ⟨gq, 2, none⟩ = some (.string q.bu) := (blk_cell HQ3.out 2).trans rfl
  have f1 := blk_frozen HQ3.out 2
  first | (go_simp; done) | (go_simp; rfl)
 have hgs := grown_setCell W3 gq 2 (.string (strOfNums s.1))
 have HK4 := Aside0.mk (blk_grown HK3.out hgs qp)
 have HR4 := Aside0.mk (HR3.out.keep (fun i hi => hgs.block i (qs HG3.out) qk))
 have HG4 := Aside0.mk (HG3.out.grown hgs (.inr (.inl rfl)))
 have HQ4 := Aside0.mk (show (W3.setCell ⟨gq, 2, none⟩ (.string (strOfNums s.1))).heap[gq]? = some (.cells (Rq.cells { q with bu := strOfNums s.1 }) 30 (0, 0)) from (blk_set HQ3.out 2 (.string (strOfNums s.1))).trans rfl)
 clear hgs HK3 HR3 HG3 HQ3
 generalize (W3.setCell ⟨gq, 2, none⟩ (.string (strOfNums s.1))) = W4 at HQ4 HK4 HR4 HG4 ⊢
 refine hK.out _ _ ((blk_cell HK4.out 0).trans rfl) (fun hHeld => ?_)
 clear hK K
 refine dn_ ?_
 go_wp2
 exact bodyPost_end (v := .tuple #[]) qt rfl ⟨rfl, HR4.out, HQ4.out, HG4.out⟩
def wire_reader_get.T7 : Bool × List (List Nat × List Nat) := (true, [([], []), ([], []), ([], []), ([2], [2]), ([3], [3]), ([1, 4, 4], [1, 4]), ([0, 0, 1, 2, 3, 4, 5], [0]), ([6, 0, 1, 2, 3, 4, 5], [6]), ([7, 5, 5, 0, 1, 2, 3, 4, 5], [5, 7])])
def wire_reader_get.B7 : List Nat := [0, 0, 0, 4, 12, 30, 63, 127, 255]
theorem wire_reader_get.tab7 : rtab .any (opsOf Try.f27 7) = wire_reader_get.T7 := by kernel_rfl
theorem wire_reader_get.bits7 : waitsOk wire_reader_get.T7.2 wire_reader_get.B7 = true := by kernel_rfl
set_option maxHeartbeats 4000000 in
set_option maxRecDepth 100000 in
theorem wire_reader_get.get79 (W : World) (g base gq : Nat) (xs : List Int) (p err : Int) (q : Rq) (hR : Rd.Rdr W g base xs p err) (hq : W.heap[gq]? = some (.cells q.cells 30 (0, 0))) (hgq : g < gq) :
  Calls Try.prog 27 #[.agg #[.pointer (some ⟨g, 0, none⟩)], .pointer (some ⟨gq, 0, none⟩), .int .i32 79] W (GetPost W g base gq xs (getF xs 79 q p err)) := by
 have HLT := Aside0.mk hR.lt
 have HGQ := Aside0.mk hgq
 have HQL := Aside0.mk (blk_lt hq)
 have HB := Aside0.mk (Rdr_bytes hR)
 obtain ⟨t, ht⟩ : ∃ t, Rd.takeF xs p err 1 = t := ⟨_, rfl⟩
 obtain ⟨n, hn, hn2⟩ : ∃ n : Nat, t.1 = (n : Int) ∧ n ≤ 100000 := by
  have h := take1_bd xs p err HB.out
  rw [ht] at h
  exact ⟨t.1.toNat, by omega, by omega⟩
 obtain ⟨s, hs⟩ : ∃ s, restF xs n t.2.1 t.2.2 [] = s := ⟨_, rfl⟩
 have hf : getF xs 79 q p err = ({ q with ob := strOfNums s.1 }, s.2) := by simp only [getF, ht, hn, Int.toNat_natCast, hs]; rfl
 rw [hf]
 have HT := Aside0.mk ht
 have HS := Aside0.mk hs
 have HN := Aside0.mk hn
 have HN2 := Aside0.mk hn2
 clear hf ht hs hn hn2
 have HK1 := Aside0.mk (show (W.alloc (.cells #[.pointer (some ⟨g, 0, none⟩)] 75)).drew.heap[W.heap.size]? = some (.cells #[.pointer (some ⟨g, 0, none⟩)] 75 (0, 0)) from (blk_drew (blk_new W (.cells #[.pointer (some ⟨g, 0, none⟩)] 75))))
 have HQ1 := Aside0.mk (show (W.alloc (.cells #[.pointer (some ⟨g, 0, none⟩)] 75)).drew.heap[gq]? = some (.cells q.cells 30 (0, 0)) from (blk_drew (blk_alloc hq (.cells #[.pointer (some ⟨g, 0, none⟩)] 75))))
 have HR1 := Aside0.mk (show Rd.Rdr (W.alloc (.cells #[.pointer (some ⟨g, 0, none⟩)] 75)).drew g base xs p err from Rd.Rdr.below (W := W) hR (below_drew1 (below_alloc (Below.refl _ _) _)))
 have HG1 := Aside0.mk (show G2 W (W.alloc (.cells #[.pointer (some ⟨g, 0, none⟩)] 75)).drew g gq from G2.below g gq (below_drew1 (below_alloc (Below.refl _ _) _)))
 clear hR hq hgq
 go_enter Try.func27, Try.ntmps27
 go_wp2_with fail
 refine start_ (n := 9) (S := fun w' => w'.cell? ⟨W.heap.size, 0, none⟩ = some (.pointer (some ⟨g, 0, none⟩))) (ds := []) (fl 9 0) (by kernel_rfl) rfl rfl ((blk_cell HK1.out 0).trans rfl) (fun hHeld => ?_)
 refine with_tabW wire_reader_get.tab7 wire_reader_get.bits7 (fun HT_ HW_ => ?_)
 generalize (W.alloc (.cells #[.pointer (some ⟨g, 0, none⟩)] 75)).drew = W1 at HR1 HK1 HQ1 HG1 hHeld ⊢
 refine pu_ 0 27 (fl 9 1) ?_
 refine pu_ 2 29 (fl 9 5) ?_
 refine tk_1 1 28 (fl 9 7) hHeld ?_
 refine tk_1 3 30 (fl 9 15) hHeld ?_
 refine on_ 4 (some 31) (fl 9 31) fun K hK => ?_
 refine go_ Try.func26 #[.pointer (some ⟨g, 0, none⟩)] ?_
 refine (Rd.u8_any _ g base xs p err HR1.out).mono ?_
 rw [HT.out]
 rintro e W2 ⟨rfl, hr2, hg2⟩
 have HR2 := Aside0.mk hr2
 have HK2 := Aside0.mk (blk_grown HK1.out hg2 qj)
 have HQ2 := Aside0.mk (blk_grown HQ1.out hg2 qk)
 have HG2 := Aside0.mk (HG1.out.grown hg2 (.inl rfl))
 clear hr2 hg2 HR1 HK1 HQ1 HG1
 refine nx_ hK ((blk_cell HK2.out 0).trans rfl) fun hHeld => ?_
 clear hK K
 refine on_ 5 (some 32) (fl 9 63) fun K hK => ?_
 refine go_ Try.func69 #[.agg #[.pointer (some ⟨g, 0, none⟩)], .int .i64 t.1] ?_
 rw [HN.out]
 refine (wire_reader_rest.rest _ g base xs _ _ n HN2.out HR2.out).mono ?_
 rw [HS.out]
 rintro e W3 ⟨rfl, hr3, hg3⟩
 have HR3 := Aside0.mk hr3
 have HK3 := Aside0.mk (blk_grown HK2.out hg3 qj)
 have HQ3 := Aside0.mk (blk_grown HQ2.out hg3 qk)
 have HG3 := Aside0.mk (HG2.out.grown hg3 (.inl rfl))
 clear hr3 hg3 HR2 HK2 HQ2 HG2
 refine nx_ hK ((blk_cell HK3.out 0).trans rfl) fun hHeld => ?_
 clear hK K
 refine pu_ 6 33 (fl 9 127) ?_
 refine pu_ 7 34 (fl 9 255) ?_
 refine on_ 8 none (fl 9 511) fun K hK => ?_
 refine skip_ (w1 := (W3.setCell ⟨gq, 3, none⟩ (.string (strOfNums s.1)))) (by rfl) rfl ?hrun ?_
 case hrun =>
  have c1 : W3.cell? ⟨gq, 3, none⟩ = some (.string q.ob) := (blk_cell HQ3.out 3).trans rfl
  have f1 := blk_frozen HQ3.out 3
  first | (go_simp; done) | (go_simp; rfl)
 have hgs := grown_setCell W3 gq 3 (.string (strOfNums s.1))
 have HK4 := Aside0.mk (blk_grown HK3.out hgs qp)
 have HR4 := Aside0.mk (HR3.out.keep (fun i hi => hgs.block i (qs HG3.out) qk))
 have HG4 := Aside0.mk (HG3.out.grown hgs (.inr (.inl rfl)))
 have HQ4 := Aside0.mk (show (W3.setCell ⟨gq, 3, none⟩ (.string (strOfNums s.1))).heap[gq]? = some (.cells (Rq.cells { q with ob := strOfNums s.1 }) 30 (0, 0)) from (blk_set HQ3.out 3 (.string (strOfNums s.1))).trans rfl)
 clear hgs HK3 HR3 HG3 HQ3
 generalize (W3.setCell ⟨gq, 3, none⟩ (.string (strOfNums s.1))) = W4 at HQ4 HK4 HR4 HG4 ⊢
 refine hK.out _ _ ((blk_cell HK4.out 0).trans rfl) (fun hHeld => ?_)
 clear hK K
 refine dn_ ?_
 go_wp2
 exact bodyPost_end (v := .tuple #[]) qt rfl ⟨rfl, HR4.out, HQ4.out, HG4.out⟩
def wire_reader_get.T9 : Bool × List (List Nat × List Nat) := (true, [([], []), ([], []), ([], []), ([2], [2]), ([3], [3]), ([1, 4, 4], [1, 4]), ([0, 0, 1, 2, 3, 4, 5], [0]), ([6, 0, 1, 2, 3, 4, 5], [6]), ([7, 5, 5, 0, 1, 2, 3, 4, 5], [5, 7])])
def wire_reader_get.B9 : List Nat := [0, 0, 0, 4, 12, 30, 63, 127, 255]
theorem wire_reader_get.tab9 : rtab .any (opsOf Try.f27 9) = wire_reader_get.T9 := by kernel_rfl
theorem wire_reader_get.bits9 : waitsOk wire_reader_get.T9.2 wire_reader_get.B9 = true := by kernel_rfl
set_option maxHeartbeats 4000000 in
set_option maxRecDepth 100000 in
theorem wire_reader_get.get86 (W : World) (g base gq : Nat) (xs : List Int) (p err : Int) (q : Rq) (hR : Rd.Rdr W g base xs p err) (hq : W.heap[gq]? = some (.cells q.cells 30 (0, 0))) (hgq : g < gq) :
  Calls Try.prog 27 #[.agg #[.pointer (some ⟨g, 0, none⟩)], .pointer (some ⟨gq, 0, none⟩), .int .i32 86] W (GetPost W g base gq xs (getF xs 86 q p err)) := by
 have HLT := Aside0.mk hR.lt
 have HGQ := Aside0.mk hgq
 have HQL := Aside0.mk (blk_lt hq)
 have HB := Aside0.mk (Rdr_bytes hR)
 obtain ⟨t, ht⟩ : ∃ t, Rd.takeF xs p err 1 = t := ⟨_, rfl⟩
 obtain ⟨n, hn, hn2⟩ : ∃ n : Nat, t.1 = (n : Int) ∧ n ≤ 100000 := by
  have h := take1_bd xs p err HB.out
  rw [ht] at h
  exact ⟨t.1.toNat, by omega, by omega⟩
 obtain ⟨s, hs⟩ : ∃ s, restF xs n t.2.1 t.2.2 [] = s := ⟨_, rfl⟩
 have hf : getF xs 86 q p err = ({ q with ve := strOfNums s.1 }, s.2) := by simp only [getF, ht, hn, Int.toNat_natCast, hs]; rfl
 rw [hf]
 have HT := Aside0.mk ht
 have HS := Aside0.mk hs
 have HN := Aside0.mk hn
 have HN2 := Aside0.mk hn2
 clear hf ht hs hn hn2
 have HK1 := Aside0.mk (show (W.alloc (.cells #[.pointer (some ⟨g, 0, none⟩)] 75)).drew.heap[W.heap.size]? = some (.cells #[.pointer (some ⟨g, 0, none⟩)] 75 (0, 0)) from (blk_drew (blk_new W (.cells #[.pointer (some ⟨g, 0, none⟩)] 75))))
 have HQ1 := Aside0.mk (show (W.alloc (.cells #[.pointer (some ⟨g, 0, none⟩)] 75)).drew.heap[gq]? = some (.cells q.cells 30 (0, 0)) from (blk_drew (blk_alloc hq (.cells #[.pointer (some ⟨g, 0, none⟩)] 75))))
 have HR1 := Aside0.mk (show Rd.Rdr (W.alloc (.cells #[.pointer (some ⟨g, 0, none⟩)] 75)).drew g base xs p err from Rd.Rdr.below (W := W) hR (below_drew1 (below_alloc (Below.refl _ _) _)))
 have HG1 := Aside0.mk (show G2 W (W.alloc (.cells #[.pointer (some ⟨g, 0, none⟩)] 75)).drew g gq from G2.below g gq (below_drew1 (below_alloc (Below.refl _ _) _)))
 clear hR hq hgq
 go_enter Try.func27, Try.ntmps27
 go_wp2_with fail
 refine start_ (n := 9) (S := fun w' => w'.cell? ⟨W.heap.size, 0, none⟩ = some (.pointer (some ⟨g, 0, none⟩))) (ds := []) (fl 9 0) (by kernel_rfl) rfl rfl ((blk_cell HK1.out 0).trans rfl) (fun hHeld => ?_)
 refine with_tabW wire_reader_get.tab9 wire_reader_get.bits9 (fun HT_ HW_ => ?_)
 generalize (W.alloc (.cells #[.pointer (some ⟨g, 0, none⟩)] 75)).drew = W1 at HR1 HK1 HQ1 HG1 hHeld ⊢
 refine pu_ 0 37 (fl 9 1) ?_
 refine pu_ 2 39 (fl 9 5) ?_
 refine tk_1 1 38 (fl 9 7) hHeld ?_
 refine tk_1 3 40 (fl 9 15) hHeld ?_
 refine on_ 4 (some 41) (fl 9 31) fun K hK => ?_
 refine go_ Try.func26 #[.pointer (some ⟨g, 0, none⟩)] ?_
 refine (Rd.u8_any _ g base xs p err HR1.out).mono ?_
 rw [HT.out]
 rintro e W2 ⟨rfl, hr2, hg2⟩
 have HR2 := Aside0.mk hr2
 have HK2 := Aside0.mk (blk_grown HK1.out hg2 qj)
 have HQ2 := Aside0.mk (blk_grown HQ1.out hg2 qk)
 have HG2 := Aside0.mk (HG1.out.grown hg2 (.inl rfl))
 clear hr2 hg2 HR1 HK1 HQ1 HG1
 refine nx_ hK ((blk_cell HK2.out 0).trans rfl) fun hHeld => ?_
 clear hK K
 refine on_ 5 (some 42) (fl 9 63) fun K hK => ?_
 refine go_ Try.func69 #[.agg #[.pointer (some ⟨g, 0, none⟩)], .int .i64 t.1] ?_
 rw [HN.out]
 refine (wire_reader_rest.rest _ g base xs _ _ n HN2.out HR2.out).mono ?_
 rw [HS.out]
 rintro e W3 ⟨rfl, hr3, hg3⟩
 have HR3 := Aside0.mk hr3
 have HK3 := Aside0.mk (blk_grown HK2.out hg3 qj)
 have HQ3 := Aside0.mk (blk_grown HQ2.out hg3 qk)
 have HG3 := Aside0.mk (HG2.out.grown hg3 (.inl rfl))
 clear hr3 hg3 HR2 HK2 HQ2 HG2
 refine nx_ hK ((blk_cell HK3.out 0).trans rfl) fun hHeld => ?_
 clear hK K
 refine pu_ 6 43 (fl 9 127) ?_
 refine pu_ 7 44 (fl 9 255) ?_
 refine on_ 8 none (fl 9 511) fun K hK => ?_
 refine skip_ (w1 := (W3.setCell ⟨gq, 4, none⟩ (.string (strOfNums s.1)))) (by rfl) rfl ?hrun ?_
 case hrun =>
  have c1 : W3.cell? ⟨gq, 4, none⟩ = some (.string q.ve) := (blk_cell HQ3.out 4).trans rfl
  have f1 := blk_frozen HQ3.out 4
  first | (go_simp; done) | (go_simp; rfl)
 have hgs := grown_setCell W3 gq 4 (.string (strOfNums s.1))
 have HK4 := Aside0.mk (blk_grown HK3.out hgs qp)
 have HR4 := Aside0.mk (HR3.out.keep (fun i hi => hgs.block i (qs HG3.out) qk))
 have HG4 := Aside0.mk (HG3.out.grown hgs (.inr (.inl rfl)))
 have HQ4 := Aside0.mk (show (W3.setCell ⟨gq, 4, none⟩ (.string (strOfNums s.1))).heap[gq]? = some (.cells (Rq.cells { q with ve := strOfNums s.1 }) 30 (0, 0)) from (blk_set HQ3.out 4 (.string (strOfNums s.1))).trans rfl)
 clear hgs HK3 HR3 HG3 HQ3
 generalize (W3.setCell ⟨gq, 4, none⟩ (.string (strOfNums s.1))) = W4 at HQ4 HK4 HR4 HG4 ⊢
 refine hK.out _ _ ((blk_cell HK4.out 0).trans rfl) (fun hHeld => ?_)
 clear hK K
 refine dn_ ?_
 go_wp2
 exact bodyPost_end (v := .tuple #[]) qt rfl ⟨rfl, HR4.out, HQ4.out, HG4.out⟩
def wire_reader_get.T11 : Bool × List (List Nat × List Nat) := (true, [([], []), ([], []), ([], []), ([2], [2]), ([3], [3]), ([1, 4, 4], [1, 4]), ([0, 0, 1, 2, 3, 4, 5], [0]), ([6, 0, 1, 2, 3, 4, 5], [6]), ([7, 5, 5, 0, 1, 2, 3, 4, 5], [5, 7])])
def wire_reader_get.B11 : List Nat := [0, 0, 0, 4, 12, 30, 63, 127, 255]
theorem wire_reader_get.tab11 : rtab .any (opsOf Try.f27 11) = wire_reader_get.T11 := by kernel_rfl
theorem wire_reader_get.bits11 : waitsOk wire_reader_get.T11.2 wire_reader_get.B11 = true := by kernel_rfl
set_option maxHeartbeats 4000000 in
set_option maxRecDepth 100000 in
theorem wire_reader_get.get80 (W : World) (g base gq : Nat) (xs : List Int) (p err : Int) (q : Rq) (hR : Rd.Rdr W g base xs p err) (hq : W.heap[gq]? = some (.cells q.cells 30 (0, 0))) (hgq : g < gq) :
  Calls Try.prog 27 #[.agg #[.pointer (some ⟨g, 0, none⟩)], .pointer (some ⟨gq, 0, none⟩), .int .i32 80] W (GetPost W g base gq xs (getF xs 80 q p err)) := by
 have HLT := Aside0.mk hR.lt
 have HGQ := Aside0.mk hgq
 have HQL := Aside0.mk (blk_lt hq)
 have HB := Aside0.mk (Rdr_bytes hR)
 obtain ⟨t, ht⟩ : ∃ t, Rd.takeF xs p err 1 = t := ⟨_, rfl⟩
 obtain ⟨n, hn, hn2⟩ : ∃ n : Nat, t.1 = (n : Int) ∧ n ≤ 100000 := by
  have h := take1_bd xs p err HB.out
  rw [ht] at h
  exact ⟨t.1.toNat, by omega, by omega⟩
 obtain ⟨s, hs⟩ : ∃ s, restF xs n t.2.1 t.2.2 [] = s := ⟨_, rfl⟩
 have hf : getF xs 80 q p err = ({ q with pr := strOfNums s.1 }, s.2) := by simp only [getF, ht, hn, Int.toNat_natCast, hs]; rfl
 rw [hf]
 have HT := Aside0.mk ht
 have HS := Aside0.mk hs
 have HN := Aside0.mk hn
 have HN2 := Aside0.mk hn2
 clear hf ht hs hn hn2
 have HK1 := Aside0.mk (show (W.alloc (.cells #[.pointer (some ⟨g, 0, none⟩)] 75)).drew.heap[W.heap.size]? = some (.cells #[.pointer (some ⟨g, 0, none⟩)] 75 (0, 0)) from (blk_drew (blk_new W (.cells #[.pointer (some ⟨g, 0, none⟩)] 75))))
 have HQ1 := Aside0.mk (show (W.alloc (.cells #[.pointer (some ⟨g, 0, none⟩)] 75)).drew.heap[gq]? = some (.cells q.cells 30 (0, 0)) from (blk_drew (blk_alloc hq (.cells #[.pointer (some ⟨g, 0, none⟩)] 75))))
 have HR1 := Aside0.mk (show Rd.Rdr (W.alloc (.cells #[.pointer (some ⟨g, 0, none⟩)] 75)).drew g base xs p err from Rd.Rdr.below (W := W) hR (below_drew1 (below_alloc (Below.refl _ _) _)))
 have HG1 := Aside0.mk (show G2 W (W.alloc (.cells #[.pointer (some ⟨g, 0, none⟩)] 75)).drew g gq from G2.below g gq (below_drew1 (below_alloc (Below.refl _ _) _)))
 clear hR hq hgq
 go_enter Try.func27, Try.ntmps27
 go_wp2_with fail
 refine start_ (n := 9) (S := fun w' => w'.cell? ⟨W.heap.size, 0, none⟩ = some (.pointer (some ⟨g, 0, none⟩))) (ds := []) (fl 9 0) (by kernel_rfl) rfl rfl ((blk_cell HK1.out 0).trans rfl) (fun hHeld => ?_)
 refine with_tabW wire_reader_get.tab11 wire_reader_get.bits11 (fun HT_ HW_ => ?_)
 generalize (W.alloc (.cells #[.pointer (some ⟨g, 0, none⟩)] 75)).drew = W1 at HR1 HK1 HQ1 HG1 hHeld ⊢
 refine pu_ 0 47 (fl 9 1) ?_
 refine pu_ 2 49 (fl 9 5) ?_
 refine tk_1 1 48 (fl 9 7) hHeld ?_
 refine tk_1 3 50 (fl 9 15) hHeld ?_
 refine on_ 4 (some 51) (fl 9 31) fun K hK => ?_
 refine go_ Try.func26 #[.pointer (some ⟨g, 0, none⟩)] ?_
 refine (Rd.u8_any _ g base xs p err HR1.out).mono ?_
 rw [HT.out]
 rintro e W2 ⟨rfl, hr2, hg2⟩
 have HR2 := Aside0.mk hr2
 have HK2 := Aside0.mk (blk_grown HK1.out hg2 qj)
 have HQ2 := Aside0.mk (blk_grown HQ1.out hg2 qk)
 have HG2 := Aside0.mk (HG1.out.grown hg2 (.inl rfl))
 clear hr2 hg2 HR1 HK1 HQ1 HG1
 refine nx_ hK ((blk_cell HK2.out 0).trans rfl) fun hHeld => ?_
 clear hK K
 refine on_ 5 (some 52) (fl 9 63) fun K hK => ?_
 refine go_ Try.func69 #[.agg #[.pointer (some ⟨g, 0, none⟩)], .int .i64 t.1] ?_
 rw [HN.out]
 refine (wire_reader_rest.rest _ g base xs _ _ n HN2.out HR2.out).mono ?_
 rw [HS.out]
 rintro e W3 ⟨rfl, hr3, hg3⟩
 have HR3 := Aside0.mk hr3
 have HK3 := Aside0.mk (blk_grown HK2.out hg3 qj)
 have HQ3 := Aside0.mk (blk_grown HQ2.out hg3 qk)
 have HG3 := Aside0.mk (HG2.out.grown hg3 (.inl rfl))
 clear hr3 hg3 HR2 HK2 HQ2 HG2
 refine nx_ hK ((blk_cell HK3.out 0).trans rfl) fun hHeld => ?_
 clear hK K
 refine pu_ 6 53 (fl 9 127) ?_
 refine pu_ 7 54 (fl 9 255) ?_
 refine on_ 8 none (fl 9 511) fun K hK => ?_
 refine skip_ (w1 := (W3.setCell ⟨gq, 5, none⟩ (.string (strOfNums s.1)))) (by rfl) rfl ?hrun ?_
 case hrun =>
  have c1 : W3.cell? ⟨gq, 5, none⟩ = some (.string q.pr) := (blk_cell HQ3.out 5).trans rfl
  have f1 := blk_frozen HQ3.out 5
  first | (go_simp; done) | (go_simp; rfl)
 have hgs := grown_setCell W3 gq 5 (.string (strOfNums s.1))
 have HK4 := Aside0.mk (blk_grown HK3.out hgs qp)
 have HR4 := Aside0.mk (HR3.out.keep (fun i hi => hgs.block i (qs HG3.out) qk))
 have HG4 := Aside0.mk (HG3.out.grown hgs (.inr (.inl rfl)))
 have HQ4 := Aside0.mk (show (W3.setCell ⟨gq, 5, none⟩ (.string (strOfNums s.1))).heap[gq]? = some (.cells (Rq.cells { q with pr := strOfNums s.1 }) 30 (0, 0)) from (blk_set HQ3.out 5 (.string (strOfNums s.1))).trans rfl)
 clear hgs HK3 HR3 HG3 HQ3
 generalize (W3.setCell ⟨gq, 5, none⟩ (.string (strOfNums s.1))) = W4 at HQ4 HK4 HR4 HG4 ⊢
 refine hK.out _ _ ((blk_cell HK4.out 0).trans rfl) (fun hHeld => ?_)
 clear hK K
 refine dn_ ?_
 go_wp2
 exact bodyPost_end (v := .tuple #[]) qt rfl ⟨rfl, HR4.out, HQ4.out, HG4.out⟩
def wire_reader_get.T13 : Bool × List (List Nat × List Nat) := (true, [([], []), ([], []), ([], []), ([2], [2]), ([3], [3]), ([1, 4, 4], [1, 4]), ([0, 0, 1, 2, 3, 4, 5], [0]), ([6, 0, 1, 2, 3, 4, 5], [6]), ([7, 5, 5, 0, 1, 2, 3, 4, 5], [5, 7])])
def wire_reader_get.B13 : List Nat := [0, 0, 0, 4, 12, 30, 63, 127, 255]
theorem wire_reader_get.tab13 : rtab .any (opsOf Try.f27 13) = wire_reader_get.T13 := by kernel_rfl
theorem wire_reader_get.bits13 : waitsOk wire_reader_get.T13.2 wire_reader_get.B13 = true := by kernel_rfl
set_option maxHeartbeats 4000000 in
set_option maxRecDepth 100000 in
theorem wire_reader_get.get68 (W : World) (g base gq : Nat) (xs : List Int) (p err : Int) (q : Rq) (hR : Rd.Rdr W g base xs p err) (hq : W.heap[gq]? = some (.cells q.cells 30 (0, 0))) (hgq : g < gq) :
  Calls Try.prog 27 #[.agg #[.pointer (some ⟨g, 0, none⟩)], .pointer (some ⟨gq, 0, none⟩), .int .i32 68] W (GetPost W g base gq xs (getF xs 68 q p err)) := by
 have HLT := Aside0.mk hR.lt
 have HGQ := Aside0.mk hgq
 have HQL := Aside0.mk (blk_lt hq)
 have HB := Aside0.mk (Rdr_bytes hR)
 obtain ⟨t, ht⟩ : ∃ t, Rd.takeF xs p err 1 = t := ⟨_, rfl⟩
 obtain ⟨n, hn, hn2⟩ : ∃ n : Nat, t.1 = (n : Int) ∧ n ≤ 100000 := by
  have h := take1_bd xs p err HB.out
  rw [ht] at h
  exact ⟨t.1.toNat, by omega, by omega⟩
 obtain ⟨s, hs⟩ : ∃ s, restF xs n t.2.1 t.2.2 [] = s := ⟨_, rfl⟩
 have hf : getF xs 68 q p err = ({ q with de := strOfNums s.1 }, s.2) := by simp only [getF, ht, hn, Int.toNat_natCast, hs]; rfl
 rw [hf]
 have HT := Aside0.mk ht
 have HS := Aside0.mk hs
 have HN := Aside0.mk hn
 have HN2 := Aside0.mk hn2
 clear hf ht hs hn hn2
 have HK1 := Aside0.mk (show (W.alloc (.cells #[.pointer (some ⟨g, 0, none⟩)] 75)).drew.heap[W.heap.size]? = some (.cells #[.pointer (some ⟨g, 0, none⟩)] 75 (0, 0)) from (blk_drew (blk_new W (.cells #[.pointer (some ⟨g, 0, none⟩)] 75))))
 have HQ1 := Aside0.mk (show (W.alloc (.cells #[.pointer (some ⟨g, 0, none⟩)] 75)).drew.heap[gq]? = some (.cells q.cells 30 (0, 0)) from (blk_drew (blk_alloc hq (.cells #[.pointer (some ⟨g, 0, none⟩)] 75))))
 have HR1 := Aside0.mk (show Rd.Rdr (W.alloc (.cells #[.pointer (some ⟨g, 0, none⟩)] 75)).drew g base xs p err from Rd.Rdr.below (W := W) hR (below_drew1 (below_alloc (Below.refl _ _) _)))
 have HG1 := Aside0.mk (show G2 W (W.alloc (.cells #[.pointer (some ⟨g, 0, none⟩)] 75)).drew g gq from G2.below g gq (below_drew1 (below_alloc (Below.refl _ _) _)))
 clear hR hq hgq
 go_enter Try.func27, Try.ntmps27
 go_wp2_with fail
 refine start_ (n := 9) (S := fun w' => w'.cell? ⟨W.heap.size, 0, none⟩ = some (.pointer (some ⟨g, 0, none⟩))) (ds := []) (fl 9 0) (by kernel_rfl) rfl rfl ((blk_cell HK1.out 0).trans rfl) (fun hHeld => ?_)
 refine with_tabW wire_reader_get.tab13 wire_reader_get.bits13 (fun HT_ HW_ => ?_)
 generalize (W.alloc (.cells #[.pointer (some ⟨g, 0, none⟩)] 75)).drew = W1 at HR1 HK1 HQ1 HG1 hHeld ⊢
 refine pu_ 0 57 (fl 9 1) ?_
 refine pu_ 2 59 (fl 9 5) ?_
 refine tk_1 1 58 (fl 9 7) hHeld ?_
 refine tk_1 3 60 (fl 9 15) hHeld ?_
 refine on_ 4 (some 61) (fl 9 31) fun K hK => ?_
 refine go_ Try.func26 #[.pointer (some ⟨g, 0, none⟩)] ?_
 refine (Rd.u8_any _ g base xs p err HR1.out).mono ?_
 rw [HT.out]
 rintro e W2 ⟨rfl, hr2, hg2⟩
 have HR2 := Aside0.mk hr2
 have HK2 := Aside0.mk (blk_grown HK1.out hg2 qj)
 have HQ2 := Aside0.mk (blk_grown HQ1.out hg2 qk)
 have HG2 := Aside0.mk (HG1.out.grown hg2 (.inl rfl))
 clear hr2 hg2 HR1 HK1 HQ1 HG1
 refine nx_ hK ((blk_cell HK2.out 0).trans rfl) fun hHeld => ?_
 clear hK K
 refine on_ 5 (some 62) (fl 9 63) fun K hK => ?_
 refine go_ Try.func69 #[.agg #[.pointer (some ⟨g, 0, none⟩)], .int .i64 t.1] ?_
 rw [HN.out]
 refine (wire_reader_rest.rest _ g base xs _ _ n HN2.out HR2.out).mono ?_
 rw [HS.out]
 rintro e W3 ⟨rfl, hr3, hg3⟩
 have HR3 := Aside0.mk hr3
 have HK3 := Aside0.mk (blk_grown HK2.out hg3 qj)
 have HQ3 := Aside0.mk (blk_grown HQ2.out hg3 qk)
 have HG3 := Aside0.mk (HG2.out.grown hg3 (.inl rfl))
 clear hr3 hg3 HR2 HK2 HQ2 HG2
 refine nx_ hK ((blk_cell HK3.out 0).trans rfl) fun hHeld => ?_
 clear hK K
 refine pu_ 6 63 (fl 9 127) ?_
 refine pu_ 7 64 (fl 9 255) ?_
 refine on_ 8 none (fl 9 511) fun K hK => ?_
 refine skip_ (w1 := (W3.setCell ⟨gq, 6, none⟩ (.string (strOfNums s.1)))) (by rfl) rfl ?hrun ?_
 case hrun =>
  have c1 : W3.cell? ⟨gq, 6, none⟩ = some (.string q.de) := (blk_cell HQ3.out 6).trans rfl
  have f1 := blk_frozen HQ3.out 6
  first | (go_simp; done) | (go_simp; rfl)
 have hgs := grown_setCell W3 gq 6 (.string (strOfNums s.1))
 have HK4 := Aside0.mk (blk_grown HK3.out hgs qp)
 have HR4 := Aside0.mk (HR3.out.keep (fun i hi => hgs.block i (qs HG3.out) qk))
 have HG4 := Aside0.mk (HG3.out.grown hgs (.inr (.inl rfl)))
 have HQ4 := Aside0.mk (show (W3.setCell ⟨gq, 6, none⟩ (.string (strOfNums s.1))).heap[gq]? = some (.cells (Rq.cells { q with de := strOfNums s.1 }) 30 (0, 0)) from (blk_set HQ3.out 6 (.string (strOfNums s.1))).trans rfl)
 clear hgs HK3 HR3 HG3 HQ3
 generalize (W3.setCell ⟨gq, 6, none⟩ (.string (strOfNums s.1))) = W4 at HQ4 HK4 HR4 HG4 ⊢
 refine hK.out _ _ ((blk_cell HK4.out 0).trans rfl) (fun hHeld => ?_)
 clear hK K
 refine dn_ ?_
 go_wp2
 exact bodyPost_end (v := .tuple #[]) qt rfl ⟨rfl, HR4.out, HQ4.out, HG4.out⟩
def wire_reader_get.T29 : Bool × List (List Nat × List Nat) := (true, [([], []), ([], []), ([], []), ([2], [2]), ([3], [3]), ([1, 4, 4], [1, 4]), ([0, 0, 1, 2, 3, 4, 5], [0]), ([6, 0, 1, 2, 3, 4, 5], [6]), ([7, 5, 5, 0, 1, 2, 3, 4, 5], [5, 7])])
def wire_reader_get.B29 : List Nat := [0, 0, 0, 4, 12, 30, 63, 127, 255]
theorem wire_reader_get.tab29 : rtab .any (opsOf Try.f27 29) = wire_reader_get.T29 := by kernel_rfl
theorem wire_reader_get.bits29 : waitsOk wire_reader_get.T29.2 wire_reader_get.B29 = true := by kernel_rfl
set_option maxHeartbeats 4000000 in
set_option maxRecDepth 100000 in
theorem wire_reader_get.get88 (W : World) (g base gq : Nat) (xs : List Int) (p err : Int) (q : Rq) (hR : Rd.Rdr W g base xs p err) (hq : W.heap[gq]? = some (.cells q.cells 30 (0, 0))) (hgq : g < gq) :
  Calls Try.prog 27 #[.agg #[.pointer (some ⟨g, 0, none⟩)], .pointer (some ⟨gq, 0, none⟩), .int .i32 88] W (GetPost W g base gq xs (getF xs 88 q p err)) := by
 have HLT := Aside0.mk hR.lt
 have HGQ := Aside0.mk hgq
 have HQL := Aside0.mk (blk_lt hq)
 have HB := Aside0.mk (Rdr_bytes hR)
 obtain ⟨t, ht⟩ : ∃ t, Rd.takeF xs p err 2 = t := ⟨_, rfl⟩
 obtain ⟨n, hn, hn2⟩ : ∃ n : Nat, t.1 = (n : Int) ∧ n ≤ 100000 := by
  have h := take2_bd xs p err HB.out
  rw [ht] at h
  exact ⟨t.1.toNat, by omega, by omega⟩
 obtain ⟨s, hs⟩ : ∃ s, restF xs n t.2.1 t.2.2 [] = s := ⟨_, rfl⟩
 have hf : getF xs 88 q p err = ({ q with bo := strOfNums s.1 }, s.2) := by simp only [getF, ht, hn, Int.toNat_natCast, hs]; rfl
 rw [hf]
 have HT := Aside0.mk ht
 have HS := Aside0.mk hs
 have HN := Aside0.mk hn
 have HN2 := Aside0.mk hn2
 clear hf ht hs hn hn2
 have HK1 := Aside0.mk (show (W.alloc (.cells #[.pointer (some ⟨g, 0, none⟩)] 75)).drew.heap[W.heap.size]? = some (.cells #[.pointer (some ⟨g, 0, none⟩)] 75 (0, 0)) from (blk_drew (blk_new W (.cells #[.pointer (some ⟨g, 0, none⟩)] 75))))
 have HQ1 := Aside0.mk (show (W.alloc (.cells #[.pointer (some ⟨g, 0, none⟩)] 75)).drew.heap[gq]? = some (.cells q.cells 30 (0, 0)) from (blk_drew (blk_alloc hq (.cells #[.pointer (some ⟨g, 0, none⟩)] 75))))
 have HR1 := Aside0.mk (show Rd.Rdr (W.alloc (.cells #[.pointer (some ⟨g, 0, none⟩)] 75)).drew g base xs p err from Rd.Rdr.below (W := W) hR (below_drew1 (below_alloc (Below.refl _ _) _)))
 have HG1 := Aside0.mk (show G2 W (W.alloc (.cells #[.pointer (some ⟨g, 0, none⟩)] 75)).drew g gq from G2.below g gq (below_drew1 (below_alloc (Below.refl _ _) _)))
 clear hR hq hgq
 go_enter Try.func27, Try.ntmps27
 go_wp2_with fail
 refine start_ (n := 9) (S := fun w' => w'.cell? ⟨W.heap.size, 0, none⟩ = some (.pointer (some ⟨g, 0, none⟩))) (ds := []) (fl 9 0) (by kernel_rfl) rfl rfl ((blk_cell HK1.out 0).trans rfl) (fun hHeld => ?_)
 refine with_tabW wire_reader_get.tab29 wire_reader_get.bits29 (fun HT_ HW_ => ?_)
 generalize (W.alloc (.cells #[.pointer (some ⟨g, 0, none⟩)] 75)).drew = W1 at HR1 HK1 HQ1 HG1 hHeld ⊢
 refine pu_ 0 128 (fl 9 1) ?_
 refine pu_ 2 130 (fl 9 5) ?_
 refine tk_1 1 129 (fl 9 7) hHeld ?_
 refine tk_1 3 131 (fl 9 15) hHeld ?_
 refine on_ 4 (some 132) (fl 9 31) fun K hK => ?_
 refine go_ Try.func51 #[.pointer (some ⟨g, 0, none⟩)] ?_
 refine (Rd.u16_any _ g base xs p err HR1.out).mono ?_
 rw [HT.out]
 rintro e W2 ⟨rfl, hr2, hg2⟩
 have HR2 := Aside0.mk hr2
 have HK2 := Aside0.mk (blk_grown HK1.out hg2 qj)
 have HQ2 := Aside0.mk (blk_grown HQ1.out hg2 qk)
 have HG2 := Aside0.mk (HG1.out.grown hg2 (.inl rfl))
 clear hr2 hg2 HR1 HK1 HQ1 HG1
 refine nx_ hK ((blk_cell HK2.out 0).trans rfl) fun hHeld => ?_
 clear hK K
 refine on_ 5 (some 133) (fl 9 63) fun K hK => ?_
 refine go_ Try.func69 #[.agg #[.pointer (some ⟨g, 0, none⟩)], .int .i64 t.1] ?_
 rw [HN.out]
 refine (wire_reader_rest.rest _ g base xs _ _ n HN2.out HR2.out).mono ?_
 rw [HS.out]
 rintro e W3 ⟨rfl, hr3, hg3⟩
 have HR3 := Aside0.mk hr3
 have HK3 := Aside0.mk (blk_grown HK2.out hg3 qj)
 have HQ3 := Aside0.mk (blk_grown HQ2.out hg3 qk)
 have HG3 := Aside0.mk (HG2.out.grown hg3 (.inl rfl))
 clear hr3 hg3 HR2 HK2 HQ2 HG2
 refine nx_ hK ((blk_cell HK3.out 0).trans rfl) fun hHeld => ?_
 clear hK K
 refine pu_ 6 134 (fl 9 127) ?_
 refine pu_ 7 135 (fl 9 255) ?_
 refine on_ 8 none (fl 9 511) fun K hK => ?_
 refine skip_ (w1 := (W3.setCell ⟨gq, 7, none⟩ (.string (strOfNums s.1)))) (by rfl) rfl ?hrun ?_
 case hrun =>
  have c1 : W3.cell? ⟨gq, 7, none⟩ = some (.string q.bo) := (blk_cell HQ3.out 7).trans rfl
  have f1 := blk_frozen HQ3.out 7
  first | (go_simp; done) | (go_simp; rfl)
 have hgs := grown_setCell W3 gq 7 (.string (strOfNums s.1))
 have HK4 := Aside0.mk (blk_grown HK3.out hgs qp)
 have HR4 := Aside0.mk (HR3.out.keep (fun i hi => hgs.block i (qs HG3.out) qk))
 have HG4 := Aside0.mk (HG3.out.grown hgs (.inr (.inl rfl)))
 have HQ4 := Aside0.mk (show (W3.setCell ⟨gq, 7, none⟩ (.string (strOfNums s.1))).heap[gq]? = some (.cells (Rq.cells { q with bo := strOfNums s.1 }) 30 (0, 0)) from (blk_set HQ3.out 7 (.string (strOfNums s.1))).trans rfl)
 clear hgs HK3 HR3 HG3 HQ3
 generalize (W3.setCell ⟨gq, 7, none⟩ (.string (strOfNums s.1))) = W4 at HQ4 HK4 HR4 HG4 ⊢
 refine hK.out _ _ ((blk_cell HK4.out 0).trans rfl) (fun hHeld => ?_)
 clear hK K
 refine dn_ ?_
 go_wp2
 exact bodyPost_end (v := .tuple #[]) qt rfl ⟨rfl, HR4.out, HQ4.out, HG4.out⟩
set_option maxHeartbeats 4000000 in
set_option maxRecDepth 100000 in
theorem wire_reader_get.get67 (W : World) (g base gq : Nat) (xs : List Int) (p err : Int) (q : Rq) (hR : Rd.Rdr W g base xs p err) (hq : W.heap[gq]? = some (.cells q.cells 30 (0, 0))) (hgq : g < gq) :
  Calls Try.prog 27 #[.agg #[.pointer (some ⟨g, 0, none⟩)], .pointer (some ⟨gq, 0, none⟩), .int .i32 67] W (GetPost W g base gq xs (getF xs 67 q p err)) := by
 have HLT := Aside0.mk hR.lt
 have HGQ := Aside0.mk hgq
 have HQL := Aside0.mk (blk_lt hq)
 have HB := Aside0.mk (Rdr_bytes hR)
 obtain ⟨t, ht⟩ : ∃ t, Rd.takeF xs p err 1 = t := ⟨_, rfl⟩
 obtain ⟨u, hu⟩ : ∃ u, tagF xs t.2.1 t.2.2 = u := ⟨_, rfl⟩
 have hf : getF xs 67 q p err = if t.1 = 2 then ({ q with ck := t.1, re := u.1.1, im := u.1.2 }, u.2) else ({ q with ck := t.1 }, t.2) := by simp only [getF, ht, hu]; rfl
 rw [hf]
 have HT := Aside0.mk ht
 have HU := Aside0.mk hu
 clear hf ht hu
 have HK1 := Aside0.mk (show (W.alloc (.cells #[.pointer (some ⟨g, 0, none⟩)] 75)).heap[W.heap.size]? = some (.cells #[.pointer (some ⟨g, 0, none⟩)] 75 (0, 0)) from (blk_new W (.cells #[.pointer (some ⟨g, 0, none⟩)] 75)))
 have HQ1 := Aside0.mk (show (W.alloc (.cells #[.pointer (some ⟨g, 0, none⟩)] 75)).heap[gq]? = some (.cells q.cells 30 (0, 0)) from (blk_alloc hq (.cells #[.pointer (some ⟨g, 0, none⟩)] 75)))
 have HR1 := Aside0.mk (show Rd.Rdr (W.alloc (.cells #[.pointer (some ⟨g, 0, none⟩)] 75)) g base xs p err from Rd.Rdr.below (W := W) hR (below_alloc (Below.refl _ _) _))
 have HG1 := Aside0.mk (show G2 W (W.alloc (.cells #[.pointer (some ⟨g, 0, none⟩)] 75)) g gq from G2.below g gq (below_alloc (Below.refl _ _) _))
 clear hR hq hgq
 by_cases h2 : t.1 = 2
 ·rw [if_pos h2]
  have e2 : (t.1 == 2) = true := by simpa using h2
  clear h2
  go_enter Try.func27, Try.ntmps27
  have c0 : (W.alloc (.cells #[.pointer (some ⟨g, 0, none⟩)] 75)).cell? ⟨W.heap.size, 0, none⟩ = some (.pointer (some ⟨g, 0, none⟩)) := (blk_cell HK1.out 0).trans rfl
  go_wp2_with fail
  refine (Rd.u8_any _ g base xs p err HR1.out).mono ?_
  rw [HT.out]
  rintro e W2 ⟨rfl, hr2, hg2⟩
  clear c0
  have HR2 := Aside0.mk hr2
  have HK2 := Aside0.mk (blk_grown HK1.out hg2 qj)
  have HQ2 := Aside0.mk (blk_grown HQ1.out hg2 qk)
  have HG2 := Aside0.mk (HG1.out.grown hg2 (.inl rfl))
  clear hr2 hg2 HR1 HK1 HQ1 HG1
  have c1 : W2.cell? ⟨gq, 8, none⟩ = some (.int .i64 q.ck) := (blk_cell HQ2.out 8).trans rfl
  have f1 := blk_frozen HQ2.out 8
  have hgs := grown_setCell W2 gq 8 (.int .i64 t.1)
  have HK3 := Aside0.mk (blk_grown HK2.out hgs qp)
  have HR3 := Aside0.mk (HR2.out.keep (fun i hi => hgs.block i (qs HG2.out) qk))
  have HG3 := Aside0.mk (HG2.out.grown hgs (.inr (.inl rfl)))
  have HQ3 := Aside0.mk (show (W2.setCell ⟨gq, 8, none⟩ (.int .i64 t.1)).heap[gq]? = some (.cells (Rq.cells { q with ck := t.1 }) 30 (0, 0)) from (blk_set HQ2.out 8 (.int .i64 t.1)).trans rfl)
  have ck : (W2.setCell ⟨gq, 8, none⟩ (.int .i64 t.1)).cell? ⟨W.heap.size, 0, none⟩ = some (.pointer (some ⟨g, 0, none⟩)) := (blk_cell HK3.out 0).trans rfl
  go_wp2_with fail
  refine (wire_reader_tag.tag _ g base xs _ _ HR3.out).mono ?_
  rw [HU.out]
  rintro e W4 ⟨rfl, hr4, hg4⟩
  clear c1 f1 ck
  have HR4 := Aside0.mk hr4
  have HK4 := Aside0.mk (blk_grown HK3.out hg4 qj)
  have HQ4 := Aside0.mk (blk_grown HQ3.out hg4 qk)
  have HG4 := Aside0.mk (HG3.out.grown hg4 (.inl rfl))
  clear hr4 hg4 HR3 HK3 HQ3 HG3
  have c1 : W4.cell? ⟨gq, 9, none⟩ = some (.int .i64 q.re) := (blk_cell HQ4.out 9).trans rfl
  have f1 := blk_frozen HQ4.out 9
  have c2 : W4.cell? ⟨gq, 10, none⟩ = some (.int .i64 q.im) := (blk_cell HQ4.out 10).trans rfl
  have f2 := blk_frozen HQ4.out 10
  clear hgs
  go_wp2
  clear c1 f1 c2 f2
  have hgs := grown_tr (grown_setCell W4 gq 9 (.int .i64 u.1.1)) (grown_setCell _ gq 10 (.int .i64 u.1.2))
  have HK5 := Aside0.mk (blk_grown HK4.out hgs qp)
  have HR5 := Aside0.mk (HR4.out.keep (fun i hi => hgs.block i (qs HG4.out) qk))
  have HG5 := Aside0.mk (HG4.out.grown hgs (.inr (.inl rfl)))
  have HQ5 := Aside0.mk (show ((W4.setCell ⟨gq, 9, none⟩ (.int .i64 u.1.1)).setCell ⟨gq, 10, none⟩ (.int .i64 u.1.2)).heap[gq]? = some (.cells (Rq.cells { q with ck := t.1, re := u.1.1, im := u.1.2 }) 30 (0, 0)) from (blk_set (blk_set HQ4.out 9 (.int .i64 u.1.1)) 10 (.int .i64 u.1.2)).trans rfl)
  exact bodyPost_end (v := .tuple #[]) qt rfl ⟨rfl, HR5.out, HQ5.out, HG5.out⟩
 ·rw [if_neg h2]
  have e2 : (t.1 == 2) = false := by simpa using h2
  clear h2
  go_enter Try.func27, Try.ntmps27
  have c0 : (W.alloc (.cells #[.pointer (some ⟨g, 0, none⟩)] 75)).cell? ⟨W.heap.size, 0, none⟩ = some (.pointer (some ⟨g, 0, none⟩)) := (blk_cell HK1.out 0).trans rfl
  go_wp2_with fail
  refine (Rd.u8_any _ g base xs p err HR1.out).mono ?_
  rw [HT.out]
  rintro e W2 ⟨rfl, hr2, hg2⟩
  clear c0
  have HR2 := Aside0.mk hr2
  have HK2 := Aside0.mk (blk_grown HK1.out hg2 qj)
  have HQ2 := Aside0.mk (blk_grown HQ1.out hg2 qk)
  have HG2 := Aside0.mk (HG1.out.grown hg2 (.inl rfl))
  clear hr2 hg2 HR1 HK1 HQ1 HG1
  have c1 : W2.cell? ⟨gq, 8, none⟩ = some (.int .i64 q.ck) := (blk_cell HQ2.out 8).trans rfl
  have f1 := blk_frozen HQ2.out 8
  go_wp2
  clear c1 f1
  have hgs := grown_setCell W2 gq 8 (.int .i64 t.1)
  have HK3 := Aside0.mk (blk_grown HK2.out hgs qp)
  have HR3 := Aside0.mk (HR2.out.keep (fun i hi => hgs.block i (qs HG2.out) qk))
  have HG3 := Aside0.mk (HG2.out.grown hgs (.inr (.inl rfl)))
  have HQ3 := Aside0.mk (show (W2.setCell ⟨gq, 8, none⟩ (.int .i64 t.1)).heap[gq]? = some (.cells (Rq.cells { q with ck := t.1 }) 30 (0, 0)) from (blk_set HQ2.out 8 (.int .i64 t.1)).trans rfl)
  exact bodyPost_end (v := .tuple #[]) qt rfl ⟨rfl, HR3.out, HQ3.out, HG3.out⟩
theorem wire_reader_get.info3 : (Try.prog.info? 3).map (fun i => (i.zero, i.size, i.bytes)) = some (some (.int .i64 0), 1, 8) := by kernel_rfl
/-- All but the reader's block, the request's and a row is as it was. -/
def G3 (W w' : World) (g gq : Nat) (v : Value) : Prop := w'.os = W.os ∧ w'.tape = W.tape ∧ w'.output = W.output ∧ W.heap.size ≤ w'.heap.size ∧ ∀ i, i < W.heap.size → i ≠ g → i ≠ gq → some i ≠ v.ownBlock → w'.heap[i]? = W.heap[i]?
theorem G3.grown {W w1 w2 : World} {g gq : Nat} {v : Value} {row : Option Nat} (h : G3 W w1 g gq v) (hg : w1.grownBy w2 row) (hk : ∀ k, row = some k → k = g ∨ k = gq ∨ some k = v.ownBlock ∨ W.heap.size ≤ k) : G3 W w2 g gq v :=
 ⟨hg.os.trans h.1, hg.tape.trans h.2.1, hg.output.trans h.2.2.1, Nat.le_trans h.2.2.2.1 hg.size, fun i hi h1 h2 h3 => (hg.block i (Nat.lt_of_lt_of_le hi h.2.2.2.1) (fun e => by
  rcases hk i e.symm with h4 | h4 | h4 | h4
  ·exact h1 h4
  ·exact h2 h4
  ·exact h3 h4
  ·omega)).trans (h.2.2.2.2 i hi h1 h2 h3)⟩
theorem G3.below {W w1 : World} (g gq : Nat) (v : Value) (h : Below W.heap.size W w1) : G3 W w1 g gq v := ⟨h.os, h.tape, h.output, h.size, fun i hi _ _ _ => h.block i hi⟩
theorem G3.of2 {W w1 : World} {g gq : Nat} (v : Value) (h : G2 W w1 g gq) : G3 W w1 g gq v := ⟨h.1, h.2.1, h.2.2.1, h.2.2.2.1, fun i hi h1 h2 _ => h.2.2.2.2 i hi h1 h2⟩
def partsF (xs : List Int) : Nat → Int → Int → List Int → List Int × Int × Int
 | 0, p, err, acc => (acc, p, err)
 | n + 1, p, err, acc => if err = 0 then partsF xs n (Rd.takeF xs p err 1).2.1 (Rd.takeF xs p err 1).2.2 (acc ++ [(Rd.takeF xs p err 1).1]) else partsF xs n p err acc
def PartsPost (W : World) (g base gq b0 : Nat) (xs : List Int) (q : Rq) (r : List Int × Int × Int) (e : Ending) (w' : World) : Prop := ∃ v, e = .returned (.tuple #[]) ∧ Rd.Rdr w' g base xs r.2.1 r.2.2 ∧ w'.heap[gq]? = some (.cells (Rq.cells { q with pv := v, pa := r.1 }) 30 (0, 0)) ∧ Kd.R (Kd.int .i64) 3 w' b0 (fun _ => True) v r.1 ∧ G3 W w' g gq q.pv
def LoopL (W W' : World) (g base gq b0 : Nat) (xs : List Int) (q : Rq) (p err : Int) (v : Value) (pa : List Int) : Prop := Rd.Rdr W' g base xs p err ∧ W'.heap[gq]? = some (.cells (Rq.cells { q with pv := v, pa := pa }) 30 (0, 0)) ∧ W'.heap[W.heap.size]? = some (.cells #[.pointer (some ⟨g, 0, none⟩)] 75 (0, 0)) ∧ Kd.R (Kd.int .i64) 3 W' b0 (fun _ => True) v pa ∧ G3 W W' g gq q.pv ∧ (∀ k, v.ownBlock = some k → some k = q.pv.ownBlock ∨ W.heap.size < k)
def wire_reader_get.T26 : Bool × List (List Nat × List Nat) := (true, [([], []), ([], []), ([1], [1]), ([2], [2]), ([3], [3]), ([], []), ([5], [5]), ([6], [6]), ([7], [7]), ([4, 8, 7], [4, 8]), ([0, 0, 1, 2, 3, 4, 5, 6, 7, 8, 9], [0]), ([10, 0, 1, 2, 3, 4, 5, 6, 7, 8, 9], [10]), ([11, 9, 9, 0, 1, 2, 3, 4, 5, 6, 7, 8, 9], [9, 11])])
def wire_reader_get.B26 : List Nat := [0, 0, 2, 6, 14, 0, 32, 96, 224, 510, 1023, 2047, 4095]
theorem wire_reader_get.tab26 : rtab .any (opsOf Try.f27 26) = wire_reader_get.T26 := by kernel_rfl
theorem wire_reader_get.bits26 : waitsOk wire_reader_get.T26.2 wire_reader_get.B26 = true := by kernel_rfl
set_option maxHeartbeats 4000000 in
set_option maxRecDepth 100000 in
theorem wire_reader_get.get76 (W : World) (g base gq b0 : Nat) (xs : List Int) (p err : Int) (q : Rq) (hR : Rd.Rdr W g base xs p err) (hq : W.heap[gq]? = some (.cells q.cells 30 (0, 0))) (hgq : g < gq) (hO : Kd.R (Kd.int .i64) 3 W b0 (fun _ => True) q.pv q.pa) (hb0 : b0 ≤ W.heap.size) (hlow : ∀ i, i ≤ g → some i ≠ q.pv.ownBlock) (hpl : q.pa.length ≤ 100000) :
  Calls Try.prog 27 #[.agg #[.pointer (some ⟨g, 0, none⟩)], .pointer (some ⟨gq, 0, none⟩), .int .i32 76] W (PartsPost W g base gq b0 xs q (partsF xs (Rd.takeF xs p err 1).1.toNat (Rd.takeF xs p err 1).2.1 (Rd.takeF xs p err 1).2.2 q.pa)) := by
 have HLT := Aside0.mk hR.lt
 have HGQ := Aside0.mk hgq
 have HQL := Aside0.mk (blk_lt hq)
 have HB := Aside0.mk (Rdr_bytes hR)
 have HBO := Aside0.mk hb0
 have HLG := Aside0.mk hlow
 have HNQ := Aside0.mk (Kd.R_ne hO hq (by decide))
 have HNK : Aside0 (some W.heap.size ≠ q.pv.ownBlock) := ⟨fun e => by have := Kd.R_lt hO W.heap.size e.symm; omega⟩
 obtain ⟨i0, hi0, hz0, hs0, hbb0⟩ := info_parts wire_reader_get.info3
 have HI0 := Aside0.mk hi0
 have HZ0 := Aside0.mk hz0
 have HS0 := Aside0.mk hs0
 have HB0 := Aside0.mk hbb0
 obtain ⟨t0, ht⟩ : ∃ t, Rd.takeF xs p err 1 = t := ⟨_, rfl⟩
 obtain ⟨n, hn, hn2⟩ : ∃ n : Nat, t0.1 = (n : Int) ∧ n ≤ 100000 := by
  have h := take1_bd xs p err HB.out
  rw [ht] at h
  exact ⟨t0.1.toNat, by omega, by omega⟩
 rw [ht, hn, Int.toNat_natCast]
 have HT0 := Aside0.mk ht
 have HN := Aside0.mk hn
 have HP0 := Aside0.mk hpl
 have HO1 := Aside0.mk (Kd.R_alloc hO (.cells #[.pointer (some ⟨g, 0, none⟩)] 75))
 have HK1 := Aside0.mk (show (W.alloc (.cells #[.pointer (some ⟨g, 0, none⟩)] 75)).heap[W.heap.size]? = some (.cells #[.pointer (some ⟨g, 0, none⟩)] 75 (0, 0)) from (blk_new W (.cells #[.pointer (some ⟨g, 0, none⟩)] 75)))
 have HQ1 := Aside0.mk (show (W.alloc (.cells #[.pointer (some ⟨g, 0, none⟩)] 75)).heap[gq]? = some (.cells q.cells 30 (0, 0)) from (blk_alloc hq (.cells #[.pointer (some ⟨g, 0, none⟩)] 75)))
 have HR1 := Aside0.mk (show Rd.Rdr (W.alloc (.cells #[.pointer (some ⟨g, 0, none⟩)] 75)) g base xs p err from Rd.Rdr.below (W := W) hR (below_alloc (Below.refl _ _) _))
 have HG1 := Aside0.mk (show G3 W (W.alloc (.cells #[.pointer (some ⟨g, 0, none⟩)] 75)) g gq q.pv from G3.below g gq q.pv (below_alloc (Below.refl _ _) _))
 clear hR hq hgq hO hb0 hlow hi0 hz0 hs0 hbb0 ht hn hpl
 go_enter Try.func27, Try.ntmps27
 have c0 : (W.alloc (.cells #[.pointer (some ⟨g, 0, none⟩)] 75)).cell? ⟨W.heap.size, 0, none⟩ = some (.pointer (some ⟨g, 0, none⟩)) := (blk_cell HK1.out 0).trans rfl
 go_wp2_with fail
 refine (Rd.u8_any _ g base xs p err HR1.out).mono ?_
 rw [HT0.out]
 rintro e W2 ⟨rfl, hr2, hg2⟩
 rw [HN.out]
 clear c0
 have HR2 := Aside0.mk hr2
 have HK2 := Aside0.mk (blk_grown HK1.out hg2 qj)
 have HQ2 := Aside0.mk (blk_grown HQ1.out hg2 qk)
 have HO2 := Aside0.mk (Kd.R_grown2 HO1.out rfl hg2 (fun k hk e => by injection hk with hk; rw [← hk] at e; exact HLG.out g (Nat.le_refl _) e))
 have HG2 := Aside0.mk (HG1.out.grown hg2 (fun k hk => by injection hk with hk; exact .inl hk.symm))
 clear hr2 hg2 HR1 HK1 HQ1 HO1 HG1
 go_wp2
 go_loopg [107] n (fun gg u107 wr => ∃ (j : Nat) (v1 : Value) (pa : List Int) (p1 err1 : Int), u107 = .int .i64 j ∧ j ≤ n ∧ n - j ≤ gg ∧ pa.length ≤ q.pa.length + j ∧ LoopL W wr g base gq b0 xs q p1 err1 v1 pa ∧ Aside0 (partsF xs (n - j) p1 err1 pa = partsF xs n t0.2.1 t0.2.2 q.pa))
 case atStart => exact ⟨0, q.pv, q.pa, _, _, rfl, Nat.zero_le _, by omega, Nat.le_refl _, ⟨HR2.out, HQ2.out, HK2.out, HO2.out, HG2.out, fun k hk => .inl hk.symm⟩, ⟨rfl⟩⟩
 case round =>
  obtain ⟨j, v1, pa, p1, err1, rfl, hj, hg, hpl, hL, HF⟩ := hrel
  obtain ⟨hR, hQ, hK, hO, hG, hOW⟩ := hL
  have HPL : Aside0 (pa.length ≤ 200000) := ⟨by have := HP0.out; omega⟩
  have HPJ := Aside0.mk hpl
  have HOW := Aside0.mk hOW
  have HNG : Aside0 (some g ≠ v1.ownBlock) := ⟨fun e => by rcases hOW g e.symm with h | h <;> first | (exact HLG.out g (Nat.le_refl _) h) | (have := HLT.out.2; omega)⟩
  have HR := Aside0.mk hR
  have c0 : wr.cell? ⟨W.heap.size, 0, none⟩ = some (.pointer (some ⟨g, 0, none⟩)) := (blk_cell hK 0).trans rfl
  by_cases hlt : j < n
  ·by_cases h0 : err1 = 0
   ·have e0 : (err1 == 0) = true := by simpa using h0
    obtain ⟨t, ht⟩ : ∃ t, Rd.takeF xs p1 err1 1 = t := ⟨_, rfl⟩
    have hF := HF.out
    rw [show n - j = (n - (j + 1)) + 1 by omega, partsF, if_pos h0, ht] at hF
    have HF2 := Aside0.mk hF
    have HT := Aside0.mk ht
    have HR1 := Aside0.mk (Rd.Rdr.below (W := wr) hR (below_drew1 (Below.refl _ _)))
    have HQ1 := Aside0.mk (blk_drew hQ)
    have HK1 := Aside0.mk (blk_drew hK)
    have HO1 := Aside0.mk (Kd.R_drew hO)
    have HG1 : Aside0 (G3 W wr.drew g gq q.pv) := ⟨hG⟩
    clear hF HF ht hR hQ hK hO hG hOW HK2 HQ2 HR2 HO2 HG2 h0 hpl
    go_wp2_with fail
    refine (Rd.err_any _ g base xs _ _ HR.out).mono ?_
    rintro e w3 ⟨rfl, rfl⟩
    go_wp2_with fail
    clear c0 e0 HR
    refine start_ (n := 13) (S := fun w' => w'.cell? ⟨W.heap.size, 0, none⟩ = some (.pointer (some ⟨g, 0, none⟩)) ∧ w'.cell? ⟨gq, 13, none⟩ = some v1) (ds := [12]) (fl 13 0) (by kernel_rfl) rfl rfl ⟨(blk_cell HK1.out 0).trans rfl, (blk_cell HQ1.out 13).trans rfl⟩ (fun hHeld => ?_)
    refine with_tabW wire_reader_get.tab26 wire_reader_get.bits26 (fun HT_ HW_ => ?_)
    generalize wr.drew = W1 at HR1 HK1 HQ1 HO1 HG1 hHeld ⊢
    refine pu_ 0 113 (fl 13 1) ?_
    refine pu_ 1 114 (fl 13 3) ?_
    refine pu_ 5 118 (fl 13 35) ?_
    refine pu_ 2 115 (fl 13 39) ?_
    refine pu_ 3 116 (fl 13 47) ?_
    refine tk_2 6 119 (fl 13 111) hHeld ?_
    refine tk_2 4 117 (fl 13 127) hHeld ?_
    refine on_ 7 (some 120) (fl 13 255) fun K hK => ?_
    refine go_ Try.func26 #[.pointer (some ⟨g, 0, none⟩)] ?_
    refine (Rd.u8_any _ g base xs p1 err1 HR1.out).mono ?_
    rw [HT.out]
    rintro e W2 ⟨rfl, hr2, hg2⟩
    have HR2 := Aside0.mk hr2
    have HK2 := Aside0.mk (blk_grown HK1.out hg2 qj)
    have HQ2 := Aside0.mk (blk_grown HQ1.out hg2 qk)
    have HO2 := Aside0.mk (Kd.R_grown2 HO1.out rfl hg2 (fun k hk e => by injection hk with hk; rw [← hk] at e; exact HNG.out e))
    have HG2 := Aside0.mk (HG1.out.grown hg2 (fun k hk => by injection hk with hk; exact .inl hk.symm))
    clear hr2 hg2 HR1 HK1 HQ1 HO1 HG1
    refine nx_ hK ⟨(blk_cell HK2.out 0).trans rfl, (blk_cell HQ2.out 13).trans rfl⟩ fun hHeld => ?_
    clear hK K
    refine on_ 8 (some 121) (fl 13 511) fun K hK => ?_
    refine Go.Proofs.Ytmdgdndidfcapaa.Str.ev_ (v := .slice (some ⟨W2.heap.size, 0, none⟩) 1 1) (w1 := W2.alloc (.cells #[.int .i64 t.1] 3)) (by rfl) rfl qq ?_
    have hz2 : W2.heap.size < (W2.alloc (.cells #[.int .i64 t.1] 3)).heap.size := by simp
    have HL3 := Aside0.mk (blk_new W2 (.cells #[.int .i64 t.1] 3))
    have HR3 := Aside0.mk (Rd.Rdr.below (W := W2) HR2.out (below_alloc (Below.refl _ _) (.cells #[.int .i64 t.1] 3)))
    have HK3 := Aside0.mk (blk_alloc HK2.out (.cells #[.int .i64 t.1] 3))
    have HQ3 := Aside0.mk (blk_alloc HQ2.out (.cells #[.int .i64 t.1] 3))
    have HO3 := Aside0.mk (Kd.R_alloc HO2.out (.cells #[.int .i64 t.1] 3))
    have HG3 := Aside0.mk (HG2.out.grown (World.grownBy_alloc W2 (.cells #[.int .i64 t.1] 3) none) (by simp))
    have HZ3 := Aside0.mk (show W.heap.size < W2.heap.size from Nat.lt_of_lt_of_le (blk_lt HK2.out) (Nat.le_refl _))
    clear HR2 HK2 HQ2 HO2 HG2 hz2
    obtain ⟨G5, hG5⟩ : ∃ G5, W2.heap.size = G5 := ⟨_, rfl⟩
    rw [hG5] at HL3 HZ3 ⊢
    generalize W2.alloc (.cells #[.int .i64 t.1] 3) = W3 at HL3 HR3 HK3 HQ3 HO3 HG3 ⊢
    clear hG5
    refine nm_ hK ⟨(blk_cell HK3.out 0).trans rfl, (blk_cell HQ3.out 13).trans rfl⟩ fun hHeld => ?_
    clear hK K
    refine on_ 9 (some 122) (fl 13 1023) fun K hK => ?_
    refine step_append_lies _ rfl (.tmp 117) (.tmp 121) 28 rfl b0 3 i0 (.int .i64 0) 1 8 Try.underlying28 HI0.out HZ0.out HS0.out HB0.out rfl (by decide) v1 pa.length (pa.map (Value.int .i64)) rfl (Kd.own_of_R HO3.out) ⟨G5, 0, none⟩ 1 1 [.int .i64 t.1] rfl rfl (World.news_of_block HL3.out) (by simp [Value.oneCell']) (by decide) (by have := HPL.out; unfold maxLen; omega) (by have := HPL.out; omega) (by have h1 := HBO.out; have h2 := HG3.out.2.2.2.1; omega) W3.heap.size rfl ?_
    intro gn cap W4 ho4 hg4 hr4 hl4
    have HOB : ∀ k, v1.ownBlock = some k → some k = q.pv.ownBlock ∨ W.heap.size < k := HOW.out
    have HO4 := Aside0.mk (show Kd.R (Kd.int .i64) 3 W4 b0 (fun _ => True) (.slice (some ⟨gn, 0, none⟩) (pa.length + 1) cap) (pa ++ [t.1]) from Kd.R_of_own (enc := Value.int .i64) (h1 := fun _ => rfl) (by rw [List.length_append, List.length_singleton]; simpa [encs] using ho4) (fun _ _ => trivial))
    have HR4 := Aside0.mk (HR3.out.keep (fun i hi => hg4.block i (qs HG3.out) (fun e => by rcases HOB i e.symm with h | h <;> first | (exact (HLG.out i hi) h) | (have := HLT.out.2; omega))))
    have HK4 := Aside0.mk (blk_grown HK3.out hg4 (fun e => by rcases HOB _ e.symm with h | h <;> first | (exact HNK.out h) | (omega)))
    have HQ4 := Aside0.mk (blk_grown HQ3.out hg4 (fun e => by rcases HOB _ e.symm with h | h <;> first | (exact HNQ.out h) | (have := HQL.out; omega)))
    have HG4 := Aside0.mk (HG3.out.grown hg4 (fun k hk => by rcases HOB k hk with h | h <;> first | (exact .inr (.inr (.inl h))) | (exact .inr (.inr (.inr (by omega))))))
    have HOW4 := Aside0.mk (show some gn = q.pv.ownBlock ∨ W.heap.size < gn from by rcases hr4 with h | h <;> first | (exact HOB gn h) | (have := blk_lt HK3.out; exact .inr (by omega)))
    clear ho4 hg4 hr4 hl4 HOB HR3 HK3 HQ3 HO3 HG3 HL3 HZ3
    refine nm_ hK ⟨(blk_cell HK4.out 0).trans rfl, (blk_cell HQ4.out 13).trans rfl⟩ fun hHeld => ?_
    clear hK K
    refine pu_ 10 123 (fl 13 2047) ?_
    refine pu_ 11 124 (fl 13 4095) ?_
    refine la_ 12 none (fl 13 8191) fun K hK => ?_
    refine skip_ (w1 := W4.setCell ⟨gq, 13, none⟩ (.slice (some ⟨gn, 0, none⟩) (pa.length + 1) cap)) (by rfl) rfl ?hrun ?_
    case hrun =>
     have c1 : W4.cell? ⟨gq, 13, none⟩ = some v1 := (blk_cell HQ4.out 13).trans rfl
     have f1 := blk_frozen HQ4.out 13
     first | (go_simp; done) | (go_simp; rfl)
    have hgs := grown_setCell W4 gq 13 (.slice (some ⟨gn, 0, none⟩) (pa.length + 1) cap)
    have HK5 := Aside0.mk (blk_grown HK4.out hgs qp)
    have HR5 := Aside0.mk (HR4.out.keep (fun i hi => hgs.block i (qs HG4.out) qk))
    have HG5 := Aside0.mk (HG4.out.grown hgs (fun k hk => by injection hk with hk; exact .inr (.inl hk.symm)))
    have HO5 := Aside0.mk (Kd.R_grown2 HO4.out rfl hgs (fun k hk e => by injection hk with hk; rw [← hk] at e; exact (Kd.R_ne HO4.out HQ4.out (by decide)) e))
    have HQ5 := Aside0.mk (show (W4.setCell ⟨gq, 13, none⟩ (.slice (some ⟨gn, 0, none⟩) (pa.length + 1) cap)).heap[gq]? = some (.cells (Rq.cells { q with pv := .slice (some ⟨gn, 0, none⟩) (pa.length + 1) cap, pa := pa ++ [t.1] }) 30 (0, 0)) from (blk_set HQ4.out 13 (.slice (some ⟨gn, 0, none⟩) (pa.length + 1) cap)).trans rfl)
    clear hgs HK4 HR4 HG4 HQ4 HO4
    generalize W4.setCell ⟨gq, 13, none⟩ (.slice (some ⟨gn, 0, none⟩) (pa.length + 1) cap) = W5 at HQ5 HK5 HR5 HG5 HO5 ⊢
    refine hK.out _ _ ?_
    clear hK K
    refine dn_ ?_
    go_wp2
    go_roundg (n - (j + 1))
    case measure => omega
    case rel => exact ⟨j + 1, _, _, _, _, by go_num, by omega, by omega, by rw [List.length_append, List.length_singleton]; have := HPJ.out; omega, ⟨HR5.out, HQ5.out, HK5.out, HO5.out, HG5.out, fun k hk => by injection hk with hk; rw [← hk]; exact HOW4.out⟩, HF2⟩
   ·have e0 : (err1 == 0) = false := by simpa using h0
    have hF := HF.out
    rw [show n - j = (n - (j + 1)) + 1 by omega, partsF, if_neg h0] at hF
    have HF2 := Aside0.mk hF
    have HL := Aside0.mk (show LoopL W wr g base gq b0 xs q p1 err1 v1 pa from ⟨hR, hQ, hK, hO, hG, hOW⟩)
    clear hF HF hR hQ hK hO hG hOW HK2 HQ2 HR2 HO2 HG2 h0
    go_wp2_with fail
    refine (Rd.err_any _ g base xs _ _ HR.out).mono ?_
    rintro e w3 ⟨rfl, rfl⟩
    go_wp2
    go_roundg (n - (j + 1))
    case measure => omega
    case rel => exact ⟨j + 1, v1, pa, p1, err1, by go_num, by omega, by omega, by omega, HL.out, HF2⟩
  ·have : j = n := by omega
   subst this
   have hF := HF.out
   rw [Nat.sub_self, partsF] at hF
   rw [← hF]
   have HL := Aside0.mk (show PartsPost W g base gq b0 xs q (pa, p1, err1) (.returned (.tuple #[])) wr from ⟨v1, rfl, hR, hQ, hO, hG⟩)
   clear hF HF hR hQ hK hO hG hOW HK2 HQ2 HR2 HO2 HG2 hj hg hlt
   go_wp2
   exact bodyPost_end (v := .tuple #[]) qt rfl HL.out
/-- What one letter reads. -/
def get1 (xs : List Int) (c : Nat) (q : Rq) (p err : Int) : Rq × Int × Int :=
 if c = 76 then ({ q with pa := (partsF xs (Rd.takeF xs p err 1).1.toNat (Rd.takeF xs p err 1).2.1 (Rd.takeF xs p err 1).2.2 q.pa).1 }, (partsF xs (Rd.takeF xs p err 1).1.toNat (Rd.takeF xs p err 1).2.1 (Rd.takeF xs p err 1).2.2 q.pa).2)
 else getF xs c q p err
def gets (xs : List Int) : List UInt8 → Rq → Int → Int → Rq × Int × Int
 | [], q, p, err => (q, p, err)
 | c :: cs, q, p, err => gets xs cs (get1 xs c.toNat q p err).1 (get1 xs c.toNat q p err).2.1 (get1 xs c.toNat q p err).2.2
theorem partsF_len (xs : List Int) : ∀ (n : Nat) (p err : Int) (acc : List Int), (partsF xs n p err acc).1.length ≤ acc.length + n
 | 0, p, err, acc => by rw [partsF]; exact Nat.le_refl _
 | n + 1, p, err, acc => by
  rw [partsF]
  split
  ·have := partsF_len xs n (Rd.takeF xs p err 1).2.1 (Rd.takeF xs p err 1).2.2 (acc ++ [(Rd.takeF xs p err 1).1])
   rw [List.length_append, List.length_singleton] at this
   omega
  ·have := partsF_len xs n p err acc
   omega
theorem getF_pv (xs : List Int) (c : Nat) (q : Rq) (p err : Int) (v : Value) : getF xs c { q with pv := v } p err = ({ (getF xs c q p err).1 with pv := v }, (getF xs c q p err).2) := by
 unfold getF
 by_cases h83 : c = 83
 ·rw [if_pos h83, if_pos h83]
 rw [if_neg h83, if_neg h83]
 by_cases h66 : c = 66
 ·rw [if_pos h66, if_pos h66]
 rw [if_neg h66, if_neg h66]
 by_cases h79 : c = 79
 ·rw [if_pos h79, if_pos h79]
 rw [if_neg h79, if_neg h79]
 by_cases h86 : c = 86
 ·rw [if_pos h86, if_pos h86]
 rw [if_neg h86, if_neg h86]
 by_cases h80 : c = 80
 ·rw [if_pos h80, if_pos h80]
 rw [if_neg h80, if_neg h80]
 by_cases h68 : c = 68
 ·rw [if_pos h68, if_pos h68]
 rw [if_neg h68, if_neg h68]
 by_cases h88 : c = 88
 ·rw [if_pos h88, if_pos h88]
 rw [if_neg h88, if_neg h88]
 by_cases h67 : c = 67
 ·rw [if_pos h67, if_pos h67]
  by_cases h2 : (Rd.takeF xs p err 1).1 = 2
  ·rw [if_pos h2, if_pos h2]
  ·rw [if_neg h2, if_neg h2]
 rw [if_neg h67, if_neg h67]
 by_cases h73 : c = 73
 ·rw [if_pos h73, if_pos h73]
 rw [if_neg h73, if_neg h73]
 by_cases h78 : c = 78
 ·rw [if_pos h78, if_pos h78]
 rw [if_neg h78, if_neg h78]
theorem getF_pa (xs : List Int) (c : Nat) (q : Rq) (p err : Int) : (getF xs c q p err).1.pa = q.pa ∧ (getF xs c q p err).1.pv = q.pv := by
 unfold getF
 by_cases h83 : c = 83
 ·rw [if_pos h83]; exact ⟨rfl, rfl⟩
 rw [if_neg h83]
 by_cases h66 : c = 66
 ·rw [if_pos h66]; exact ⟨rfl, rfl⟩
 rw [if_neg h66]
 by_cases h79 : c = 79
 ·rw [if_pos h79]; exact ⟨rfl, rfl⟩
 rw [if_neg h79]
 by_cases h86 : c = 86
 ·rw [if_pos h86]; exact ⟨rfl, rfl⟩
 rw [if_neg h86]
 by_cases h80 : c = 80
 ·rw [if_pos h80]; exact ⟨rfl, rfl⟩
 rw [if_neg h80]
 by_cases h68 : c = 68
 ·rw [if_pos h68]; exact ⟨rfl, rfl⟩
 rw [if_neg h68]
 by_cases h88 : c = 88
 ·rw [if_pos h88]; exact ⟨rfl, rfl⟩
 rw [if_neg h88]
 by_cases h67 : c = 67
 ·rw [if_pos h67]
  by_cases h2 : (Rd.takeF xs p err 1).1 = 2
  ·rw [if_pos h2]; exact ⟨rfl, rfl⟩
  ·rw [if_neg h2]; exact ⟨rfl, rfl⟩
 rw [if_neg h67]
 by_cases h73 : c = 73
 ·rw [if_pos h73]; exact ⟨rfl, rfl⟩
 rw [if_neg h73]
 by_cases h78 : c = 78
 ·rw [if_pos h78]; exact ⟨rfl, rfl⟩
 rw [if_neg h78]
 exact ⟨rfl, rfl⟩
/-- A letter's read, whatever letter. -/
def Get1Post (W : World) (g base gq b0 : Nat) (xs : List Int) (r : Rq × Int × Int) (v0 : Value) (e : Ending) (w' : World) : Prop := ∃ v, e = .returned (.tuple #[]) ∧ Rd.Rdr w' g base xs r.2.1 r.2.2 ∧ w'.heap[gq]? = some (.cells (Rq.cells { r.1 with pv := v }) 30 (0, 0)) ∧ Kd.R (Kd.int .i64) 3 w' b0 (fun _ => True) v r.1.pa ∧ G3 W w' g gq v0
theorem get1_any (W : World) (g base gq b0 : Nat) (xs : List Int) (p err : Int) (q : Rq) (v : Value) (c : Nat) (hc : c ∈ letters) (hR : Rd.Rdr W g base xs p err) (hq : W.heap[gq]? = some (.cells (Rq.cells { q with pv := v }) 30 (0, 0))) (hgq : g < gq) (hO : Kd.R (Kd.int .i64) 3 W b0 (fun _ => True) v q.pa) (hb0 : b0 ≤ W.heap.size) (hlow : ∀ i, i ≤ g → some i ≠ v.ownBlock) (hpl : q.pa.length ≤ 100000) :
  Calls Try.prog 27 #[.agg #[.pointer (some ⟨g, 0, none⟩)], .pointer (some ⟨gq, 0, none⟩), .int .i32 (c : Int)] W (Get1Post W g base gq b0 xs (get1 xs c q p err) v) := by
 have key : c ≠ 76 → Calls Try.prog 27 #[.agg #[.pointer (some ⟨g, 0, none⟩)], .pointer (some ⟨gq, 0, none⟩), .int .i32 (c : Int)] W (GetPost W g base gq xs (getF xs c { q with pv := v } p err)) → Calls Try.prog 27 #[.agg #[.pointer (some ⟨g, 0, none⟩)], .pointer (some ⟨gq, 0, none⟩), .int .i32 (c : Int)] W (Get1Post W g base gq b0 xs (get1 xs c q p err) v) := by
  intro h76 h
  refine h.mono ?_
  rintro e w' ⟨he, h1, h2, h3⟩
  have hg : get1 xs c q p err = getF xs c q p err := if_neg h76
  rw [getF_pv] at h1 h2
  refine ⟨v, he, ?_, ?_, ?_, G3.of2 v h3⟩
  ·rw [hg]; exact h1
  ·rw [hg]; exact h2
  ·rw [hg, (getF_pa xs c q p err).1]
   exact Kd.R_mono (Kd.R_step (Kd.R_tight rfl hO) (fun k hk hlt => h3.2.2.2.2 k hlt (fun e => hlow g (Nat.le_refl _) (by rw [← e]; exact hk)) (fun e => (Kd.R_ne hO hq (by decide)) (by rw [← e]; exact hk)))) (fun _ _ => trivial)
 simp only [letters, List.mem_cons, List.not_mem_nil, or_false] at hc
 rcases hc with rfl | rfl | rfl | rfl | rfl | rfl | rfl | rfl | rfl | rfl | rfl
 ·exact key (by decide) (wire_reader_get.get83 W g base gq xs p err { q with pv := v } hR hq hgq)
 ·exact key (by decide) (wire_reader_get.get66 W g base gq xs p err { q with pv := v } hR hq hgq)
 ·exact key (by decide) (wire_reader_get.get79 W g base gq xs p err { q with pv := v } hR hq hgq)
 ·exact key (by decide) (wire_reader_get.get86 W g base gq xs p err { q with pv := v } hR hq hgq)
 ·exact key (by decide) (wire_reader_get.get80 W g base gq xs p err { q with pv := v } hR hq hgq)
 ·exact key (by decide) (wire_reader_get.get68 W g base gq xs p err { q with pv := v } hR hq hgq)
 ·exact key (by decide) (wire_reader_get.get67 W g base gq xs p err { q with pv := v } hR hq hgq)
 ·exact key (by decide) (wire_reader_get.get73 W g base gq xs p err { q with pv := v } hR hq hgq)
 ·exact key (by decide) (wire_reader_get.get78 W g base gq xs p err { q with pv := v } hR hq hgq)
 ·refine (wire_reader_get.get76 W g base gq b0 xs p err { q with pv := v } hR hq hgq hO hb0 hlow hpl).mono ?_
  rintro e w' ⟨v2, he, h1, h2, h3, h4⟩
  exact ⟨v2, he, h1, h2, h3, h4⟩
 ·exact key (by decide) (wire_reader_get.get88 W g base gq xs p err { q with pv := v } hR hq hgq)
def wire_Read.q0 (kd : Int) : Rq := ⟨kd, 0, ⟨#[]⟩, ⟨#[]⟩, ⟨#[]⟩, ⟨#[]⟩, ⟨#[]⟩, ⟨#[]⟩, 0, 0, 0, 0, 0, .slice none 0 0, []⟩
def wire_Read.Loop (w W : World) (g gb gq K base : Nat) (xs : List Int) (q : Rq) (p err : Int) (v : Value) (s : ByteArray) (pos : Nat) : Prop := Below w.heap.size w W ∧ W.heap[w.heap.size]? = some (.cells #[.int .i64 0, .int .i64 0, .string ⟨#[]⟩, .string ⟨#[]⟩, .string ⟨#[]⟩, .string ⟨#[]⟩, .string ⟨#[]⟩, .string ⟨#[]⟩, .int .i64 0, .int .i64 0, .int .i64 0, .int .i64 0, .int .i64 0, .slice none 0 0] 30 (0, 0)) ∧ W.heap[gb]? = some (.cells #[.pointer (some ⟨g, 0, none⟩)] 75 (0, 0)) ∧ Rd.Rdr W g base xs p err ∧ W.heap[gq]? = some (.cells (Rq.cells { q with pv := v }) 30 (0, 0)) ∧ Kd.R (Kd.int .i64) 3 W (g + 1) (fun _ => True) v q.pa ∧ W.heap[K]? = some (.stringIter s pos)
def wire_Read.out (fin : Rq × Int × Int) (E ec : Int) : Rq × Int := if E = 0 then (if ec = 0 then (fin.1, 0) else (wire_Read.q0 0, 4)) else (wire_Read.q0 0, 4)
theorem iter_not_ownI {w : World} {base : Nat} {ok : Nat → Prop} {v : Value} {xs : List Int} {K : Nat} {s : ByteArray} {pos : Nat} (h : Kd.R (Kd.int .i64) 3 w base ok v xs) (hk : w.heap[K]? = some (.stringIter s pos)) : some K ≠ v.ownBlock := by
 intro e
 obtain ⟨cells, hc⟩ := own_typed (Kd.own_of_R h) K e.symm
 rw [hk] at hc
 cases hc
set_option maxHeartbeats 4000000 in
set_option maxRecDepth 100000 in
theorem wire_Read.walk (A0 : Option Addr) (c0 : Nat) (l0 : List Int) (w : World) (hr0 : Kd.C (Kd.int .u8) w A0 l0.length l0) (hlen : l0.length ≤ 140737488351232) (hby : ∀ x ∈ l0, 0 ≤ x ∧ x ≤ 255) (k : Nat) (s : ByteArray) (hs : wire_Fields.f k (Rd.takeF l0 0 0 1).1 = some s) (hok : okLetters s = true) (hsz : s.size ≤ 100)
  (fin : Rq × Int × Int) (hfin : gets l0 s.data.toList (wire_Read.q0 (Rd.takeF l0 0 0 1).1) (Rd.takeF l0 0 0 1).2.1 (Rd.takeF l0 0 0 1).2.2 = fin) (ec : Int)
  (hec : Rd.endF l0 fin.2.1 fin.2.2 = 0 → wire_Check.f k fin.1.kd fin.1.ses fin.1.bu fin.1.ob fin.1.ve fin.1.pr fin.1.de fin.1.bo fin.1.ck fin.1.re fin.1.im fin.1.id fin.1.n fin.1.pa = some ec) :
  Calls Try.prog 10 #[.slice A0 l0.length c0] w fun e w' => ∃ v, e = .returned (.tuple #[.agg (Rq.cells { (wire_Read.out fin (Rd.endF l0 fin.2.1 fin.2.2) ec).1 with pv := v }), .int .i64 (wire_Read.out fin (Rd.endF l0 fin.2.1 fin.2.2) ec).2]) ∧ Kd.R (Kd.int .i64) 3 w' w.heap.size (fun _ => True) v (wire_Read.out fin (Rd.endF l0 fin.2.1 fin.2.2) ec).1.pa ∧ Below w.heap.size w w' := by
 have HR0 := Aside0.mk (show ReadsInt w .u8 A0 l0.length l0 from Kd.reads_of_C (enc := Value.int .u8) (d := (0 : Int)) (h1 := fun _ => rfl) hr0)
 have HFIN := Aside0.mk hfin
 have HEC := Aside0.mk hec
 have HS := Aside0.mk hs
 have HOK := Aside0.mk hok
 have HSZ := Aside0.mk hsz
 have HBY := Aside0.mk hby
 have HLEN := Aside0.mk hlen
 clear hr0 hs hok hsz hby hlen hfin hec
 go_enter Try.func10, Try.ntmps10
 go_wp2_with fail
 refine (Rd.new_any _ A0 l0.length c0 l0 (HR0.out.allocS _) HLEN.out HBY.out).mono ?_
 rintro e w1 ⟨g, rfl, hr1, hb1⟩
 rw [World.size_alloc] at hr1
 have HL1 := Aside0.mk hr1.lt
 have HR1 := Aside0.mk hr1
 have HB1 := Aside0.mk (below_step (below_alloc (Below.refl w.heap.size w) _) hb1)
 have HZ1 := Aside0.mk (blk_below (blk_new w (.cells #[.int .i64 0, .int .i64 0, .string ⟨#[]⟩, .string ⟨#[]⟩, .string ⟨#[]⟩, .string ⟨#[]⟩, .string ⟨#[]⟩, .string ⟨#[]⟩, .int .i64 0, .int .i64 0, .int .i64 0, .int .i64 0, .int .i64 0, .slice none 0 0] 30)) hb1)
 have HR2 := Aside0.mk (Rd.Rdr.below (W := w1) HR1.out (below_alloc (Below.refl _ _) (.cells #[.pointer (some ⟨g, 0, none⟩)] 75)))
 have HK2 := Aside0.mk (blk_new w1 (.cells #[.pointer (some ⟨g, 0, none⟩)] 75))
 have HZ2 := Aside0.mk (blk_alloc HZ1.out (.cells #[.pointer (some ⟨g, 0, none⟩)] 75))
 have HB2 := Aside0.mk (HB1.out.alloc HB1.out.size (.cells #[.pointer (some ⟨g, 0, none⟩)] 75))
 clear hr1 hb1 HR1 HB1 HZ1
 have c0 : (w1.alloc (.cells #[.pointer (some ⟨g, 0, none⟩)] 75)).cell? ⟨w1.heap.size, 0, none⟩ = some (.pointer (some ⟨g, 0, none⟩)) := (blk_cell HK2.out 0).trans rfl
 go_wp2_with fail
 refine (Rd.u8_any _ g _ l0 0 0 HR2.out).mono ?_
 obtain ⟨t, ht⟩ : ∃ t, Rd.takeF l0 0 0 1 = t := ⟨_, rfl⟩
 rw [ht] at HS HFIN ⊢
 rintro e w3 ⟨rfl, hr3, hg3⟩
 have HT := Aside0.mk ht
 clear ht c0
 have HR3 := Aside0.mk hr3
 have HK3 := Aside0.mk (blk_grown HK2.out hg3 (by have := HL1.out.2; intro e; injection e with e; omega))
 have HZ3 := Aside0.mk (blk_grown HZ2.out hg3 (by have := HL1.out.1; intro e; injection e with e; omega))
 have HB3 := Aside0.mk (HB2.out.grown hg3 HB2.out.size (fun k_ hk_ => by injection hk_ with hk_; have := HL1.out.1; omega))
 clear hr3 hg3 HR2 HK2 HZ2 HB2
 obtain ⟨gb, hgb⟩ : ∃ gb, w1.heap.size = gb := ⟨_, rfl⟩
 rw [hgb] at HL1 HK3 ⊢
 clear hgb w1
 have HLB := Aside0.mk (blk_lt HK3.out)
 have HQ4 := Aside0.mk (blk_new w3 (.cells #[.int .i64 t.1, .int .i64 0, .string ⟨#[]⟩, .string ⟨#[]⟩, .string ⟨#[]⟩, .string ⟨#[]⟩, .string ⟨#[]⟩, .string ⟨#[]⟩, .int .i64 0, .int .i64 0, .int .i64 0, .int .i64 0, .int .i64 0, .slice none 0 0] 30))
 have HR4 := Aside0.mk (Rd.Rdr.below (W := w3) HR3.out (below_alloc (Below.refl _ _) (.cells #[.int .i64 t.1, .int .i64 0, .string ⟨#[]⟩, .string ⟨#[]⟩, .string ⟨#[]⟩, .string ⟨#[]⟩, .string ⟨#[]⟩, .string ⟨#[]⟩, .int .i64 0, .int .i64 0, .int .i64 0, .int .i64 0, .int .i64 0, .slice none 0 0] 30)))
 have HK4 := Aside0.mk (blk_alloc HK3.out (.cells #[.int .i64 t.1, .int .i64 0, .string ⟨#[]⟩, .string ⟨#[]⟩, .string ⟨#[]⟩, .string ⟨#[]⟩, .string ⟨#[]⟩, .string ⟨#[]⟩, .int .i64 0, .int .i64 0, .int .i64 0, .int .i64 0, .int .i64 0, .slice none 0 0] 30))
 have HZ4 := Aside0.mk (blk_alloc HZ3.out (.cells #[.int .i64 t.1, .int .i64 0, .string ⟨#[]⟩, .string ⟨#[]⟩, .string ⟨#[]⟩, .string ⟨#[]⟩, .string ⟨#[]⟩, .string ⟨#[]⟩, .int .i64 0, .int .i64 0, .int .i64 0, .int .i64 0, .int .i64 0, .slice none 0 0] 30))
 have HB4 := Aside0.mk (HB3.out.alloc HB3.out.size (.cells #[.int .i64 t.1, .int .i64 0, .string ⟨#[]⟩, .string ⟨#[]⟩, .string ⟨#[]⟩, .string ⟨#[]⟩, .string ⟨#[]⟩, .string ⟨#[]⟩, .int .i64 0, .int .i64 0, .int .i64 0, .int .i64 0, .int .i64 0, .slice none 0 0] 30))
 clear HR3 HK3 HZ3 HB3
 obtain ⟨q0c, q1c, q2c, q3c, q4c, q5c, q6c, q7c, q8c, q9c, q10c, q11c, q12c, q13c⟩ := cells14 HQ4.out
 clear q1c q2c q3c q4c q5c q6c q7c q8c q9c q10c q11c q12c q13c
 go_wp2_with fail
 refine (wire_Fields.calls k t.1 s _ HS.out).mono ?_
 rintro e w4 ⟨rfl, ⟨nd, rfl⟩⟩
 go_wp2_with fail
 obtain ⟨gq, hgq⟩ : ∃ gq, w3.heap.size = gq := ⟨_, rfl⟩
 have hLB := HLB.out
 rw [hgq] at HLB hLB
 have HI5 := Aside0.mk (show (((w3.alloc (.cells #[.int .i64 t.1, .int .i64 0, .string ⟨#[]⟩, .string ⟨#[]⟩, .string ⟨#[]⟩, .string ⟨#[]⟩, .string ⟨#[]⟩, .string ⟨#[]⟩, .int .i64 0, .int .i64 0, .int .i64 0, .int .i64 0, .int .i64 0, .slice none 0 0] 30)).drewN nd).iter s 0).heap[gq + 1]? = some (.stringIter s 0) from by
  have h := World.iter_heap ((w3.alloc (.cells #[.int .i64 t.1, .int .i64 0, .string ⟨#[]⟩, .string ⟨#[]⟩, .string ⟨#[]⟩, .string ⟨#[]⟩, .string ⟨#[]⟩, .string ⟨#[]⟩, .int .i64 0, .int .i64 0, .int .i64 0, .int .i64 0, .int .i64 0, .slice none 0 0] 30)).drewN nd) s 0
  have e : ((w3.alloc (.cells #[.int .i64 t.1, .int .i64 0, .string ⟨#[]⟩, .string ⟨#[]⟩, .string ⟨#[]⟩, .string ⟨#[]⟩, .string ⟨#[]⟩, .string ⟨#[]⟩, .int .i64 0, .int .i64 0, .int .i64 0, .int .i64 0, .int .i64 0, .slice none 0 0] 30)).drewN nd).heap.size = gq + 1 := by rw [← hgq]; simp
  rw [e] at h
  exact h)
 have HQ5 := Aside0.mk (show (((w3.alloc (.cells #[.int .i64 t.1, .int .i64 0, .string ⟨#[]⟩, .string ⟨#[]⟩, .string ⟨#[]⟩, .string ⟨#[]⟩, .string ⟨#[]⟩, .string ⟨#[]⟩, .int .i64 0, .int .i64 0, .int .i64 0, .int .i64 0, .int .i64 0, .slice none 0 0] 30)).drewN nd).iter s 0).heap[gq]? = some (.cells (Rq.cells { wire_Read.q0 t.1 with pv := .slice none 0 0 }) 30 (0, 0)) from by rw [← hgq]; exact blk_alloc (blk_drewN HQ4.out nd) _)
 have HZ5 := Aside0.mk (show (((w3.alloc (.cells #[.int .i64 t.1, .int .i64 0, .string ⟨#[]⟩, .string ⟨#[]⟩, .string ⟨#[]⟩, .string ⟨#[]⟩, .string ⟨#[]⟩, .string ⟨#[]⟩, .int .i64 0, .int .i64 0, .int .i64 0, .int .i64 0, .int .i64 0, .slice none 0 0] 30)).drewN nd).iter s 0).heap[w.heap.size]? = some (.cells #[.int .i64 0, .int .i64 0, .string ⟨#[]⟩, .string ⟨#[]⟩, .string ⟨#[]⟩, .string ⟨#[]⟩, .string ⟨#[]⟩, .string ⟨#[]⟩, .int .i64 0, .int .i64 0, .int .i64 0, .int .i64 0, .int .i64 0, .slice none 0 0] 30 (0, 0)) from blk_alloc (blk_drewN HZ4.out nd) _)
 have HK5 := Aside0.mk (show (((w3.alloc (.cells #[.int .i64 t.1, .int .i64 0, .string ⟨#[]⟩, .string ⟨#[]⟩, .string ⟨#[]⟩, .string ⟨#[]⟩, .string ⟨#[]⟩, .string ⟨#[]⟩, .int .i64 0, .int .i64 0, .int .i64 0, .int .i64 0, .int .i64 0, .slice none 0 0] 30)).drewN nd).iter s 0).heap[gb]? = some (.cells #[.pointer (some ⟨g, 0, none⟩)] 75 (0, 0)) from blk_alloc (blk_drewN HK4.out nd) _)
 have HB5 := Aside0.mk (show Below w.heap.size w (((w3.alloc (.cells #[.int .i64 t.1, .int .i64 0, .string ⟨#[]⟩, .string ⟨#[]⟩, .string ⟨#[]⟩, .string ⟨#[]⟩, .string ⟨#[]⟩, .string ⟨#[]⟩, .int .i64 0, .int .i64 0, .int .i64 0, .int .i64 0, .int .i64 0, .slice none 0 0] 30)).drewN nd).iter s 0) from below_alloc (pw_below_drewN HB4.out nd) _)
 have HR5 := Aside0.mk (show Rd.Rdr (((w3.alloc (.cells #[.int .i64 t.1, .int .i64 0, .string ⟨#[]⟩, .string ⟨#[]⟩, .string ⟨#[]⟩, .string ⟨#[]⟩, .string ⟨#[]⟩, .string ⟨#[]⟩, .int .i64 0, .int .i64 0, .int .i64 0, .int .i64 0, .int .i64 0, .slice none 0 0] 30)).drewN nd).iter s 0) g (w.heap.size + 1) l0 t.2.1 t.2.2 from Rd.Rdr.below (W := w3.alloc (.cells #[.int .i64 t.1, .int .i64 0, .string ⟨#[]⟩, .string ⟨#[]⟩, .string ⟨#[]⟩, .string ⟨#[]⟩, .string ⟨#[]⟩, .string ⟨#[]⟩, .int .i64 0, .int .i64 0, .int .i64 0, .int .i64 0, .int .i64 0, .slice none 0 0] 30)) HR4.out (below_alloc (pw_below_drewN (Below.refl _ _) nd) _))
 have HO5 := Aside0.mk (show Kd.R (Kd.int .i64) 3 (((w3.alloc (.cells #[.int .i64 t.1, .int .i64 0, .string ⟨#[]⟩, .string ⟨#[]⟩, .string ⟨#[]⟩, .string ⟨#[]⟩, .string ⟨#[]⟩, .string ⟨#[]⟩, .int .i64 0, .int .i64 0, .int .i64 0, .int .i64 0, .int .i64 0, .slice none 0 0] 30)).drewN nd).iter s 0) (g + 1) (fun _ => True) (.slice none 0 0) (wire_Read.q0 t.1).pa from Kd.R_nil _ _ _ _ _)
 rw [hgq]
 generalize ((w3.alloc (.cells #[.int .i64 t.1, .int .i64 0, .string ⟨#[]⟩, .string ⟨#[]⟩, .string ⟨#[]⟩, .string ⟨#[]⟩, .string ⟨#[]⟩, .string ⟨#[]⟩, .int .i64 0, .int .i64 0, .int .i64 0, .int .i64 0, .int .i64 0, .slice none 0 0] 30)).drewN nd).iter s 0 = w5 at HI5 HQ5 HZ5 HK5 HB5 HR5 HO5 ⊢
 clear hgq HQ4 HR4 HK4 HZ4 HB4 q0c w3
 go_loopg [7] s.size (fun gg _ wr => ∃ (pos : Nat) (q : Rq) (p err : Int) (v : Value), pos ≤ s.size ∧ s.size - pos ≤ gg ∧ q.pa.length ≤ 300 * pos ∧ wire_Read.Loop w wr g gb gq (gq + 1) (w.heap.size + 1) l0 q p err v s pos ∧ Aside0 (gets l0 (s.data.toList.drop pos) q p err = fin))
 case atStart => exact ⟨0, wire_Read.q0 t.1, _, _, _, Nat.zero_le _, by omega, Nat.zero_le _, ⟨HB5.out, HZ5.out, HK5.out, HR5.out, HQ5.out, HO5.out, HI5.out⟩, HFIN⟩
 case round =>
  obtain ⟨pos, q, p, err, v, hpos, hg, hpl, hL, HF⟩ := hrel
  obtain ⟨hB, hZ, hK, hR, hQ, hO, hI⟩ := hL
  have HB := Aside0.mk hB
  have HZ := Aside0.mk hZ
  have HK := Aside0.mk hK
  have HR := Aside0.mk hR
  have HQ := Aside0.mk hQ
  have HO := Aside0.mk hO
  have HI := Aside0.mk hI
  have HPL := Aside0.mk hpl
  clear hB hZ hK hR hQ hO hpl HI5 HQ5 HZ5 HK5 HB5 HR5 HO5 HFIN
  by_cases hlt : pos < s.size
  ·have hl := ok_at s HOK.out pos hlt
   have hnx : ∀ ty, (Instr.next (.pointer (some ⟨gq + 1, 0, none⟩)) true ty).run Try.prog _ = _ := fun ty => Lib.run_next_ascii_at _ (gq + 1) s pos ty hI hlt hl.2
   have hF := HF.out
   rw [List.drop_eq_getElem_cons (show pos < s.data.toList.length by simpa using hlt)] at hF
   have HF2 := Aside0.mk (show gets l0 (s.data.toList.drop (pos + 1)) (get1 l0 s[pos].toNat q p err).1 (get1 l0 s[pos].toNat q p err).2.1 (get1 l0 s[pos].toNat q p err).2.2 = fin from hF)
   have HL := Aside0.mk hl.1
   have HKO := Aside0.mk (iter_not_ownI HO.out HI.out)
   have HZO := Aside0.mk (Kd.R_ne HO.out HZ.out (by decide))
   have HBO := Aside0.mk (Kd.R_ne HO.out HK.out (by decide))
   have HO6 := Aside0.mk (Kd.R_mono (ok' := fun _ => True) (Kd.R_kept (S := fun k_ => k_ = gq + 1) (W2 := wr.iterAt (gq + 1) s (pos + 1)) (Kd.R_tight rfl HO.out) ⟨Nat.le_of_eq (Lib.iterAt_size _ _ _ _).symm, fun i _ hn => Lib.iterAt_other _ _ _ _ _ hn⟩ (fun k_ hk_ he => HKO.out (by rw [← he]; exact hk_))) (fun _ _ => trivial))
   have HQ6 := Aside0.mk ((Lib.iterAt_other wr (gq + 1) gq s (pos + 1) (by omega)).trans HQ.out)
   have HZ6 := Aside0.mk ((Lib.iterAt_other wr (gq + 1) w.heap.size s (pos + 1) (by have := HL1.out; omega)).trans HZ.out)
   have HK6 := Aside0.mk ((Lib.iterAt_other wr (gq + 1) gb s (pos + 1) (by omega)).trans HK.out)
   have HI6 := Aside0.mk (Lib.iterAt_heap wr (gq + 1) s pos (pos + 1) HI.out)
   have HB6 := Aside0.mk (Lib.below_iterAt HB.out (show w.heap.size ≤ gq + 1 by have := HL1.out; omega) s (pos + 1))
   have HR6 := Aside0.mk (HR.out.keep (W1 := wr.iterAt (gq + 1) s (pos + 1)) (fun i hi => Lib.iterAt_other _ _ _ _ _ (by have := HL1.out; omega)))
   have c1 : (wr.iterAt (gq + 1) s (pos + 1)).cell? ⟨gb, 0, none⟩ = some (.pointer (some ⟨g, 0, none⟩)) := (blk_cell HK6.out 0).trans rfl
   clear hl hF hI HF HB HZ HK HR HQ HO HI
   go_wp2_with fail
   refine (get1_any _ g (w.heap.size + 1) gq (g + 1) l0 p err q v s[pos].toNat HL.out HR6.out HQ6.out (by have := HL1.out; omega) HO6.out (by have := HR6.out.lt.2; omega) (fun i hi e => by have := own_base (Kd.own_of_R HO6.out) i e.symm; omega) (by have := HPL.out; have := HSZ.out; omega)).mono ?_
   have hpl2 : (get1 l0 s[pos].toNat q p err).1.pa.length ≤ 300 * (pos + 1) := by
    have h1 := HPL.out
    unfold get1
    by_cases h76 : s[pos].toNat = 76
    ·rw [if_pos h76]
     have h2 := partsF_len l0 (Rd.takeF l0 p err 1).1.toNat (Rd.takeF l0 p err 1).2.1 (Rd.takeF l0 p err 1).2.2 q.pa
     have h3 := take1_bd l0 p err HBY.out
     dsimp only
     omega
    ·rw [if_neg h76, (getF_pa l0 s[pos].toNat q p err).1]
     omega
   have HPL2 := Aside0.mk hpl2
   clear hpl2
   generalize get1 l0 s[pos].toNat q p err = r at HF2 HPL2 ⊢
   rintro e w7 ⟨v2, rfl, h1, h2, h3, h4⟩
   have HR7 := Aside0.mk h1
   have HQ7 := Aside0.mk h2
   have HO7 := Aside0.mk h3
   have HZ7 := Aside0.mk ((h4.2.2.2.2 w.heap.size (blk_lt HZ6.out) (by have := HL1.out; omega) (by have := HL1.out; omega) HZO.out).trans HZ6.out)
   have HK7 := Aside0.mk ((h4.2.2.2.2 gb (blk_lt HK6.out) (by have := HL1.out; omega) (by omega) HBO.out).trans HK6.out)
   have HI7 := Aside0.mk ((h4.2.2.2.2 (gq + 1) (blk_lt HI6.out) (by have := HL1.out; omega) (by omega) HKO.out).trans HI6.out)
   have HB7 : Aside0 (Below w.heap.size w w7) := ⟨⟨h4.1.trans HB6.out.os, h4.2.1.trans HB6.out.tape, h4.2.2.1.trans HB6.out.output, Nat.le_trans HB6.out.size h4.2.2.2.1, fun i hi => (h4.2.2.2.2 i (Nat.lt_of_lt_of_le hi HB6.out.size) (by have := HL1.out; omega) (by have := HL1.out; omega) (fun e => by have := own_base (Kd.own_of_R HO6.out) i e.symm; have := HL1.out; omega)).trans (HB6.out.block i hi)⟩⟩
   clear h1 h2 h3 h4 c1 hnx HR6 HQ6 HO6 HZ6 HK6 HI6 HB6
   go_wp2
   go_roundg (s.size - (pos + 1))
   case measure => omega
   case rel => exact ⟨pos + 1, r.1, _, _, v2, by omega, by omega, HPL2.out, ⟨HB7.out, HZ7.out, HK7.out, HR7.out, HQ7.out, HO7.out, HI7.out⟩, HF2⟩
  ·have : pos = s.size := by omega
   subst this
   have hnx : ∀ ty, (Instr.next (.pointer (some ⟨gq + 1, 0, none⟩)) true ty).run Try.prog _ = _ := fun ty => Lib.run_next_end_at _ (gq + 1) s s.size ty hI hlt
   have hF := HF.out
   rw [List.drop_eq_nil_of_le (by simp)] at hF
   have hF : (q, p, err) = fin := hF
   subst hF
   clear hI HF hg hpos hlt HI
   have c1 : wr.cell? ⟨gb, 0, none⟩ = some (.pointer (some ⟨g, 0, none⟩)) := (blk_cell HK.out 0).trans rfl
   go_wp2_with fail
   refine (Rd.end_any _ g _ l0 p err HR.out).mono ?_
   rintro e w8 ⟨rfl, hg8⟩
   have HZ8 := Aside0.mk (blk_grown HZ.out hg8 (by simp))
   have HQ8 := Aside0.mk (blk_grown HQ.out hg8 (by simp))
   have HB8 := Aside0.mk (HB.out.grown hg8 HB.out.size (fun k_ hk_ => by cases hk_))
   have HO8 := Aside0.mk (Kd.R_grown2 HO.out rfl hg8 (fun k_ hk_ => by cases hk_))
   clear hg8 HZ HQ HB HO HK HR c1 hnx HPL hF
   have HEC : Aside0 (Rd.endF l0 p err = 0 → wire_Check.f k q.kd q.ses q.bu q.ob q.ve q.pr q.de q.bo q.ck q.re q.im q.id q.n q.pa = some ec) := ⟨HEC.out⟩
   obtain ⟨E, hE⟩ : ∃ E, Rd.endF l0 p err = E := ⟨_, rfl⟩
   rw [hE]
   have HEE := Aside0.mk hE
   clear hE
   by_cases h0 : E = 0
   ·have e0 : (E != 0) = false := by simpa using h0
    have HC := Aside0.mk (HEC.out (HEE.out.trans h0))
    have HE0 := Aside0.mk h0
    clear HEC h0
    obtain ⟨kd, ses, bu, ob, ve, pr, de, bo, ck, re, im, id, n, pv0, pa⟩ := q
    dsimp only [Rq.cells] at HQ8 HO8 HC
    obtain ⟨A, c, ev⟩ := Kd.R_slice HO8.out
    subst ev
    obtain ⟨q0c, q1c, q2c, q3c, q4c, q5c, q6c, q7c, q8c, q9c, q10c, q11c, q12c, q13c⟩ := cells14 HQ8.out
    go_wp2_with fail
    refine (wire_Check.calls k kd ses bu ob ve pr de bo ck re im id n A c pa ec _ (Kd.R_reads' HO8.out).2.2 (Kd.R_reads' HO8.out).2.1 HC.out).mono ?_
    rintro e w9 ⟨rfl, hb9⟩
    have HZ9_ := Aside0.mk (blk_below HZ8.out hb9)
    have HQ9_ := Aside0.mk (blk_below HQ8.out hb9)
    have HB9_ := Aside0.mk (below_step HB8.out hb9)
    have HO9_ := Aside0.mk (Kd.R_below HO8.out hb9)
    clear hb9 HZ8 HQ8 HB8 HO8 q0c q1c q2c q3c q4c q5c q6c q7c q8c q9c q10c q11c q12c q13c
    by_cases h1 : ec = 0
    ·have e1 : (ec != 0) = false := by simpa using h1
     have hres : wire_Read.out (⟨kd, ses, bu, ob, ve, pr, de, bo, ck, re, im, id, n, pv0, pa⟩, p, err) (Rd.endF l0 p err) ec = (⟨kd, ses, bu, ob, ve, pr, de, bo, ck, re, im, id, n, pv0, pa⟩, 0) := by unfold wire_Read.out; rw [if_pos (HEE.out.trans HE0.out), if_pos h1]
     have HRES := Aside0.mk hres
     clear h1 hres
     obtain ⟨q0c, q1c, q2c, q3c, q4c, q5c, q6c, q7c, q8c, q9c, q10c, q11c, q12c, q13c⟩ := cells14 HQ9_.out
     have hgs := grown_tr (grown_tr (grown_tr (grown_tr (grown_tr (grown_tr (grown_tr (grown_tr (grown_tr (grown_tr (grown_tr (grown_tr (grown_tr (grown_setCell w9 w.heap.size 0 (.int .i64 kd)) (grown_setCell _ w.heap.size 1 (.int .i64 ses))) (grown_setCell _ w.heap.size 2 (.string bu))) (grown_setCell _ w.heap.size 3 (.string ob))) (grown_setCell _ w.heap.size 4 (.string ve))) (grown_setCell _ w.heap.size 5 (.string pr))) (grown_setCell _ w.heap.size 6 (.string de))) (grown_setCell _ w.heap.size 7 (.string bo))) (grown_setCell _ w.heap.size 8 (.int .i64 ck))) (grown_setCell _ w.heap.size 9 (.int .i64 re))) (grown_setCell _ w.heap.size 10 (.int .i64 im))) (grown_setCell _ w.heap.size 11 (.int .i64 id))) (grown_setCell _ w.heap.size 12 (.int .i64 n))) (grown_setCell _ w.heap.size 13 (.slice A pa.length c))
     have hz0 : (w9.setCell ⟨w.heap.size, 0, none⟩ (.int .i64 kd)).heap[w.heap.size]? = some (.cells #[.int .i64 kd, .int .i64 0, .string ⟨#[]⟩, .string ⟨#[]⟩, .string ⟨#[]⟩, .string ⟨#[]⟩, .string ⟨#[]⟩, .string ⟨#[]⟩, .int .i64 0, .int .i64 0, .int .i64 0, .int .i64 0, .int .i64 0, .slice none 0 0] 30 (0, 0)) := (blk_set HZ9_.out 0 (.int .i64 kd)).trans rfl
     have hz1 : ((w9.setCell ⟨w.heap.size, 0, none⟩ (.int .i64 kd)).setCell ⟨w.heap.size, 1, none⟩ (.int .i64 ses)).heap[w.heap.size]? = some (.cells #[.int .i64 kd, .int .i64 ses, .string ⟨#[]⟩, .string ⟨#[]⟩, .string ⟨#[]⟩, .string ⟨#[]⟩, .string ⟨#[]⟩, .string ⟨#[]⟩, .int .i64 0, .int .i64 0, .int .i64 0, .int .i64 0, .int .i64 0, .slice none 0 0] 30 (0, 0)) := (blk_set hz0 1 (.int .i64 ses)).trans rfl
     have hz2 : (((w9.setCell ⟨w.heap.size, 0, none⟩ (.int .i64 kd)).setCell ⟨w.heap.size, 1, none⟩ (.int .i64 ses)).setCell ⟨w.heap.size, 2, none⟩ (.string bu)).heap[w.heap.size]? = some (.cells #[.int .i64 kd, .int .i64 ses, .string bu, .string ⟨#[]⟩, .string ⟨#[]⟩, .string ⟨#[]⟩, .string ⟨#[]⟩, .string ⟨#[]⟩, .int .i64 0, .int .i64 0, .int .i64 0, .int .i64 0, .int .i64 0, .slice none 0 0] 30 (0, 0)) := (blk_set hz1 2 (.string bu)).trans rfl
     have hz3 : ((((w9.setCell ⟨w.heap.size, 0, none⟩ (.int .i64 kd)).setCell ⟨w.heap.size, 1, none⟩ (.int .i64 ses)).setCell ⟨w.heap.size, 2, none⟩ (.string bu)).setCell ⟨w.heap.size, 3, none⟩ (.string ob)).heap[w.heap.size]? = some (.cells #[.int .i64 kd, .int .i64 ses, .string bu, .string ob, .string ⟨#[]⟩, .string ⟨#[]⟩, .string ⟨#[]⟩, .string ⟨#[]⟩, .int .i64 0, .int .i64 0, .int .i64 0, .int .i64 0, .int .i64 0, .slice none 0 0] 30 (0, 0)) := (blk_set hz2 3 (.string ob)).trans rfl
     have hz4 : (((((w9.setCell ⟨w.heap.size, 0, none⟩ (.int .i64 kd)).setCell ⟨w.heap.size, 1, none⟩ (.int .i64 ses)).setCell ⟨w.heap.size, 2, none⟩ (.string bu)).setCell ⟨w.heap.size, 3, none⟩ (.string ob)).setCell ⟨w.heap.size, 4, none⟩ (.string ve)).heap[w.heap.size]? = some (.cells #[.int .i64 kd, .int .i64 ses, .string bu, .string ob, .string ve, .string ⟨#[]⟩, .string ⟨#[]⟩, .string ⟨#[]⟩, .int .i64 0, .int .i64 0, .int .i64 0, .int .i64 0, .int .i64 0, .slice none 0 0] 30 (0, 0)) := (blk_set hz3 4 (.string ve)).trans rfl
     have hz5 : ((((((w9.setCell ⟨w.heap.size, 0, none⟩ (.int .i64 kd)).setCell ⟨w.heap.size, 1, none⟩ (.int .i64 ses)).setCell ⟨w.heap.size, 2, none⟩ (.string bu)).setCell ⟨w.heap.size, 3, none⟩ (.string ob)).setCell ⟨w.heap.size, 4, none⟩ (.string ve)).setCell ⟨w.heap.size, 5, none⟩ (.string pr)).heap[w.heap.size]? = some (.cells #[.int .i64 kd, .int .i64 ses, .string bu, .string ob, .string ve, .string pr, .string ⟨#[]⟩, .string ⟨#[]⟩, .int .i64 0, .int .i64 0, .int .i64 0, .int .i64 0, .int .i64 0, .slice none 0 0] 30 (0, 0)) := (blk_set hz4 5 (.string pr)).trans rfl
     have hz6 : (((((((w9.setCell ⟨w.heap.size, 0, none⟩ (.int .i64 kd)).setCell ⟨w.heap.size, 1, none⟩ (.int .i64 ses)).setCell ⟨w.heap.size, 2, none⟩ (.string bu)).setCell ⟨w.heap.size, 3, none⟩ (.string ob)).setCell ⟨w.heap.size, 4, none⟩ (.string ve)).setCell ⟨w.heap.size, 5, none⟩ (.string pr)).setCell ⟨w.heap.size, 6, none⟩ (.string de)).heap[w.heap.size]? = some (.cells #[.int .i64 kd, .int .i64 ses, .string bu, .string ob, .string ve, .string pr, .string de, .string ⟨#[]⟩, .int .i64 0, .int .i64 0, .int .i64 0, .int .i64 0, .int .i64 0, .slice none 0 0] 30 (0, 0)) := (blk_set hz5 6 (.string de)).trans rfl
     have hz7 : ((((((((w9.setCell ⟨w.heap.size, 0, none⟩ (.int .i64 kd)).setCell ⟨w.heap.size, 1, none⟩ (.int .i64 ses)).setCell ⟨w.heap.size, 2, none⟩ (.string bu)).setCell ⟨w.heap.size, 3, none⟩ (.string ob)).setCell ⟨w.heap.size, 4, none⟩ (.string ve)).setCell ⟨w.heap.size, 5, none⟩ (.string pr)).setCell ⟨w.heap.size, 6, none⟩ (.string de)).setCell ⟨w.heap.size, 7, none⟩ (.string bo)).heap[w.heap.size]? = some (.cells #[.int .i64 kd, .int .i64 ses, .string bu, .string ob, .string ve, .string pr, .string de, .string bo, .int .i64 0, .int .i64 0, .int .i64 0, .int .i64 0, .int .i64 0, .slice none 0 0] 30 (0, 0)) := (blk_set hz6 7 (.string bo)).trans rfl
     have hz8 : (((((((((w9.setCell ⟨w.heap.size, 0, none⟩ (.int .i64 kd)).setCell ⟨w.heap.size, 1, none⟩ (.int .i64 ses)).setCell ⟨w.heap.size, 2, none⟩ (.string bu)).setCell ⟨w.heap.size, 3, none⟩ (.string ob)).setCell ⟨w.heap.size, 4, none⟩ (.string ve)).setCell ⟨w.heap.size, 5, none⟩ (.string pr)).setCell ⟨w.heap.size, 6, none⟩ (.string de)).setCell ⟨w.heap.size, 7, none⟩ (.string bo)).setCell ⟨w.heap.size, 8, none⟩ (.int .i64 ck)).heap[w.heap.size]? = some (.cells #[.int .i64 kd, .int .i64 ses, .string bu, .string ob, .string ve, .string pr, .string de, .string bo, .int .i64 ck, .int .i64 0, .int .i64 0, .int .i64 0, .int .i64 0, .slice none 0 0] 30 (0, 0)) := (blk_set hz7 8 (.int .i64 ck)).trans rfl
     have hz9 : ((((((((((w9.setCell ⟨w.heap.size, 0, none⟩ (.int .i64 kd)).setCell ⟨w.heap.size, 1, none⟩ (.int .i64 ses)).setCell ⟨w.heap.size, 2, none⟩ (.string bu)).setCell ⟨w.heap.size, 3, none⟩ (.string ob)).setCell ⟨w.heap.size, 4, none⟩ (.string ve)).setCell ⟨w.heap.size, 5, none⟩ (.string pr)).setCell ⟨w.heap.size, 6, none⟩ (.string de)).setCell ⟨w.heap.size, 7, none⟩ (.string bo)).setCell ⟨w.heap.size, 8, none⟩ (.int .i64 ck)).setCell ⟨w.heap.size, 9, none⟩ (.int .i64 re)).heap[w.heap.size]? = some (.cells #[.int .i64 kd, .int .i64 ses, .string bu, .string ob, .string ve, .string pr, .string de, .string bo, .int .i64 ck, .int .i64 re, .int .i64 0, .int .i64 0, .int .i64 0, .slice none 0 0] 30 (0, 0)) := (blk_set hz8 9 (.int .i64 re)).trans rfl
     have hz10 : (((((((((((w9.setCell ⟨w.heap.size, 0, none⟩ (.int .i64 kd)).setCell ⟨w.heap.size, 1, none⟩ (.int .i64 ses)).setCell ⟨w.heap.size, 2, none⟩ (.string bu)).setCell ⟨w.heap.size, 3, none⟩ (.string ob)).setCell ⟨w.heap.size, 4, none⟩ (.string ve)).setCell ⟨w.heap.size, 5, none⟩ (.string pr)).setCell ⟨w.heap.size, 6, none⟩ (.string de)).setCell ⟨w.heap.size, 7, none⟩ (.string bo)).setCell ⟨w.heap.size, 8, none⟩ (.int .i64 ck)).setCell ⟨w.heap.size, 9, none⟩ (.int .i64 re)).setCell ⟨w.heap.size, 10, none⟩ (.int .i64 im)).heap[w.heap.size]? = some (.cells #[.int .i64 kd, .int .i64 ses, .string bu, .string ob, .string ve, .string pr, .string de, .string bo, .int .i64 ck, .int .i64 re, .int .i64 im, .int .i64 0, .int .i64 0, .slice none 0 0] 30 (0, 0)) := (blk_set hz9 10 (.int .i64 im)).trans rfl
     have hz11 : ((((((((((((w9.setCell ⟨w.heap.size, 0, none⟩ (.int .i64 kd)).setCell ⟨w.heap.size, 1, none⟩ (.int .i64 ses)).setCell ⟨w.heap.size, 2, none⟩ (.string bu)).setCell ⟨w.heap.size, 3, none⟩ (.string ob)).setCell ⟨w.heap.size, 4, none⟩ (.string ve)).setCell ⟨w.heap.size, 5, none⟩ (.string pr)).setCell ⟨w.heap.size, 6, none⟩ (.string de)).setCell ⟨w.heap.size, 7, none⟩ (.string bo)).setCell ⟨w.heap.size, 8, none⟩ (.int .i64 ck)).setCell ⟨w.heap.size, 9, none⟩ (.int .i64 re)).setCell ⟨w.heap.size, 10, none⟩ (.int .i64 im)).setCell ⟨w.heap.size, 11, none⟩ (.int .i64 id)).heap[w.heap.size]? = some (.cells #[.int .i64 kd, .int .i64 ses, .string bu, .string ob, .string ve, .string pr, .string de, .string bo, .int .i64 ck, .int .i64 re, .int .i64 im, .int .i64 id, .int .i64 0, .slice none 0 0] 30 (0, 0)) := (blk_set hz10 11 (.int .i64 id)).trans rfl
     have hz12 : (((((((((((((w9.setCell ⟨w.heap.size, 0, none⟩ (.int .i64 kd)).setCell ⟨w.heap.size, 1, none⟩ (.int .i64 ses)).setCell ⟨w.heap.size, 2, none⟩ (.string bu)).setCell ⟨w.heap.size, 3, none⟩ (.string ob)).setCell ⟨w.heap.size, 4, none⟩ (.string ve)).setCell ⟨w.heap.size, 5, none⟩ (.string pr)).setCell ⟨w.heap.size, 6, none⟩ (.string de)).setCell ⟨w.heap.size, 7, none⟩ (.string bo)).setCell ⟨w.heap.size, 8, none⟩ (.int .i64 ck)).setCell ⟨w.heap.size, 9, none⟩ (.int .i64 re)).setCell ⟨w.heap.size, 10, none⟩ (.int .i64 im)).setCell ⟨w.heap.size, 11, none⟩ (.int .i64 id)).setCell ⟨w.heap.size, 12, none⟩ (.int .i64 n)).heap[w.heap.size]? = some (.cells #[.int .i64 kd, .int .i64 ses, .string bu, .string ob, .string ve, .string pr, .string de, .string bo, .int .i64 ck, .int .i64 re, .int .i64 im, .int .i64 id, .int .i64 n, .slice none 0 0] 30 (0, 0)) := (blk_set hz11 12 (.int .i64 n)).trans rfl
     have hz13 : ((((((((((((((w9.setCell ⟨w.heap.size, 0, none⟩ (.int .i64 kd)).setCell ⟨w.heap.size, 1, none⟩ (.int .i64 ses)).setCell ⟨w.heap.size, 2, none⟩ (.string bu)).setCell ⟨w.heap.size, 3, none⟩ (.string ob)).setCell ⟨w.heap.size, 4, none⟩ (.string ve)).setCell ⟨w.heap.size, 5, none⟩ (.string pr)).setCell ⟨w.heap.size, 6, none⟩ (.string de)).setCell ⟨w.heap.size, 7, none⟩ (.string bo)).setCell ⟨w.heap.size, 8, none⟩ (.int .i64 ck)).setCell ⟨w.heap.size, 9, none⟩ (.int .i64 re)).setCell ⟨w.heap.size, 10, none⟩ (.int .i64 im)).setCell ⟨w.heap.size, 11, none⟩ (.int .i64 id)).setCell ⟨w.heap.size, 12, none⟩ (.int .i64 n)).setCell ⟨w.heap.size, 13, none⟩ (.slice A pa.length c)).heap[w.heap.size]? = some (.cells #[.int .i64 kd, .int .i64 ses, .string bu, .string ob, .string ve, .string pr, .string de, .string bo, .int .i64 ck, .int .i64 re, .int .i64 im, .int .i64 id, .int .i64 n, .slice A pa.length c] 30 (0, 0)) := (blk_set hz12 13 (.slice A pa.length c)).trans rfl
     have HZ9 := Aside0.mk hz13
     clear hz0 hz1 hz2 hz3 hz4 hz5 hz6 hz7 hz8 hz9 hz10 hz11 hz12 hz13
     have HB9 := Aside0.mk (HB9_.out.grown hgs HB9_.out.size (fun k_ hk_ => by injection hk_ with hk_; omega))
     have HO9 := Aside0.mk (Kd.R_lower (Kd.R_grown2 HO9_.out rfl hgs (fun k_ hk_ e => by injection hk_ with hk_; have h1 := own_base (Kd.own_of_R HO9_.out) k_ e.symm; have := HL1.out; omega)) (show w.heap.size ≤ g + 1 by have := HL1.out; omega))
     clear hgs
     obtain ⟨z0, z1, z2, z3, z4, z5, z6, z7, z8, z9, z10, z11, z12, z13⟩ := cells14 HZ9_.out
     have f0 := blk_frozen HZ9_.out 0
     have f1 := blk_frozen HZ9_.out 1
     have f2 := blk_frozen HZ9_.out 2
     have f3 := blk_frozen HZ9_.out 3
     have f4 := blk_frozen HZ9_.out 4
     have f5 := blk_frozen HZ9_.out 5
     have f6 := blk_frozen HZ9_.out 6
     have f7 := blk_frozen HZ9_.out 7
     have f8 := blk_frozen HZ9_.out 8
     have f9 := blk_frozen HZ9_.out 9
     have f10 := blk_frozen HZ9_.out 10
     have f11 := blk_frozen HZ9_.out 11
     have f12 := blk_frozen HZ9_.out 12
     have f13 := blk_frozen HZ9_.out 13
     go_wp2
     clear z0 f0 z1 f1 z2 f2 z3 f3 z4 f4 z5 f5 z6 f6 z7 f7 z8 f8 z9 f9 z10 f10 z11 f11 z12 f12 z13 f13
     generalize ((((((((((((((w9.setCell ⟨w.heap.size, 0, none⟩ (.int .i64 kd)).setCell ⟨w.heap.size, 1, none⟩ (.int .i64 ses)).setCell ⟨w.heap.size, 2, none⟩ (.string bu)).setCell ⟨w.heap.size, 3, none⟩ (.string ob)).setCell ⟨w.heap.size, 4, none⟩ (.string ve)).setCell ⟨w.heap.size, 5, none⟩ (.string pr)).setCell ⟨w.heap.size, 6, none⟩ (.string de)).setCell ⟨w.heap.size, 7, none⟩ (.string bo)).setCell ⟨w.heap.size, 8, none⟩ (.int .i64 ck)).setCell ⟨w.heap.size, 9, none⟩ (.int .i64 re)).setCell ⟨w.heap.size, 10, none⟩ (.int .i64 im)).setCell ⟨w.heap.size, 11, none⟩ (.int .i64 id)).setCell ⟨w.heap.size, 12, none⟩ (.int .i64 n)).setCell ⟨w.heap.size, 13, none⟩ (.slice A pa.length c)) = W9 at HZ9 HB9 HO9 ⊢
     obtain ⟨y0, y1, y2, y3, y4, y5, y6, y7, y8, y9, y10, y11, y12, y13⟩ := cells14 HZ9.out
     refine bodyPost_ret (v := .tuple #[.agg #[.int .i64 kd, .int .i64 ses, .string bu, .string ob, .string ve, .string pr, .string de, .string bo, .int .i64 ck, .int .i64 re, .int .i64 im, .int .i64 id, .int .i64 n, .slice A pa.length c], .int .i64 0]) (by simp [results, Try.results10, go_sem, y0, y1, y2, y3, y4, y5, y6, y7, y8, y9, y10, y11, y12, y13]) rfl ?_
     rw [HRES.out]
     exact ⟨_, rfl, HO9.out, HB9.out⟩
    ·have e1 : (ec != 0) = true := by simpa using h1
     have hres : wire_Read.out (⟨kd, ses, bu, ob, ve, pr, de, bo, ck, re, im, id, n, pv0, pa⟩, p, err) (Rd.endF l0 p err) ec = (wire_Read.q0 0, 4) := by unfold wire_Read.out; rw [if_pos (HEE.out.trans HE0.out), if_neg h1]
     have HRES := Aside0.mk hres
     clear h1 hres
     have hgs := grown_tr (grown_tr (grown_tr (grown_tr (grown_tr (grown_tr (grown_tr (grown_tr (grown_tr (grown_tr (grown_tr (grown_tr (grown_tr (grown_setCell w9 w.heap.size 0 (.int .i64 0)) (grown_setCell _ w.heap.size 1 (.int .i64 0))) (grown_setCell _ w.heap.size 2 (.string ⟨#[]⟩))) (grown_setCell _ w.heap.size 3 (.string ⟨#[]⟩))) (grown_setCell _ w.heap.size 4 (.string ⟨#[]⟩))) (grown_setCell _ w.heap.size 5 (.string ⟨#[]⟩))) (grown_setCell _ w.heap.size 6 (.string ⟨#[]⟩))) (grown_setCell _ w.heap.size 7 (.string ⟨#[]⟩))) (grown_setCell _ w.heap.size 8 (.int .i64 0))) (grown_setCell _ w.heap.size 9 (.int .i64 0))) (grown_setCell _ w.heap.size 10 (.int .i64 0))) (grown_setCell _ w.heap.size 11 (.int .i64 0))) (grown_setCell _ w.heap.size 12 (.int .i64 0))) (grown_setCell _ w.heap.size 13 (.slice none 0 0))
     have hz0 : (w9.setCell ⟨w.heap.size, 0, none⟩ (.int .i64 0)).heap[w.heap.size]? = some (.cells #[.int .i64 0, .int .i64 0, .string ⟨#[]⟩, .string ⟨#[]⟩, .string ⟨#[]⟩, .string ⟨#[]⟩, .string ⟨#[]⟩, .string ⟨#[]⟩, .int .i64 0, .int .i64 0, .int .i64 0, .int .i64 0, .int .i64 0, .slice none 0 0] 30 (0, 0)) := (blk_set HZ9_.out 0 (.int .i64 0)).trans rfl
     have hz1 : ((w9.setCell ⟨w.heap.size, 0, none⟩ (.int .i64 0)).setCell ⟨w.heap.size, 1, none⟩ (.int .i64 0)).heap[w.heap.size]? = some (.cells #[.int .i64 0, .int .i64 0, .string ⟨#[]⟩, .string ⟨#[]⟩, .string ⟨#[]⟩, .string ⟨#[]⟩, .string ⟨#[]⟩, .string ⟨#[]⟩, .int .i64 0, .int .i64 0, .int .i64 0, .int .i64 0, .int .i64 0, .slice none 0 0] 30 (0, 0)) := (blk_set hz0 1 (.int .i64 0)).trans rfl
     have hz2 : (((w9.setCell ⟨w.heap.size, 0, none⟩ (.int .i64 0)).setCell ⟨w.heap.size, 1, none⟩ (.int .i64 0)).setCell ⟨w.heap.size, 2, none⟩ (.string ⟨#[]⟩)).heap[w.heap.size]? = some (.cells #[.int .i64 0, .int .i64 0, .string ⟨#[]⟩, .string ⟨#[]⟩, .string ⟨#[]⟩, .string ⟨#[]⟩, .string ⟨#[]⟩, .string ⟨#[]⟩, .int .i64 0, .int .i64 0, .int .i64 0, .int .i64 0, .int .i64 0, .slice none 0 0] 30 (0, 0)) := (blk_set hz1 2 (.string ⟨#[]⟩)).trans rfl
     have hz3 : ((((w9.setCell ⟨w.heap.size, 0, none⟩ (.int .i64 0)).setCell ⟨w.heap.size, 1, none⟩ (.int .i64 0)).setCell ⟨w.heap.size, 2, none⟩ (.string ⟨#[]⟩)).setCell ⟨w.heap.size, 3, none⟩ (.string ⟨#[]⟩)).heap[w.heap.size]? = some (.cells #[.int .i64 0, .int .i64 0, .string ⟨#[]⟩, .string ⟨#[]⟩, .string ⟨#[]⟩, .string ⟨#[]⟩, .string ⟨#[]⟩, .string ⟨#[]⟩, .int .i64 0, .int .i64 0, .int .i64 0, .int .i64 0, .int .i64 0, .slice none 0 0] 30 (0, 0)) := (blk_set hz2 3 (.string ⟨#[]⟩)).trans rfl
     have hz4 : (((((w9.setCell ⟨w.heap.size, 0, none⟩ (.int .i64 0)).setCell ⟨w.heap.size, 1, none⟩ (.int .i64 0)).setCell ⟨w.heap.size, 2, none⟩ (.string ⟨#[]⟩)).setCell ⟨w.heap.size, 3, none⟩ (.string ⟨#[]⟩)).setCell ⟨w.heap.size, 4, none⟩ (.string ⟨#[]⟩)).heap[w.heap.size]? = some (.cells #[.int .i64 0, .int .i64 0, .string ⟨#[]⟩, .string ⟨#[]⟩, .string ⟨#[]⟩, .string ⟨#[]⟩, .string ⟨#[]⟩, .string ⟨#[]⟩, .int .i64 0, .int .i64 0, .int .i64 0, .int .i64 0, .int .i64 0, .slice none 0 0] 30 (0, 0)) := (blk_set hz3 4 (.string ⟨#[]⟩)).trans rfl
     have hz5 : ((((((w9.setCell ⟨w.heap.size, 0, none⟩ (.int .i64 0)).setCell ⟨w.heap.size, 1, none⟩ (.int .i64 0)).setCell ⟨w.heap.size, 2, none⟩ (.string ⟨#[]⟩)).setCell ⟨w.heap.size, 3, none⟩ (.string ⟨#[]⟩)).setCell ⟨w.heap.size, 4, none⟩ (.string ⟨#[]⟩)).setCell ⟨w.heap.size, 5, none⟩ (.string ⟨#[]⟩)).heap[w.heap.size]? = some (.cells #[.int .i64 0, .int .i64 0, .string ⟨#[]⟩, .string ⟨#[]⟩, .string ⟨#[]⟩, .string ⟨#[]⟩, .string ⟨#[]⟩, .string ⟨#[]⟩, .int .i64 0, .int .i64 0, .int .i64 0, .int .i64 0, .int .i64 0, .slice none 0 0] 30 (0, 0)) := (blk_set hz4 5 (.string ⟨#[]⟩)).trans rfl
     have hz6 : (((((((w9.setCell ⟨w.heap.size, 0, none⟩ (.int .i64 0)).setCell ⟨w.heap.size, 1, none⟩ (.int .i64 0)).setCell ⟨w.heap.size, 2, none⟩ (.string ⟨#[]⟩)).setCell ⟨w.heap.size, 3, none⟩ (.string ⟨#[]⟩)).setCell ⟨w.heap.size, 4, none⟩ (.string ⟨#[]⟩)).setCell ⟨w.heap.size, 5, none⟩ (.string ⟨#[]⟩)).setCell ⟨w.heap.size, 6, none⟩ (.string ⟨#[]⟩)).heap[w.heap.size]? = some (.cells #[.int .i64 0, .int .i64 0, .string ⟨#[]⟩, .string ⟨#[]⟩, .string ⟨#[]⟩, .string ⟨#[]⟩, .string ⟨#[]⟩, .string ⟨#[]⟩, .int .i64 0, .int .i64 0, .int .i64 0, .int .i64 0, .int .i64 0, .slice none 0 0] 30 (0, 0)) := (blk_set hz5 6 (.string ⟨#[]⟩)).trans rfl
     have hz7 : ((((((((w9.setCell ⟨w.heap.size, 0, none⟩ (.int .i64 0)).setCell ⟨w.heap.size, 1, none⟩ (.int .i64 0)).setCell ⟨w.heap.size, 2, none⟩ (.string ⟨#[]⟩)).setCell ⟨w.heap.size, 3, none⟩ (.string ⟨#[]⟩)).setCell ⟨w.heap.size, 4, none⟩ (.string ⟨#[]⟩)).setCell ⟨w.heap.size, 5, none⟩ (.string ⟨#[]⟩)).setCell ⟨w.heap.size, 6, none⟩ (.string ⟨#[]⟩)).setCell ⟨w.heap.size, 7, none⟩ (.string ⟨#[]⟩)).heap[w.heap.size]? = some (.cells #[.int .i64 0, .int .i64 0, .string ⟨#[]⟩, .string ⟨#[]⟩, .string ⟨#[]⟩, .string ⟨#[]⟩, .string ⟨#[]⟩, .string ⟨#[]⟩, .int .i64 0, .int .i64 0, .int .i64 0, .int .i64 0, .int .i64 0, .slice none 0 0] 30 (0, 0)) := (blk_set hz6 7 (.string ⟨#[]⟩)).trans rfl
     have hz8 : (((((((((w9.setCell ⟨w.heap.size, 0, none⟩ (.int .i64 0)).setCell ⟨w.heap.size, 1, none⟩ (.int .i64 0)).setCell ⟨w.heap.size, 2, none⟩ (.string ⟨#[]⟩)).setCell ⟨w.heap.size, 3, none⟩ (.string ⟨#[]⟩)).setCell ⟨w.heap.size, 4, none⟩ (.string ⟨#[]⟩)).setCell ⟨w.heap.size, 5, none⟩ (.string ⟨#[]⟩)).setCell ⟨w.heap.size, 6, none⟩ (.string ⟨#[]⟩)).setCell ⟨w.heap.size, 7, none⟩ (.string ⟨#[]⟩)).setCell ⟨w.heap.size, 8, none⟩ (.int .i64 0)).heap[w.heap.size]? = some (.cells #[.int .i64 0, .int .i64 0, .string ⟨#[]⟩, .string ⟨#[]⟩, .string ⟨#[]⟩, .string ⟨#[]⟩, .string ⟨#[]⟩, .string ⟨#[]⟩, .int .i64 0, .int .i64 0, .int .i64 0, .int .i64 0, .int .i64 0, .slice none 0 0] 30 (0, 0)) := (blk_set hz7 8 (.int .i64 0)).trans rfl
     have hz9 : ((((((((((w9.setCell ⟨w.heap.size, 0, none⟩ (.int .i64 0)).setCell ⟨w.heap.size, 1, none⟩ (.int .i64 0)).setCell ⟨w.heap.size, 2, none⟩ (.string ⟨#[]⟩)).setCell ⟨w.heap.size, 3, none⟩ (.string ⟨#[]⟩)).setCell ⟨w.heap.size, 4, none⟩ (.string ⟨#[]⟩)).setCell ⟨w.heap.size, 5, none⟩ (.string ⟨#[]⟩)).setCell ⟨w.heap.size, 6, none⟩ (.string ⟨#[]⟩)).setCell ⟨w.heap.size, 7, none⟩ (.string ⟨#[]⟩)).setCell ⟨w.heap.size, 8, none⟩ (.int .i64 0)).setCell ⟨w.heap.size, 9, none⟩ (.int .i64 0)).heap[w.heap.size]? = some (.cells #[.int .i64 0, .int .i64 0, .string ⟨#[]⟩, .string ⟨#[]⟩, .string ⟨#[]⟩, .string ⟨#[]⟩, .string ⟨#[]⟩, .string ⟨#[]⟩, .int .i64 0, .int .i64 0, .int .i64 0, .int .i64 0, .int .i64 0, .slice none 0 0] 30 (0, 0)) := (blk_set hz8 9 (.int .i64 0)).trans rfl
     have hz10 : (((((((((((w9.setCell ⟨w.heap.size, 0, none⟩ (.int .i64 0)).setCell ⟨w.heap.size, 1, none⟩ (.int .i64 0)).setCell ⟨w.heap.size, 2, none⟩ (.string ⟨#[]⟩)).setCell ⟨w.heap.size, 3, none⟩ (.string ⟨#[]⟩)).setCell ⟨w.heap.size, 4, none⟩ (.string ⟨#[]⟩)).setCell ⟨w.heap.size, 5, none⟩ (.string ⟨#[]⟩)).setCell ⟨w.heap.size, 6, none⟩ (.string ⟨#[]⟩)).setCell ⟨w.heap.size, 7, none⟩ (.string ⟨#[]⟩)).setCell ⟨w.heap.size, 8, none⟩ (.int .i64 0)).setCell ⟨w.heap.size, 9, none⟩ (.int .i64 0)).setCell ⟨w.heap.size, 10, none⟩ (.int .i64 0)).heap[w.heap.size]? = some (.cells #[.int .i64 0, .int .i64 0, .string ⟨#[]⟩, .string ⟨#[]⟩, .string ⟨#[]⟩, .string ⟨#[]⟩, .string ⟨#[]⟩, .string ⟨#[]⟩, .int .i64 0, .int .i64 0, .int .i64 0, .int .i64 0, .int .i64 0, .slice none 0 0] 30 (0, 0)) := (blk_set hz9 10 (.int .i64 0)).trans rfl
     have hz11 : ((((((((((((w9.setCell ⟨w.heap.size, 0, none⟩ (.int .i64 0)).setCell ⟨w.heap.size, 1, none⟩ (.int .i64 0)).setCell ⟨w.heap.size, 2, none⟩ (.string ⟨#[]⟩)).setCell ⟨w.heap.size, 3, none⟩ (.string ⟨#[]⟩)).setCell ⟨w.heap.size, 4, none⟩ (.string ⟨#[]⟩)).setCell ⟨w.heap.size, 5, none⟩ (.string ⟨#[]⟩)).setCell ⟨w.heap.size, 6, none⟩ (.string ⟨#[]⟩)).setCell ⟨w.heap.size, 7, none⟩ (.string ⟨#[]⟩)).setCell ⟨w.heap.size, 8, none⟩ (.int .i64 0)).setCell ⟨w.heap.size, 9, none⟩ (.int .i64 0)).setCell ⟨w.heap.size, 10, none⟩ (.int .i64 0)).setCell ⟨w.heap.size, 11, none⟩ (.int .i64 0)).heap[w.heap.size]? = some (.cells #[.int .i64 0, .int .i64 0, .string ⟨#[]⟩, .string ⟨#[]⟩, .string ⟨#[]⟩, .string ⟨#[]⟩, .string ⟨#[]⟩, .string ⟨#[]⟩, .int .i64 0, .int .i64 0, .int .i64 0, .int .i64 0, .int .i64 0, .slice none 0 0] 30 (0, 0)) := (blk_set hz10 11 (.int .i64 0)).trans rfl
     have hz12 : (((((((((((((w9.setCell ⟨w.heap.size, 0, none⟩ (.int .i64 0)).setCell ⟨w.heap.size, 1, none⟩ (.int .i64 0)).setCell ⟨w.heap.size, 2, none⟩ (.string ⟨#[]⟩)).setCell ⟨w.heap.size, 3, none⟩ (.string ⟨#[]⟩)).setCell ⟨w.heap.size, 4, none⟩ (.string ⟨#[]⟩)).setCell ⟨w.heap.size, 5, none⟩ (.string ⟨#[]⟩)).setCell ⟨w.heap.size, 6, none⟩ (.string ⟨#[]⟩)).setCell ⟨w.heap.size, 7, none⟩ (.string ⟨#[]⟩)).setCell ⟨w.heap.size, 8, none⟩ (.int .i64 0)).setCell ⟨w.heap.size, 9, none⟩ (.int .i64 0)).setCell ⟨w.heap.size, 10, none⟩ (.int .i64 0)).setCell ⟨w.heap.size, 11, none⟩ (.int .i64 0)).setCell ⟨w.heap.size, 12, none⟩ (.int .i64 0)).heap[w.heap.size]? = some (.cells #[.int .i64 0, .int .i64 0, .string ⟨#[]⟩, .string ⟨#[]⟩, .string ⟨#[]⟩, .string ⟨#[]⟩, .string ⟨#[]⟩, .string ⟨#[]⟩, .int .i64 0, .int .i64 0, .int .i64 0, .int .i64 0, .int .i64 0, .slice none 0 0] 30 (0, 0)) := (blk_set hz11 12 (.int .i64 0)).trans rfl
     have hz13 : ((((((((((((((w9.setCell ⟨w.heap.size, 0, none⟩ (.int .i64 0)).setCell ⟨w.heap.size, 1, none⟩ (.int .i64 0)).setCell ⟨w.heap.size, 2, none⟩ (.string ⟨#[]⟩)).setCell ⟨w.heap.size, 3, none⟩ (.string ⟨#[]⟩)).setCell ⟨w.heap.size, 4, none⟩ (.string ⟨#[]⟩)).setCell ⟨w.heap.size, 5, none⟩ (.string ⟨#[]⟩)).setCell ⟨w.heap.size, 6, none⟩ (.string ⟨#[]⟩)).setCell ⟨w.heap.size, 7, none⟩ (.string ⟨#[]⟩)).setCell ⟨w.heap.size, 8, none⟩ (.int .i64 0)).setCell ⟨w.heap.size, 9, none⟩ (.int .i64 0)).setCell ⟨w.heap.size, 10, none⟩ (.int .i64 0)).setCell ⟨w.heap.size, 11, none⟩ (.int .i64 0)).setCell ⟨w.heap.size, 12, none⟩ (.int .i64 0)).setCell ⟨w.heap.size, 13, none⟩ (.slice none 0 0)).heap[w.heap.size]? = some (.cells #[.int .i64 0, .int .i64 0, .string ⟨#[]⟩, .string ⟨#[]⟩, .string ⟨#[]⟩, .string ⟨#[]⟩, .string ⟨#[]⟩, .string ⟨#[]⟩, .int .i64 0, .int .i64 0, .int .i64 0, .int .i64 0, .int .i64 0, .slice none 0 0] 30 (0, 0)) := (blk_set hz12 13 (.slice none 0 0)).trans rfl
     have HZ9 := Aside0.mk hz13
     clear hz0 hz1 hz2 hz3 hz4 hz5 hz6 hz7 hz8 hz9 hz10 hz11 hz12 hz13
     have HB9 := Aside0.mk (HB9_.out.grown hgs HB9_.out.size (fun k_ hk_ => by injection hk_ with hk_; omega))
     clear hgs
     obtain ⟨z0, z1, z2, z3, z4, z5, z6, z7, z8, z9, z10, z11, z12, z13⟩ := cells14 HZ9_.out
     have f0 := blk_frozen HZ9_.out 0
     have f1 := blk_frozen HZ9_.out 1
     have f2 := blk_frozen HZ9_.out 2
     have f3 := blk_frozen HZ9_.out 3
     have f4 := blk_frozen HZ9_.out 4
     have f5 := blk_frozen HZ9_.out 5
     have f6 := blk_frozen HZ9_.out 6
     have f7 := blk_frozen HZ9_.out 7
     have f8 := blk_frozen HZ9_.out 8
     have f9 := blk_frozen HZ9_.out 9
     have f10 := blk_frozen HZ9_.out 10
     have f11 := blk_frozen HZ9_.out 11
     have f12 := blk_frozen HZ9_.out 12
     have f13 := blk_frozen HZ9_.out 13
     go_wp2
     clear z0 f0 z1 f1 z2 f2 z3 f3 z4 f4 z5 f5 z6 f6 z7 f7 z8 f8 z9 f9 z10 f10 z11 f11 z12 f12 z13 f13
     generalize ((((((((((((((w9.setCell ⟨w.heap.size, 0, none⟩ (.int .i64 0)).setCell ⟨w.heap.size, 1, none⟩ (.int .i64 0)).setCell ⟨w.heap.size, 2, none⟩ (.string ⟨#[]⟩)).setCell ⟨w.heap.size, 3, none⟩ (.string ⟨#[]⟩)).setCell ⟨w.heap.size, 4, none⟩ (.string ⟨#[]⟩)).setCell ⟨w.heap.size, 5, none⟩ (.string ⟨#[]⟩)).setCell ⟨w.heap.size, 6, none⟩ (.string ⟨#[]⟩)).setCell ⟨w.heap.size, 7, none⟩ (.string ⟨#[]⟩)).setCell ⟨w.heap.size, 8, none⟩ (.int .i64 0)).setCell ⟨w.heap.size, 9, none⟩ (.int .i64 0)).setCell ⟨w.heap.size, 10, none⟩ (.int .i64 0)).setCell ⟨w.heap.size, 11, none⟩ (.int .i64 0)).setCell ⟨w.heap.size, 12, none⟩ (.int .i64 0)).setCell ⟨w.heap.size, 13, none⟩ (.slice none 0 0)) = W9 at HZ9 HB9 ⊢
     obtain ⟨y0, y1, y2, y3, y4, y5, y6, y7, y8, y9, y10, y11, y12, y13⟩ := cells14 HZ9.out
     refine bodyPost_ret (v := .tuple #[.agg #[.int .i64 0, .int .i64 0, .string ⟨#[]⟩, .string ⟨#[]⟩, .string ⟨#[]⟩, .string ⟨#[]⟩, .string ⟨#[]⟩, .string ⟨#[]⟩, .int .i64 0, .int .i64 0, .int .i64 0, .int .i64 0, .int .i64 0, .slice none 0 0], .int .i64 4]) (by simp [results, Try.results10, go_sem, y0, y1, y2, y3, y4, y5, y6, y7, y8, y9, y10, y11, y12, y13]) rfl ?_
     rw [HRES.out]
     exact ⟨_, rfl, Kd.R_nil _ _ _ _ _, HB9.out⟩
   ·have e0 : (E != 0) = true := by simpa using h0
    have hres : wire_Read.out (q, p, err) (Rd.endF l0 p err) ec = (wire_Read.q0 0, 4) := by unfold wire_Read.out; rw [if_neg (fun h => h0 (HEE.out.symm.trans h))]
    have HRES := Aside0.mk hres
    clear h0 hres HEC
    have hgs := grown_tr (grown_tr (grown_tr (grown_tr (grown_tr (grown_tr (grown_tr (grown_tr (grown_tr (grown_tr (grown_tr (grown_tr (grown_tr (grown_setCell w8 w.heap.size 0 (.int .i64 0)) (grown_setCell _ w.heap.size 1 (.int .i64 0))) (grown_setCell _ w.heap.size 2 (.string ⟨#[]⟩))) (grown_setCell _ w.heap.size 3 (.string ⟨#[]⟩))) (grown_setCell _ w.heap.size 4 (.string ⟨#[]⟩))) (grown_setCell _ w.heap.size 5 (.string ⟨#[]⟩))) (grown_setCell _ w.heap.size 6 (.string ⟨#[]⟩))) (grown_setCell _ w.heap.size 7 (.string ⟨#[]⟩))) (grown_setCell _ w.heap.size 8 (.int .i64 0))) (grown_setCell _ w.heap.size 9 (.int .i64 0))) (grown_setCell _ w.heap.size 10 (.int .i64 0))) (grown_setCell _ w.heap.size 11 (.int .i64 0))) (grown_setCell _ w.heap.size 12 (.int .i64 0))) (grown_setCell _ w.heap.size 13 (.slice none 0 0))
    have hz0 : (w8.setCell ⟨w.heap.size, 0, none⟩ (.int .i64 0)).heap[w.heap.size]? = some (.cells #[.int .i64 0, .int .i64 0, .string ⟨#[]⟩, .string ⟨#[]⟩, .string ⟨#[]⟩, .string ⟨#[]⟩, .string ⟨#[]⟩, .string ⟨#[]⟩, .int .i64 0, .int .i64 0, .int .i64 0, .int .i64 0, .int .i64 0, .slice none 0 0] 30 (0, 0)) := (blk_set HZ8.out 0 (.int .i64 0)).trans rfl
    have hz1 : ((w8.setCell ⟨w.heap.size, 0, none⟩ (.int .i64 0)).setCell ⟨w.heap.size, 1, none⟩ (.int .i64 0)).heap[w.heap.size]? = some (.cells #[.int .i64 0, .int .i64 0, .string ⟨#[]⟩, .string ⟨#[]⟩, .string ⟨#[]⟩, .string ⟨#[]⟩, .string ⟨#[]⟩, .string ⟨#[]⟩, .int .i64 0, .int .i64 0, .int .i64 0, .int .i64 0, .int .i64 0, .slice none 0 0] 30 (0, 0)) := (blk_set hz0 1 (.int .i64 0)).trans rfl
    have hz2 : (((w8.setCell ⟨w.heap.size, 0, none⟩ (.int .i64 0)).setCell ⟨w.heap.size, 1, none⟩ (.int .i64 0)).setCell ⟨w.heap.size, 2, none⟩ (.string ⟨#[]⟩)).heap[w.heap.size]? = some (.cells #[.int .i64 0, .int .i64 0, .string ⟨#[]⟩, .string ⟨#[]⟩, .string ⟨#[]⟩, .string ⟨#[]⟩, .string ⟨#[]⟩, .string ⟨#[]⟩, .int .i64 0, .int .i64 0, .int .i64 0, .int .i64 0, .int .i64 0, .slice none 0 0] 30 (0, 0)) := (blk_set hz1 2 (.string ⟨#[]⟩)).trans rfl
    have hz3 : ((((w8.setCell ⟨w.heap.size, 0, none⟩ (.int .i64 0)).setCell ⟨w.heap.size, 1, none⟩ (.int .i64 0)).setCell ⟨w.heap.size, 2, none⟩ (.string ⟨#[]⟩)).setCell ⟨w.heap.size, 3, none⟩ (.string ⟨#[]⟩)).heap[w.heap.size]? = some (.cells #[.int .i64 0, .int .i64 0, .string ⟨#[]⟩, .string ⟨#[]⟩, .string ⟨#[]⟩, .string ⟨#[]⟩, .string ⟨#[]⟩, .string ⟨#[]⟩, .int .i64 0, .int .i64 0, .int .i64 0, .int .i64 0, .int .i64 0, .slice none 0 0] 30 (0, 0)) := (blk_set hz2 3 (.string ⟨#[]⟩)).trans rfl
    have hz4 : (((((w8.setCell ⟨w.heap.size, 0, none⟩ (.int .i64 0)).setCell ⟨w.heap.size, 1, none⟩ (.int .i64 0)).setCell ⟨w.heap.size, 2, none⟩ (.string ⟨#[]⟩)).setCell ⟨w.heap.size, 3, none⟩ (.string ⟨#[]⟩)).setCell ⟨w.heap.size, 4, none⟩ (.string ⟨#[]⟩)).heap[w.heap.size]? = some (.cells #[.int .i64 0, .int .i64 0, .string ⟨#[]⟩, .string ⟨#[]⟩, .string ⟨#[]⟩, .string ⟨#[]⟩, .string ⟨#[]⟩, .string ⟨#[]⟩, .int .i64 0, .int .i64 0, .int .i64 0, .int .i64 0, .int .i64 0, .slice none 0 0] 30 (0, 0)) := (blk_set hz3 4 (.string ⟨#[]⟩)).trans rfl
    have hz5 : ((((((w8.setCell ⟨w.heap.size, 0, none⟩ (.int .i64 0)).setCell ⟨w.heap.size, 1, none⟩ (.int .i64 0)).setCell ⟨w.heap.size, 2, none⟩ (.string ⟨#[]⟩)).setCell ⟨w.heap.size, 3, none⟩ (.string ⟨#[]⟩)).setCell ⟨w.heap.size, 4, none⟩ (.string ⟨#[]⟩)).setCell ⟨w.heap.size, 5, none⟩ (.string ⟨#[]⟩)).heap[w.heap.size]? = some (.cells #[.int .i64 0, .int .i64 0, .string ⟨#[]⟩, .string ⟨#[]⟩, .string ⟨#[]⟩, .string ⟨#[]⟩, .string ⟨#[]⟩, .string ⟨#[]⟩, .int .i64 0, .int .i64 0, .int .i64 0, .int .i64 0, .int .i64 0, .slice none 0 0] 30 (0, 0)) := (blk_set hz4 5 (.string ⟨#[]⟩)).trans rfl
    have hz6 : (((((((w8.setCell ⟨w.heap.size, 0, none⟩ (.int .i64 0)).setCell ⟨w.heap.size, 1, none⟩ (.int .i64 0)).setCell ⟨w.heap.size, 2, none⟩ (.string ⟨#[]⟩)).setCell ⟨w.heap.size, 3, none⟩ (.string ⟨#[]⟩)).setCell ⟨w.heap.size, 4, none⟩ (.string ⟨#[]⟩)).setCell ⟨w.heap.size, 5, none⟩ (.string ⟨#[]⟩)).setCell ⟨w.heap.size, 6, none⟩ (.string ⟨#[]⟩)).heap[w.heap.size]? = some (.cells #[.int .i64 0, .int .i64 0, .string ⟨#[]⟩, .string ⟨#[]⟩, .string ⟨#[]⟩, .string ⟨#[]⟩, .string ⟨#[]⟩, .string ⟨#[]⟩, .int .i64 0, .int .i64 0, .int .i64 0, .int .i64 0, .int .i64 0, .slice none 0 0] 30 (0, 0)) := (blk_set hz5 6 (.string ⟨#[]⟩)).trans rfl
    have hz7 : ((((((((w8.setCell ⟨w.heap.size, 0, none⟩ (.int .i64 0)).setCell ⟨w.heap.size, 1, none⟩ (.int .i64 0)).setCell ⟨w.heap.size, 2, none⟩ (.string ⟨#[]⟩)).setCell ⟨w.heap.size, 3, none⟩ (.string ⟨#[]⟩)).setCell ⟨w.heap.size, 4, none⟩ (.string ⟨#[]⟩)).setCell ⟨w.heap.size, 5, none⟩ (.string ⟨#[]⟩)).setCell ⟨w.heap.size, 6, none⟩ (.string ⟨#[]⟩)).setCell ⟨w.heap.size, 7, none⟩ (.string ⟨#[]⟩)).heap[w.heap.size]? = some (.cells #[.int .i64 0, .int .i64 0, .string ⟨#[]⟩, .string ⟨#[]⟩, .string ⟨#[]⟩, .string ⟨#[]⟩, .string ⟨#[]⟩, .string ⟨#[]⟩, .int .i64 0, .int .i64 0, .int .i64 0, .int .i64 0, .int .i64 0, .slice none 0 0] 30 (0, 0)) := (blk_set hz6 7 (.string ⟨#[]⟩)).trans rfl
    have hz8 : (((((((((w8.setCell ⟨w.heap.size, 0, none⟩ (.int .i64 0)).setCell ⟨w.heap.size, 1, none⟩ (.int .i64 0)).setCell ⟨w.heap.size, 2, none⟩ (.string ⟨#[]⟩)).setCell ⟨w.heap.size, 3, none⟩ (.string ⟨#[]⟩)).setCell ⟨w.heap.size, 4, none⟩ (.string ⟨#[]⟩)).setCell ⟨w.heap.size, 5, none⟩ (.string ⟨#[]⟩)).setCell ⟨w.heap.size, 6, none⟩ (.string ⟨#[]⟩)).setCell ⟨w.heap.size, 7, none⟩ (.string ⟨#[]⟩)).setCell ⟨w.heap.size, 8, none⟩ (.int .i64 0)).heap[w.heap.size]? = some (.cells #[.int .i64 0, .int .i64 0, .string ⟨#[]⟩, .string ⟨#[]⟩, .string ⟨#[]⟩, .string ⟨#[]⟩, .string ⟨#[]⟩, .string ⟨#[]⟩, .int .i64 0, .int .i64 0, .int .i64 0, .int .i64 0, .int .i64 0, .slice none 0 0] 30 (0, 0)) := (blk_set hz7 8 (.int .i64 0)).trans rfl
    have hz9 : ((((((((((w8.setCell ⟨w.heap.size, 0, none⟩ (.int .i64 0)).setCell ⟨w.heap.size, 1, none⟩ (.int .i64 0)).setCell ⟨w.heap.size, 2, none⟩ (.string ⟨#[]⟩)).setCell ⟨w.heap.size, 3, none⟩ (.string ⟨#[]⟩)).setCell ⟨w.heap.size, 4, none⟩ (.string ⟨#[]⟩)).setCell ⟨w.heap.size, 5, none⟩ (.string ⟨#[]⟩)).setCell ⟨w.heap.size, 6, none⟩ (.string ⟨#[]⟩)).setCell ⟨w.heap.size, 7, none⟩ (.string ⟨#[]⟩)).setCell ⟨w.heap.size, 8, none⟩ (.int .i64 0)).setCell ⟨w.heap.size, 9, none⟩ (.int .i64 0)).heap[w.heap.size]? = some (.cells #[.int .i64 0, .int .i64 0, .string ⟨#[]⟩, .string ⟨#[]⟩, .string ⟨#[]⟩, .string ⟨#[]⟩, .string ⟨#[]⟩, .string ⟨#[]⟩, .int .i64 0, .int .i64 0, .int .i64 0, .int .i64 0, .int .i64 0, .slice none 0 0] 30 (0, 0)) := (blk_set hz8 9 (.int .i64 0)).trans rfl
    have hz10 : (((((((((((w8.setCell ⟨w.heap.size, 0, none⟩ (.int .i64 0)).setCell ⟨w.heap.size, 1, none⟩ (.int .i64 0)).setCell ⟨w.heap.size, 2, none⟩ (.string ⟨#[]⟩)).setCell ⟨w.heap.size, 3, none⟩ (.string ⟨#[]⟩)).setCell ⟨w.heap.size, 4, none⟩ (.string ⟨#[]⟩)).setCell ⟨w.heap.size, 5, none⟩ (.string ⟨#[]⟩)).setCell ⟨w.heap.size, 6, none⟩ (.string ⟨#[]⟩)).setCell ⟨w.heap.size, 7, none⟩ (.string ⟨#[]⟩)).setCell ⟨w.heap.size, 8, none⟩ (.int .i64 0)).setCell ⟨w.heap.size, 9, none⟩ (.int .i64 0)).setCell ⟨w.heap.size, 10, none⟩ (.int .i64 0)).heap[w.heap.size]? = some (.cells #[.int .i64 0, .int .i64 0, .string ⟨#[]⟩, .string ⟨#[]⟩, .string ⟨#[]⟩, .string ⟨#[]⟩, .string ⟨#[]⟩, .string ⟨#[]⟩, .int .i64 0, .int .i64 0, .int .i64 0, .int .i64 0, .int .i64 0, .slice none 0 0] 30 (0, 0)) := (blk_set hz9 10 (.int .i64 0)).trans rfl
    have hz11 : ((((((((((((w8.setCell ⟨w.heap.size, 0, none⟩ (.int .i64 0)).setCell ⟨w.heap.size, 1, none⟩ (.int .i64 0)).setCell ⟨w.heap.size, 2, none⟩ (.string ⟨#[]⟩)).setCell ⟨w.heap.size, 3, none⟩ (.string ⟨#[]⟩)).setCell ⟨w.heap.size, 4, none⟩ (.string ⟨#[]⟩)).setCell ⟨w.heap.size, 5, none⟩ (.string ⟨#[]⟩)).setCell ⟨w.heap.size, 6, none⟩ (.string ⟨#[]⟩)).setCell ⟨w.heap.size, 7, none⟩ (.string ⟨#[]⟩)).setCell ⟨w.heap.size, 8, none⟩ (.int .i64 0)).setCell ⟨w.heap.size, 9, none⟩ (.int .i64 0)).setCell ⟨w.heap.size, 10, none⟩ (.int .i64 0)).setCell ⟨w.heap.size, 11, none⟩ (.int .i64 0)).heap[w.heap.size]? = some (.cells #[.int .i64 0, .int .i64 0, .string ⟨#[]⟩, .string ⟨#[]⟩, .string ⟨#[]⟩, .string ⟨#[]⟩, .string ⟨#[]⟩, .string ⟨#[]⟩, .int .i64 0, .int .i64 0, .int .i64 0, .int .i64 0, .int .i64 0, .slice none 0 0] 30 (0, 0)) := (blk_set hz10 11 (.int .i64 0)).trans rfl
    have hz12 : (((((((((((((w8.setCell ⟨w.heap.size, 0, none⟩ (.int .i64 0)).setCell ⟨w.heap.size, 1, none⟩ (.int .i64 0)).setCell ⟨w.heap.size, 2, none⟩ (.string ⟨#[]⟩)).setCell ⟨w.heap.size, 3, none⟩ (.string ⟨#[]⟩)).setCell ⟨w.heap.size, 4, none⟩ (.string ⟨#[]⟩)).setCell ⟨w.heap.size, 5, none⟩ (.string ⟨#[]⟩)).setCell ⟨w.heap.size, 6, none⟩ (.string ⟨#[]⟩)).setCell ⟨w.heap.size, 7, none⟩ (.string ⟨#[]⟩)).setCell ⟨w.heap.size, 8, none⟩ (.int .i64 0)).setCell ⟨w.heap.size, 9, none⟩ (.int .i64 0)).setCell ⟨w.heap.size, 10, none⟩ (.int .i64 0)).setCell ⟨w.heap.size, 11, none⟩ (.int .i64 0)).setCell ⟨w.heap.size, 12, none⟩ (.int .i64 0)).heap[w.heap.size]? = some (.cells #[.int .i64 0, .int .i64 0, .string ⟨#[]⟩, .string ⟨#[]⟩, .string ⟨#[]⟩, .string ⟨#[]⟩, .string ⟨#[]⟩, .string ⟨#[]⟩, .int .i64 0, .int .i64 0, .int .i64 0, .int .i64 0, .int .i64 0, .slice none 0 0] 30 (0, 0)) := (blk_set hz11 12 (.int .i64 0)).trans rfl
    have hz13 : ((((((((((((((w8.setCell ⟨w.heap.size, 0, none⟩ (.int .i64 0)).setCell ⟨w.heap.size, 1, none⟩ (.int .i64 0)).setCell ⟨w.heap.size, 2, none⟩ (.string ⟨#[]⟩)).setCell ⟨w.heap.size, 3, none⟩ (.string ⟨#[]⟩)).setCell ⟨w.heap.size, 4, none⟩ (.string ⟨#[]⟩)).setCell ⟨w.heap.size, 5, none⟩ (.string ⟨#[]⟩)).setCell ⟨w.heap.size, 6, none⟩ (.string ⟨#[]⟩)).setCell ⟨w.heap.size, 7, none⟩ (.string ⟨#[]⟩)).setCell ⟨w.heap.size, 8, none⟩ (.int .i64 0)).setCell ⟨w.heap.size, 9, none⟩ (.int .i64 0)).setCell ⟨w.heap.size, 10, none⟩ (.int .i64 0)).setCell ⟨w.heap.size, 11, none⟩ (.int .i64 0)).setCell ⟨w.heap.size, 12, none⟩ (.int .i64 0)).setCell ⟨w.heap.size, 13, none⟩ (.slice none 0 0)).heap[w.heap.size]? = some (.cells #[.int .i64 0, .int .i64 0, .string ⟨#[]⟩, .string ⟨#[]⟩, .string ⟨#[]⟩, .string ⟨#[]⟩, .string ⟨#[]⟩, .string ⟨#[]⟩, .int .i64 0, .int .i64 0, .int .i64 0, .int .i64 0, .int .i64 0, .slice none 0 0] 30 (0, 0)) := (blk_set hz12 13 (.slice none 0 0)).trans rfl
    have HZ9 := Aside0.mk hz13
    clear hz0 hz1 hz2 hz3 hz4 hz5 hz6 hz7 hz8 hz9 hz10 hz11 hz12 hz13
    have HB9 := Aside0.mk (HB8.out.grown hgs HB8.out.size (fun k_ hk_ => by injection hk_ with hk_; omega))
    clear hgs
    obtain ⟨z0, z1, z2, z3, z4, z5, z6, z7, z8, z9, z10, z11, z12, z13⟩ := cells14 HZ8.out
    have f0 := blk_frozen HZ8.out 0
    have f1 := blk_frozen HZ8.out 1
    have f2 := blk_frozen HZ8.out 2
    have f3 := blk_frozen HZ8.out 3
    have f4 := blk_frozen HZ8.out 4
    have f5 := blk_frozen HZ8.out 5
    have f6 := blk_frozen HZ8.out 6
    have f7 := blk_frozen HZ8.out 7
    have f8 := blk_frozen HZ8.out 8
    have f9 := blk_frozen HZ8.out 9
    have f10 := blk_frozen HZ8.out 10
    have f11 := blk_frozen HZ8.out 11
    have f12 := blk_frozen HZ8.out 12
    have f13 := blk_frozen HZ8.out 13
    go_wp2
    clear z0 f0 z1 f1 z2 f2 z3 f3 z4 f4 z5 f5 z6 f6 z7 f7 z8 f8 z9 f9 z10 f10 z11 f11 z12 f12 z13 f13
    generalize ((((((((((((((w8.setCell ⟨w.heap.size, 0, none⟩ (.int .i64 0)).setCell ⟨w.heap.size, 1, none⟩ (.int .i64 0)).setCell ⟨w.heap.size, 2, none⟩ (.string ⟨#[]⟩)).setCell ⟨w.heap.size, 3, none⟩ (.string ⟨#[]⟩)).setCell ⟨w.heap.size, 4, none⟩ (.string ⟨#[]⟩)).setCell ⟨w.heap.size, 5, none⟩ (.string ⟨#[]⟩)).setCell ⟨w.heap.size, 6, none⟩ (.string ⟨#[]⟩)).setCell ⟨w.heap.size, 7, none⟩ (.string ⟨#[]⟩)).setCell ⟨w.heap.size, 8, none⟩ (.int .i64 0)).setCell ⟨w.heap.size, 9, none⟩ (.int .i64 0)).setCell ⟨w.heap.size, 10, none⟩ (.int .i64 0)).setCell ⟨w.heap.size, 11, none⟩ (.int .i64 0)).setCell ⟨w.heap.size, 12, none⟩ (.int .i64 0)).setCell ⟨w.heap.size, 13, none⟩ (.slice none 0 0)) = W9 at HZ9 HB9 ⊢
    obtain ⟨y0, y1, y2, y3, y4, y5, y6, y7, y8, y9, y10, y11, y12, y13⟩ := cells14 HZ9.out
    refine bodyPost_ret (v := .tuple #[.agg #[.int .i64 0, .int .i64 0, .string ⟨#[]⟩, .string ⟨#[]⟩, .string ⟨#[]⟩, .string ⟨#[]⟩, .string ⟨#[]⟩, .string ⟨#[]⟩, .int .i64 0, .int .i64 0, .int .i64 0, .int .i64 0, .int .i64 0, .slice none 0 0], .int .i64 4]) (by simp [results, Try.results10, go_sem, y0, y1, y2, y3, y4, y5, y6, y7, y8, y9, y10, y11, y12, y13]) rfl ?_
    rw [HRES.out]
    exact ⟨_, rfl, Kd.R_nil _ _ _ _ _, HB9.out⟩
def wire_Read.tup (r : Rq × Int) : Int × Int × ByteArray × ByteArray × ByteArray × ByteArray × ByteArray × ByteArray × Int × Int × Int × Int × Int × List Int × Int := (r.1.kd, r.1.ses, r.1.bu, r.1.ob, r.1.ve, r.1.pr, r.1.de, r.1.bo, r.1.ck, r.1.re, r.1.im, r.1.id, r.1.n, r.1.pa, r.2)
def wire_Read.fin (k : Nat) (l0 : List Int) (fin : Rq × Int × Int) : Option (Int × Int × ByteArray × ByteArray × ByteArray × ByteArray × ByteArray × ByteArray × Int × Int × Int × Int × Int × List Int × Int) :=
 if Rd.endF l0 fin.2.1 fin.2.2 = 0 then (wire_Check.f k fin.1.kd fin.1.ses fin.1.bu fin.1.ob fin.1.ve fin.1.pr fin.1.de fin.1.bo fin.1.ck fin.1.re fin.1.im fin.1.id fin.1.n fin.1.pa).bind fun e => some (wire_Read.tup (if e = 0 then (fin.1, 0) else (wire_Read.q0 0, 4))) else some (wire_Read.tup (wire_Read.q0 0, 4))
def wire_Read.f (k : Nat) (l0 : List Int) : Option (Int × Int × ByteArray × ByteArray × ByteArray × ByteArray × ByteArray × ByteArray × Int × Int × Int × Int × Int × List Int × Int) :=
 if l0.length ≤ 140737488351232 ∧ (l0.all fun x => decide (0 ≤ x ∧ x ≤ 255)) = true then
  (wire_Fields.f k (Rd.takeF l0 0 0 1).1).bind fun s => if okLetters s = true ∧ s.size ≤ 100 then
   wire_Read.fin k l0 (gets l0 s.data.toList (wire_Read.q0 (Rd.takeF l0 0 0 1).1) (Rd.takeF l0 0 0 1).2.1 (Rd.takeF l0 0 0 1).2.2)
  else none
 else none
theorem wire_Read.calls (k : Nat) (A0 : Option Addr) (c0 : Nat) (l0 : List Int) (r0 : Int) (r1 : Int) (r2 : ByteArray) (r3 : ByteArray) (r4 : ByteArray) (r5 : ByteArray) (r6 : ByteArray) (r7 : ByteArray) (r8 : Int) (r9 : Int) (r10 : Int) (r11 : Int) (r12 : Int) (r13 : List Int) (r14 : Int) (w : World) (hr0 : Kd.C (Kd.int .u8) w A0 l0.length l0) (hc0 : l0.length ≤ c0) (h : wire_Read.f k l0 = some (r0, r1, r2, r3, r4, r5, r6, r7, r8, r9, r10, r11, r12, r13, r14)) :
  Calls Try.prog 10 #[.slice A0 l0.length c0] w fun e w' => ∃ v0_ : Value, e = .returned (.tuple #[.agg #[.int .i64 r0, .int .i64 r1, .string r2, .string r3, .string r4, .string r5, .string r6, .string r7, .int .i64 r8, .int .i64 r9, .int .i64 r10, .int .i64 r11, .int .i64 r12, v0_], .int .i64 r14]) ∧ Kd.R (Kd.int .i64) 3 w' w.heap.size (fun _ => True) v0_ r13 ∧ Below w.heap.size w w' := by
 unfold wire_Read.f at h
 by_cases hg : l0.length ≤ 140737488351232 ∧ (l0.all fun x => decide (0 ≤ x ∧ x ≤ 255)) = true
 ·rw [if_pos hg] at h
  obtain ⟨s, hs, h⟩ := Option.bind_eq_some_iff.mp h
  by_cases hk : okLetters s = true ∧ s.size ≤ 100
  ·rw [if_pos hk] at h
   have hby : ∀ x ∈ l0, 0 ≤ x ∧ x ≤ 255 := fun x hx => by
    have h1 := List.all_eq_true.mp hg.2 x hx
    exact of_decide_eq_true h1
   obtain ⟨fin, hfin⟩ : ∃ fin, gets l0 s.data.toList (wire_Read.q0 (Rd.takeF l0 0 0 1).1) (Rd.takeF l0 0 0 1).2.1 (Rd.takeF l0 0 0 1).2.2 = fin := ⟨_, rfl⟩
   rw [hfin] at h
   obtain ⟨ec, hec, hout⟩ : ∃ ec : Int, (Rd.endF l0 fin.2.1 fin.2.2 = 0 → wire_Check.f k fin.1.kd fin.1.ses fin.1.bu fin.1.ob fin.1.ve fin.1.pr fin.1.de fin.1.bo fin.1.ck fin.1.re fin.1.im fin.1.id fin.1.n fin.1.pa = some ec) ∧ wire_Read.tup (wire_Read.out fin (Rd.endF l0 fin.2.1 fin.2.2) ec) = (r0, r1, r2, r3, r4, r5, r6, r7, r8, r9, r10, r11, r12, r13, r14) := by
    unfold wire_Read.fin at h
    unfold wire_Read.out
    by_cases h0 : Rd.endF l0 fin.2.1 fin.2.2 = 0
    ·rw [if_pos h0] at h
     obtain ⟨ec, hec, h⟩ := Option.bind_eq_some_iff.mp h
     exact ⟨ec, fun _ => hec, by rw [if_pos h0]; exact Option.some.inj h⟩
    ·rw [if_neg h0] at h
     exact ⟨0, fun h1 => absurd h1 h0, by rw [if_neg h0]; exact Option.some.inj h⟩
   refine (wire_Read.walk A0 c0 l0 w hr0 hg.1 hby k s hs hk.1 hk.2 fin hfin ec hec).mono ?_
   generalize wire_Read.out fin (Rd.endF l0 fin.2.1 fin.2.2) ec = o at hout
   rintro e w' ⟨v, rfl, h1, h2⟩
   unfold wire_Read.tup at hout
   simp only [Prod.mk.injEq] at hout
   obtain ⟨rfl, rfl, rfl, rfl, rfl, rfl, rfl, rfl, rfl, rfl, rfl, rfl, rfl, rfl, rfl⟩ := hout
   exact ⟨v, rfl, h1, h2⟩
  ·rw [if_neg hk] at h
   cases h
 ·rw [if_neg hg] at h
  cases h
end Go.Proofs.Ytmdgdndidfcapaa.QB
