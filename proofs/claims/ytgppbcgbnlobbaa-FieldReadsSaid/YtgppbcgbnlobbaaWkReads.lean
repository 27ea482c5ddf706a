/- FieldReads's walk: whatever is read of any bytes, a reader answers, stands, and ends as the document says. -/
import Derived.Test.YtgppbcgbnlobbaaWkShort
import Derived.Test.YtgppbcgbnlobbaaRefR
import Derived.Deep.RegionHeld3
namespace Go.Proofs.Ytgppbcgbnlobbaa.Wk
open Go.RowKit Go.Proofs.YtgppbcgbnlobbaaW.PrintWords Go.Proofs.YtgppbcgbnlobbaaW.PrintLast Go.Proofs.YtgppbcgbnlobbaaW.PrintMore

/-- What holds while the law's loop runs: the reader, the document's reader in a variable, old memory as it was. -/
def Inv (W : World) (g base : Nat) (xs : List Int) (gm : Nat) (S : ByteArray) (p err : Int) (w : World) : Prop :=
  Rd.Rdr w g base xs p err ∧ w.heap[gm]? = some (.cells #[.string S, .int .i64 p, .int .i64 err] 36 (0, 0)) ∧ Below W.heap.size W w ∧ W.heap.size ≤ base ∧ W.heap.size ≤ gm
/-- The document's reader in a variable, the reader one step further. -/
def Inv2 (W : World) (g base : Nat) (xs : List Int) (gm : Nat) (S : ByteArray) (p err p' err' : Int) (w : World) : Prop :=
  Rd.Rdr w g base xs p err ∧ w.heap[gm]? = some (.cells #[.string S, .int .i64 p', .int .i64 err'] 36 (0, 0)) ∧ Below W.heap.size W w ∧ W.heap.size ≤ base ∧ W.heap.size ≤ gm
theorem num_of (w : World) (xs : List Int) (S : ByteArray) (p err : Int) (n : Nat) (hS : S = strOfNums xs) (h : RefR.Ok xs p) (hn : n ≤ 8) (r : Int × Int × Int) (hr : Rd.takeF xs p err n = r) :
    Calls Try.prog 15 #[.agg #[.string S, .int .i64 p, .int .i64 err], .int .i64 (n : Int)] w fun e w' => e = .returned (.tuple #[.agg #[.string S, .int .i64 r.2.1, .int .i64 r.2.2], .int .i64 r.1]) ∧ Below w.heap.size w w' := by
  subst hS hr
  exact QR.ambryref01_Reader_Num.calls 9 _ _ _ _ _ _ _ _ w (RefR.Num xs p err n h hn)
theorem ne_50_36 {w : World} {g base gm : Nat} {xs : List Int} {p err : Int} {cs : Array Value} (hR : Rd.Rdr w g base xs p err) (hm : w.heap[gm]? = some (.cells cs 36 (0, 0))) : gm ≠ g := by
  obtain ⟨A, c, hg, _⟩ := hR
  exact blk_ne hm hg (by decide)
/-- A reading call beside the document's reader: the reader goes on, the two variables stay. -/
theorem Inv.step {W w w' : World} {g base gm gx : Nat} {xs : List Int} {S : ByteArray} {p err : Int} {cs : Array Value} {r1 r2 : Int} (hI : Inv W g base xs gm S p err w) (hx : w.heap[gx]? = some (.cells cs 36 (0, 0))) (hR : Rd.Rdr w' g base xs r1 r2) (hG : w.grownBy w' (some g)) :
    Inv2 W g base xs gm S r1 r2 p err w' ∧ w'.heap[gx]? = some (.cells cs 36 (0, 0)) := by
  obtain ⟨h1, h2, h3, h4, h5⟩ := hI
  exact ⟨⟨hR, blk_grown h2 hG (fun e => ne_50_36 h1 h2 (by injection e)), below_rd h3 h1 h4 hG, h4, h5⟩, blk_grown hx hG (fun e => ne_50_36 h1 hx (by injection e))⟩
theorem Inv.below {W w w' : World} {g base gm : Nat} {xs : List Int} {S : ByteArray} {p err : Int} (hI : Inv W g base xs gm S p err w) (hb : Below w.heap.size w w') : Inv W g base xs gm S p err w' := by
  obtain ⟨h1, h2, h3, h4, h5⟩ := hI
  exact ⟨h1.below hb, blk_below h2 hb, below_then h3 h3.size hb, h4, h5⟩
theorem Inv2.stored {W w : World} {g base gm : Nat} {xs : List Int} {S : ByteArray} {r1 r2 p err : Int} (hJ : Inv2 W g base xs gm S r1 r2 p err w) :
    Inv W g base xs gm S r1 r2 (((w.setCell ⟨gm, 0, none⟩ (.string S)).setCell ⟨gm, 1, none⟩ (.int .i64 r1)).setCell ⟨gm, 2, none⟩ (.int .i64 r2)) := by
  obtain ⟨h1, h2, h3, h4, h5⟩ := hJ
  have hG : w.grownBy (((w.setCell ⟨gm, 0, none⟩ (.string S)).setCell ⟨gm, 1, none⟩ (.int .i64 r1)).setCell ⟨gm, 2, none⟩ (.int .i64 r2)) (some gm) :=
    Rd.grown_trans_same (Rd.grown_trans_same (Rd.grown_set w gm 0 _) (Rd.grown_set _ gm 1 _)) (Rd.grown_set _ gm 2 _)
  refine ⟨h1.move hG (fun e => ne_50_36 h1 h2 (by injection e with e; exact e.symm)) (fun b cs fr hb _ e => ?_), ?_, h3.grown hG h3.size (fun k hk => by injection hk with hk; omega), h4, h5⟩
  · injection e with e
    subst e
    rw [h2] at hb
    injection hb with hb
    injection hb with _ hb
    cases hb
  · have b0 := blk_set h2 0 (.string S)
    have b1 := blk_set b0 1 (.int .i64 r1)
    have b2 := blk_set b1 2 (.int .i64 r2)
    simpa using b2
theorem Inv.drew {W w : World} {g base gm : Nat} {xs : List Int} {S : ByteArray} {p err : Int} (hI : Inv W g base xs gm S p err w) : Inv W g base xs gm S p err w.drew := by
  obtain ⟨h1, h2, h3, h4, h5⟩ := hI
  exact ⟨h1.drewN 1, h2, h3.drew, h4, h5⟩
/-- What the region that asks the reader, and the document's, needs of its worlds. -/
def SS (W : World) (g base : Nat) (xs : List Int) (gm : Nat) (S : ByteArray) (p err : Int) (w : World) : Prop :=
  w.cell? ⟨gm, 0, none⟩ = some (.string S) ∧ w.cell? ⟨gm, 1, none⟩ = some (.int .i64 p) ∧ w.cell? ⟨gm, 2, none⟩ = some (.int .i64 err) ∧ Inv W g base xs gm S p err w
theorem Inv.ss {W w : World} {g base gm : Nat} {xs : List Int} {S : ByteArray} {p err : Int} (hI : Inv W g base xs gm S p err w) : SS W g base xs gm S p err w :=
  ⟨(blk_cell hI.2.1 0).trans rfl, (blk_cell hI.2.1 1).trans rfl, (blk_cell hI.2.1 2).trans rfl, hI⟩
theorem inv_at {W w : World} {g base gm : Nat} {xs : List Int} {S : ByteArray} {p err : Int} {A B C : Prop} (h : A ∧ B ∧ C ∧ Inv W g base xs gm S p err w) : Calls Try.prog 19 #[.pointer (some ⟨g, 0, none⟩)] w fun e w' => e = .returned (.int .i64 p) ∧ w = w' := Rd.at_any w g base xs p err h.2.2.2.1
theorem inv_err {W w : World} {g base gm : Nat} {xs : List Int} {S : ByteArray} {p err : Int} {A B C : Prop} (h : A ∧ B ∧ C ∧ Inv W g base xs gm S p err w) : Calls Try.prog 20 #[.pointer (some ⟨g, 0, none⟩)] w fun e w' => e = .returned (.int .i64 err) ∧ w = w' := Rd.err_any w g base xs p err h.2.2.2.1
theorem inv_end {W w : World} {g base gm : Nat} {xs : List Int} {S : ByteArray} {p err : Int} {A B C : Prop} (h : A ∧ B ∧ C ∧ Inv W g base xs gm S p err w) : Calls Try.prog 21 #[.pointer (some ⟨g, 0, none⟩)] w fun e w' => e = .returned (.int .i64 (Rd.endF xs p err)) ∧ Inv W g base xs gm S p err w' := by
  have hI := h.2.2.2
  refine (Rd.end_any w g base xs p err hI.1).mono ?_
  rintro e w' ⟨rfl, hG⟩
  obtain ⟨h1, h2, h3, h4, h5⟩ := hI
  exact ⟨rfl, h1.grown hG (by simp), blk_grown h2 hG (by simp), below_none h3 hG, h4, h5⟩
theorem inv_end2 {W w : World} {g base gm : Nat} {xs : List Int} {S : ByteArray} {p err : Int} {A B C : Prop} (hS : S = strOfNums xs) (h : A ∧ B ∧ C ∧ Inv W g base xs gm S p err w) : Calls Try.prog 22 #[.agg #[.string S, .int .i64 p, .int .i64 err]] w fun e w' => e = .returned (.int .i64 (Rd.endF xs p err)) ∧ Inv W g base xs gm S p err w' := by
  refine (QR.ambryref01_Reader_End.calls S p err _ w (by rw [hS]; exact RefR.End xs p err)).mono ?_
  rintro e w' ⟨rfl, hb⟩
  exact ⟨rfl, h.2.2.2.below hb⟩
theorem ok_of {W : World} {g base : Nat} {xs : List Int} {p err : Int} (hR : Rd.Rdr W g base xs p err) : RefR.Ok xs p := by
  obtain ⟨A, c, hg, hbg, hlc, hr, ha, hb, h0, hp, hn⟩ := hR
  exact ⟨hb, hn, h0, hp⟩
theorem bcell {W w1 : World} (hb : Below W.heap.size W w1) : (∀ b o, b < W.heap.size → w1.cell? ⟨b, o, none⟩ = W.cell? ⟨b, o, none⟩) ∧ (∀ b o, b < W.heap.size → w1.frozen? ⟨b, o, none⟩ = W.frozen? ⟨b, o, none⟩) :=
  ⟨fun b o h => hb.cell (p := ⟨b, o, none⟩) h, fun b o h => hb.frozen (p := ⟨b, o, none⟩) h⟩
theorem Inv.stored3 {W w : World} {g base gm gx : Nat} {xs : List Int} {S : ByteArray} {p err : Int} {cs : Array Value} {a b c : Value} (hI : Inv W g base xs gm S p err w) (hx : w.heap[gx]? = some (.cells cs 36 (0, 0))) (hne : gx ≠ gm) (hW : W.heap.size ≤ gx) :
    Inv W g base xs gm S p err (((w.setCell ⟨gx, 0, none⟩ a).setCell ⟨gx, 1, none⟩ b).setCell ⟨gx, 2, none⟩ c) := by
  obtain ⟨h1, h2, h3, h4, h5⟩ := hI
  have hG : w.grownBy (((w.setCell ⟨gx, 0, none⟩ a).setCell ⟨gx, 1, none⟩ b).setCell ⟨gx, 2, none⟩ c) (some gx) :=
    Rd.grown_trans_same (Rd.grown_trans_same (Rd.grown_set w gx 0 _) (Rd.grown_set _ gx 1 _)) (Rd.grown_set _ gx 2 _)
  · refine ⟨h1.move hG (fun e => ne_50_36 h1 hx (by injection e with e; exact e.symm)) (fun b cs fr hb _ e => ?_), blk_grown h2 hG (fun e => hne (by injection e with e; exact e.symm)), h3.grown hG h3.size (fun k hk => by injection hk with hk; omega), h4, h5⟩
    injection e with e
    subst e
    rw [hx] at hb
    injection hb with hb
    injection hb with _ hb
    cases hb
theorem blk3 {w : World} {gx : Nat} {S0 : Value} {p0 e0 a b c : Value} (hx : w.heap[gx]? = some (.cells #[S0, p0, e0] 36 (0, 0))) :
    (((w.setCell ⟨gx, 0, none⟩ a).setCell ⟨gx, 1, none⟩ b).setCell ⟨gx, 2, none⟩ c).heap[gx]? = some (.cells #[a, b, c] 36 (0, 0)) := by
  have b0 := blk_set hx 0 a
  have b1 := blk_set b0 1 b
  have b2 := blk_set b1 2 c
  simpa using b2
theorem Inv.ss4 {W w : World} {g base gm : Nat} {xs : List Int} {S : ByteArray} {p err : Int} {d : Addr} {v : Value} (hd : W.cell? d = some v) (hI : Inv W g base xs gm S p err w) :
    w.cell? ⟨gm, 0, none⟩ = some (.string S) ∧ w.cell? ⟨gm, 1, none⟩ = some (.int .i64 p) ∧ w.cell? ⟨gm, 2, none⟩ = some (.int .i64 err) ∧ w.cell? d = some v ∧ Inv W g base xs gm S p err w :=
  ⟨(blk_cell hI.2.1 0).trans rfl, (blk_cell hI.2.1 1).trans rfl, (blk_cell hI.2.1 2).trans rfl, pw_cell_below hI.2.2.1 hd, hI⟩
theorem inv_text {W w : World} {g base gm : Nat} {xs : List Int} {S : ByteArray} {p err most : Int} {A B C D : Prop} (hS : S = strOfNums xs) (h : A ∧ B ∧ C ∧ D ∧ Inv W g base xs gm S p err w) {r : List Int × Int × Int} (hr : Rd.textF xs p err most = r) :
    Calls Try.prog 17 #[.agg #[.string S, .int .i64 p, .int .i64 err], .int .i64 most] w fun e w' => e = .returned (.tuple #[.agg #[.string S, .int .i64 r.2.1, .int .i64 r.2.2], .string (strOfNums r.1)]) ∧ Inv W g base xs gm S p err w' ∧ Below w.heap.size w w' := by
  subst hr hS
  obtain ⟨_, _, _, _, hI⟩ := h
  refine (QR.ambryref01_Reader_Text.calls 9 _ _ _ _ _ _ _ _ w (RefR.Text xs p err most (ok_of hI.1))).mono ?_
  rintro e w' ⟨rfl, hb⟩
  exact ⟨rfl, hI.below hb, hb⟩
set_option maxRecDepth 100000 in
set_option maxHeartbeats 4000000 in
theorem reads_core (A0 : Option Addr) (n0 c0 : Nat) (xs : List Int) (A1 : Option Addr) (n1 c1 : Nat) (K M : Nat → Int) (W : World) (hr0 : ReadsInt W .u8 A0 n0 xs) (hn0 : n0 ≤ 140737488351232) (hb : ∀ x ∈ xs, 0 ≤ x ∧ x ≤ 255)
    (hK : ∀ j, j < n1 → ∃ a, A1 = some a ∧ W.cell? (a.add (j * 2)) = some (.int .i64 (K j)) ∧ W.cell? (a.add (j * 2 + 1)) = some (.int .i64 (M j))) (h1 : n1 ≤ 1000) :
    Calls Try.prog 5 #[.slice A0 n0 c0, .slice A1 n1 c1] W fun e w' => e = .returned (.bool true) ∧ Below W.heap.size W w' := by
  have HR := Lib.hid hr0
  have HBY := Lib.hid hb
  have HK := Lib.hid hK
  have hxl := Lib.hid hr0.1
  have HO := Lib.hid (own_lit W W.heap.size 5 .u8 [] (Nat.le_refl _) (by simp))
  obtain ⟨S, hS⟩ : ∃ S, S = strOfNums xs := ⟨_, rfl⟩
  have HS := Lib.hid hS
  clear hr0 hb hK hS
  go_enter Try.func5, Try.ntmps5
  go_wp2_with (first
    | (at_builtin; refine print_append_row (w0 := W) W.heap.size rfl (.tmp 13) (.tmp 14) 22 5 .u8 1 rfl Try.underlying22 Rd.info5w (by decide) (.slice (some ⟨W.heap.size, 0, none⟩) 0 0) [] xs A0 n0 c0 rfl rfl HO.out (HR.out.allocS _) (below_alloc (Below.refl _ _) _) (by simp) (by simp; omega) ?_; intro v1 w1 ho hB1 hg hat; rw [List.nil_append, hxl.out] at ho; obtain ⟨A2, c2, rfl⟩ := own_slice3 ho; clear hg hat)
    | (go_at_call 14; refine (new_of W _ A2 n0 c2 xs (by obtain ⟨A, c, e, hr⟩ := own_reads ho; injection e with e1 e2 e3; subst e1; exact hr) (by omega) HBY.out hB1).mono ?_; rintro e w2 ⟨g, rfl, hR2, hb2, hB2, hg2⟩; have hz1 := hB1.size; have hcv := fun (w : World) (hb : Below w2.heap.size w2 w) => string_of_reads (P := Try.prog) (c := c0) Try.underlying22 Try.underlying5 Try.underlying9 ((HR.out.below hB2).below hb); have hcv1 := hcv w2 (Below.refl _ _); rw [← HS.out] at hcv1; clear ho hB1 hcv))
  have hI : Inv W g w1.heap.size xs w2.heap.size S 0 0 (w2.alloc (.cells #[.string S, .int .i64 0, .int .i64 0] 36)) :=
    ⟨hR2.below (below_alloc (Below.refl _ _) _), blk_new _ _, below_alloc hB2 _, hz1, hB2.size⟩
  clear hR2 hB2 hb2 hg2 hcv1 hz1
  go_loopw [7] (fun i w' => ∃ (j : Nat) (p err : Int), j ≤ n1 ∧ i = .int .i64 j ∧ Inv W g w1.heap.size xs w2.heap.size S p err w') (fun i _ => n1 - (intOf i).toNat)
  case atStart => exact ⟨0, 0, 0, Nat.zero_le _, rfl, hI⟩
  case round =>
    clear hI
    obtain ⟨j, p, err, hj, rfl, hI⟩ := hrel
    by_cases hlt : j < n1
    · obtain ⟨a, rfl, hd1, hd2⟩ := HK.out j hlt
      have hc1 := pw_cell_below hI.2.2.1 hd1
      have hc2 := pw_cell_below hI.2.2.1 hd2
      clear hd1 hd2
      have m0 := (blk_cell hI.2.1 0).trans rfl
      have m1 := (blk_cell hI.2.1 1).trans rfl
      have m2 := (blk_cell hI.2.1 2).trans rfl
      by_cases hk : 0 ≤ K j ∧ K j < 4
      · rcases (by omega : K j = 0 ∨ K j = 1 ∨ K j = 2 ∨ K j = 3) with e | e | e | e
        · rw [e] at hc1
          clear hk e
          obtain ⟨r, hr⟩ : ∃ r, Rd.takeF xs p err 1 = r := ⟨_, rfl⟩
          have HT := Lib.hid hr
          clear hr
          go_wp2_with (first
            | (go_at_call 15; refine (num_of _ xs S p err 1 HS.out (ok_of hI.1) (by omega) r HT.out).mono ?_; rintro e w5 ⟨rfl, hb5⟩; have hI5 := (hI.below hb5).below (below_alloc (Below.refl _ _) (.cells #[.string S, .int .i64 r.2.1, .int .i64 r.2.2] 36)); have hx5 := blk_new w5 (.cells #[.string S, .int .i64 r.2.1, .int .i64 r.2.2] 36); clear hI hb5)
            | (go_at_call 16; refine (get_of hI5.1 0 (by omega) HT.out).mono ?_; rintro e w6 ⟨rfl, hR6, hG6⟩; obtain ⟨hJ6, hx6⟩ := hI5.step hx5 hR6 hG6; have x0 := (blk_cell hx6 0).trans rfl; have x1 := (blk_cell hx6 1).trans rfl; have x2 := (blk_cell hx6 2).trans rfl; have m0 := (blk_cell hJ6.2.1 0).trans rfl; have m1 := (blk_cell hJ6.2.1 1).trans rfl; have m2 := (blk_cell hJ6.2.1 2).trans rfl; have f0 := blk_frozen hJ6.2.1 0; have f1 := blk_frozen hJ6.2.1 1; have f2 := blk_frozen hJ6.2.1 2; clear hI5 hx5 hR6 hG6))
          have hI7 := hJ6.stored
          clear hJ6 x0 x1 x2 m0 m1 m2 f0 f1 f2 hx6
          generalize (((w6.setCell ⟨w2.heap.size, 0, none⟩ (.string S)).setCell ⟨w2.heap.size, 1, none⟩ (.int .i64 r.2.1)).setCell ⟨w2.heap.size, 2, none⟩ (.int .i64 r.2.2)) = w7 at *
          have e1 : (r.2.1 != r.2.1) = false := by simp
          have e2 : (r.2.2 != r.2.2) = false := by simp
          generalize r.2.1 = p7 at *
          generalize r.2.2 = e7 at *
          go_region_held3 (fun w' => w'.cell? ⟨w2.heap.size, 0, none⟩ = some (.string S) ∧ w'.cell? ⟨w2.heap.size, 1, none⟩ = some (.int .i64 p7) ∧ w'.cell? ⟨w2.heap.size, 2, none⟩ = some (.int .i64 e7) ∧ Inv W g w1.heap.size xs w2.heap.size S p7 e7 w') (first | assumption | exact Inv.ss ‹_› | exact Inv.ss (Inv.drew ‹_›))
            (first
              | (go_at_call 19; refine (inv_at (by assumption)).mono ?_; rintro e w' ⟨rfl, rfl⟩)
              | (go_at_call 20; refine (inv_err (by assumption)).mono ?_; rintro e w' ⟨rfl, rfl⟩)
              | (go_at_call 21; refine (inv_end (by assumption)).mono ?_; rintro e w' ⟨rfl, hI8⟩)
              | (go_at_call 22; refine (inv_end2 HS.out (by assumption)).mono ?_; rintro e w' ⟨rfl, hI8⟩))
          go_wp2
          go_roundw
          case rel => exact ⟨j + 1, p7, e7, by omega, by go_num, hI8⟩
          case measure => simp [intOf]; omega
        · rw [e] at hc1
          clear hk e
          obtain ⟨r, hr⟩ : ∃ r, Rd.takeF xs p err 2 = r := ⟨_, rfl⟩
          have HT := Lib.hid hr
          clear hr
          go_wp2_with (first
            | (go_at_call 15; refine (num_of _ xs S p err 2 HS.out (ok_of hI.1) (by omega) r HT.out).mono ?_; rintro e w5 ⟨rfl, hb5⟩; have hI5 := (hI.below hb5).below (below_alloc (Below.refl _ _) (.cells #[.string S, .int .i64 r.2.1, .int .i64 r.2.2] 36)); have hx5 := blk_new w5 (.cells #[.string S, .int .i64 r.2.1, .int .i64 r.2.2] 36); clear hI hb5)
            | (go_at_call 16; refine (get_of hI5.1 1 (by omega) HT.out).mono ?_; rintro e w6 ⟨rfl, hR6, hG6⟩; obtain ⟨hJ6, hx6⟩ := hI5.step hx5 hR6 hG6; have x0 := (blk_cell hx6 0).trans rfl; have x1 := (blk_cell hx6 1).trans rfl; have x2 := (blk_cell hx6 2).trans rfl; have m0 := (blk_cell hJ6.2.1 0).trans rfl; have m1 := (blk_cell hJ6.2.1 1).trans rfl; have m2 := (blk_cell hJ6.2.1 2).trans rfl; have f0 := blk_frozen hJ6.2.1 0; have f1 := blk_frozen hJ6.2.1 1; have f2 := blk_frozen hJ6.2.1 2; clear hI5 hx5 hR6 hG6))
          have hI7 := hJ6.stored
          clear hJ6 x0 x1 x2 m0 m1 m2 f0 f1 f2 hx6
          generalize (((w6.setCell ⟨w2.heap.size, 0, none⟩ (.string S)).setCell ⟨w2.heap.size, 1, none⟩ (.int .i64 r.2.1)).setCell ⟨w2.heap.size, 2, none⟩ (.int .i64 r.2.2)) = w7 at *
          have e1 : (r.2.1 != r.2.1) = false := by simp
          have e2 : (r.2.2 != r.2.2) = false := by simp
          generalize r.2.1 = p7 at *
          generalize r.2.2 = e7 at *
          go_region_held3 (fun w' => w'.cell? ⟨w2.heap.size, 0, none⟩ = some (.string S) ∧ w'.cell? ⟨w2.heap.size, 1, none⟩ = some (.int .i64 p7) ∧ w'.cell? ⟨w2.heap.size, 2, none⟩ = some (.int .i64 e7) ∧ Inv W g w1.heap.size xs w2.heap.size S p7 e7 w') (first | assumption | exact Inv.ss ‹_› | exact Inv.ss (Inv.drew ‹_›))
            (first
              | (go_at_call 19; refine (inv_at (by assumption)).mono ?_; rintro e w' ⟨rfl, rfl⟩)
              | (go_at_call 20; refine (inv_err (by assumption)).mono ?_; rintro e w' ⟨rfl, rfl⟩)
              | (go_at_call 21; refine (inv_end (by assumption)).mono ?_; rintro e w' ⟨rfl, hI8⟩)
              | (go_at_call 22; refine (inv_end2 HS.out (by assumption)).mono ?_; rintro e w' ⟨rfl, hI8⟩))
          go_wp2
          go_roundw
          case rel => exact ⟨j + 1, p7, e7, by omega, by go_num, hI8⟩
          case measure => simp [intOf]; omega
        · rw [e] at hc1
          clear hk e
          obtain ⟨r, hr⟩ : ∃ r, Rd.takeF xs p err 4 = r := ⟨_, rfl⟩
          have HT := Lib.hid hr
          clear hr
          go_wp2_with (first
            | (go_at_call 15; refine (num_of _ xs S p err 4 HS.out (ok_of hI.1) (by omega) r HT.out).mono ?_; rintro e w5 ⟨rfl, hb5⟩; have hI5 := (hI.below hb5).below (below_alloc (Below.refl _ _) (.cells #[.string S, .int .i64 r.2.1, .int .i64 r.2.2] 36)); have hx5 := blk_new w5 (.cells #[.string S, .int .i64 r.2.1, .int .i64 r.2.2] 36); clear hI hb5)
            | (go_at_call 16; refine (get_of hI5.1 2 (by omega) HT.out).mono ?_; rintro e w6 ⟨rfl, hR6, hG6⟩; obtain ⟨hJ6, hx6⟩ := hI5.step hx5 hR6 hG6; have x0 := (blk_cell hx6 0).trans rfl; have x1 := (blk_cell hx6 1).trans rfl; have x2 := (blk_cell hx6 2).trans rfl; have m0 := (blk_cell hJ6.2.1 0).trans rfl; have m1 := (blk_cell hJ6.2.1 1).trans rfl; have m2 := (blk_cell hJ6.2.1 2).trans rfl; have f0 := blk_frozen hJ6.2.1 0; have f1 := blk_frozen hJ6.2.1 1; have f2 := blk_frozen hJ6.2.1 2; clear hI5 hx5 hR6 hG6))
          have hI7 := hJ6.stored
          clear hJ6 x0 x1 x2 m0 m1 m2 f0 f1 f2 hx6
          generalize (((w6.setCell ⟨w2.heap.size, 0, none⟩ (.string S)).setCell ⟨w2.heap.size, 1, none⟩ (.int .i64 r.2.1)).setCell ⟨w2.heap.size, 2, none⟩ (.int .i64 r.2.2)) = w7 at *
          have e1 : (r.2.1 != r.2.1) = false := by simp
          have e2 : (r.2.2 != r.2.2) = false := by simp
          generalize r.2.1 = p7 at *
          generalize r.2.2 = e7 at *
          go_region_held3 (fun w' => w'.cell? ⟨w2.heap.size, 0, none⟩ = some (.string S) ∧ w'.cell? ⟨w2.heap.size, 1, none⟩ = some (.int .i64 p7) ∧ w'.cell? ⟨w2.heap.size, 2, none⟩ = some (.int .i64 e7) ∧ Inv W g w1.heap.size xs w2.heap.size S p7 e7 w') (first | assumption | exact Inv.ss ‹_› | exact Inv.ss (Inv.drew ‹_›))
            (first
              | (go_at_call 19; refine (inv_at (by assumption)).mono ?_; rintro e w' ⟨rfl, rfl⟩)
              | (go_at_call 20; refine (inv_err (by assumption)).mono ?_; rintro e w' ⟨rfl, rfl⟩)
              | (go_at_call 21; refine (inv_end (by assumption)).mono ?_; rintro e w' ⟨rfl, hI8⟩)
              | (go_at_call 22; refine (inv_end2 HS.out (by assumption)).mono ?_; rintro e w' ⟨rfl, hI8⟩))
          go_wp2
          go_roundw
          case rel => exact ⟨j + 1, p7, e7, by omega, by go_num, hI8⟩
          case measure => simp [intOf]; omega
        · rw [e] at hc1
          clear hk e
          obtain ⟨r, hr⟩ : ∃ r, Rd.takeF xs p err 8 = r := ⟨_, rfl⟩
          have HT := Lib.hid hr
          clear hr
          go_wp2_with (first
            | (go_at_call 15; refine (num_of _ xs S p err 8 HS.out (ok_of hI.1) (by omega) r HT.out).mono ?_; rintro e w5 ⟨rfl, hb5⟩; have hI5 := (hI.below hb5).below (below_alloc (Below.refl _ _) (.cells #[.string S, .int .i64 r.2.1, .int .i64 r.2.2] 36)); have hx5 := blk_new w5 (.cells #[.string S, .int .i64 r.2.1, .int .i64 r.2.2] 36); clear hI hb5)
            | (go_at_call 16; refine (get_of hI5.1 3 (by omega) HT.out).mono ?_; rintro e w6 ⟨rfl, hR6, hG6⟩; obtain ⟨hJ6, hx6⟩ := hI5.step hx5 hR6 hG6; have x0 := (blk_cell hx6 0).trans rfl; have x1 := (blk_cell hx6 1).trans rfl; have x2 := (blk_cell hx6 2).trans rfl; have m0 := (blk_cell hJ6.2.1 0).trans rfl; have m1 := (blk_cell hJ6.2.1 1).trans rfl; have m2 := (blk_cell hJ6.2.1 2).trans rfl; have f0 := blk_frozen hJ6.2.1 0; have f1 := blk_frozen hJ6.2.1 1; have f2 := blk_frozen hJ6.2.1 2; clear hI5 hx5 hR6 hG6))
          have hI7 := hJ6.stored
          clear hJ6 x0 x1 x2 m0 m1 m2 f0 f1 f2 hx6
          generalize (((w6.setCell ⟨w2.heap.size, 0, none⟩ (.string S)).setCell ⟨w2.heap.size, 1, none⟩ (.int .i64 r.2.1)).setCell ⟨w2.heap.size, 2, none⟩ (.int .i64 r.2.2)) = w7 at *
          have e1 : (r.2.1 != r.2.1) = false := by simp
          have e2 : (r.2.2 != r.2.2) = false := by simp
          generalize r.2.1 = p7 at *
          generalize r.2.2 = e7 at *
          go_region_held3 (fun w' => w'.cell? ⟨w2.heap.size, 0, none⟩ = some (.string S) ∧ w'.cell? ⟨w2.heap.size, 1, none⟩ = some (.int .i64 p7) ∧ w'.cell? ⟨w2.heap.size, 2, none⟩ = some (.int .i64 e7) ∧ Inv W g w1.heap.size xs w2.heap.size S p7 e7 w') (first | assumption | exact Inv.ss ‹_› | exact Inv.ss (Inv.drew ‹_›))
            (first
              | (go_at_call 19; refine (inv_at (by assumption)).mono ?_; rintro e w' ⟨rfl, rfl⟩)
              | (go_at_call 20; refine (inv_err (by assumption)).mono ?_; rintro e w' ⟨rfl, rfl⟩)
              | (go_at_call 21; refine (inv_end (by assumption)).mono ?_; rintro e w' ⟨rfl, hI8⟩)
              | (go_at_call 22; refine (inv_end2 HS.out (by assumption)).mono ?_; rintro e w' ⟨rfl, hI8⟩))
          go_wp2
          go_roundw
          case rel => exact ⟨j + 1, p7, e7, by omega, by go_num, hI8⟩
          case measure => simp [intOf]; omega
      · skip
        obtain ⟨k, hkk⟩ : ∃ k, K j = k := ⟨_, rfl⟩
        obtain ⟨mo, hmo⟩ : ∃ mo, M j = mo := ⟨_, rfl⟩
        rw [hkk] at hc1 hk
        have hcW := (HK.out j hlt)
        obtain ⟨a', e', hcW1, hcW2⟩ := hcW
        injection e' with e'
        subst e'
        rw [hmo, add_field _ _ _ (by omega)] at hc2 hcW2
        have HCW := Lib.hid hcW2
        obtain ⟨r, hr⟩ : ∃ r, Rd.textF xs p err mo = r := ⟨_, rfl⟩
        have HT := Lib.hid hr
        clear hr hkk hmo hcW1 hcW2
        go_wp2_with fail
        all_goals
          go_region_held3 (fun w' => w'.cell? ⟨w2.heap.size, 0, none⟩ = some (.string S) ∧ w'.cell? ⟨w2.heap.size, 1, none⟩ = some (.int .i64 p) ∧ w'.cell? ⟨w2.heap.size, 2, none⟩ = some (.int .i64 err) ∧ w'.cell? ⟨(a.add (j * 2)).block, (a.add (j * 2)).off + 1, none⟩ = some (.int .i64 mo) ∧ Inv W g w1.heap.size xs w2.heap.size S p err w') (first | with_reducible assumption | (refine Inv.ss4 HCW.out ?_; with_reducible assumption) | (refine Inv.ss4 HCW.out (Inv.drew ?_); with_reducible assumption) | (refine Inv.ss4 HCW.out (Inv.drew (Inv.below ?_ (below_alloc (Below.refl _ _) _))); with_reducible assumption) | (refine Inv.ss4 HCW.out (Inv.below ?_ (below_alloc (Below.refl _ _) _)); with_reducible assumption) | exact Inv.ss4 HCW.out (Inv.stored3 hI8 (blk_below (blk_drew (blk_new wr (.cells #[.string ⟨#[]⟩, .int .i64 0, .int .i64 0] 36))) hb8) (Nat.ne_of_gt (blk_lt hI.2.1)) hI.2.2.1.size))
            (first
              | (go_at_call 17; refine (inv_text HS.out (by assumption) HT.out).mono ?_; rintro e w' ⟨rfl, hI8, hb8⟩; obtain ⟨hbc, hbf⟩ := bcell hb8))
        all_goals
          have hgm : wr.heap.size ≠ w2.heap.size := Nat.ne_of_gt (blk_lt hI.2.1)
          have hWz : W.heap.size ≤ wr.heap.size := hI.2.2.1.size
          clear hbc hbf hc1 hc2 hk m0 m1 m2
        all_goals
          first
            | (have hx8 := blk_below (blk_drew (blk_new wr (.cells #[.string ⟨#[]⟩, .int .i64 0, .int .i64 0] 36))) hb8
               have hI9 := Inv.stored3 (a := .string S) (b := .int .i64 r.2.1) (c := .int .i64 r.2.2) hI8 hx8 hgm hWz
               have hx9 := blk3 (a := .string S) (b := .int .i64 r.2.1) (c := .int .i64 r.2.2) hx8
               clear hx8 hb8
               generalize (((w'.setCell ⟨wr.heap.size, 0, none⟩ (.string S)).setCell ⟨wr.heap.size, 1, none⟩ (.int .i64 r.2.1)).setCell ⟨wr.heap.size, 2, none⟩ (.int .i64 r.2.2)) = wz at hI9 hx9 ⊢
               generalize wr.heap.size = gx at hx9 ⊢)
            | (have hb9 : Below wr.drew.heap.size wr.drew w' := hb8
               have hI9 := hI8.below (below_alloc (Below.refl _ _) (.cells #[.string S, .int .i64 r.2.1, .int .i64 r.2.2] 36))
               have hx9 := blk_new w' (.cells #[.string S, .int .i64 r.2.1, .int .i64 r.2.2] 36)
               clear hb8 hb9
               generalize (w'.alloc (.cells #[.string S, .int .i64 r.2.1, .int .i64 r.2.2] 36)) = wz at hI9 hx9 ⊢
               generalize w'.heap.size = gx at hx9 ⊢)
          have hc9 := pw_cell_below hI9.2.2.1 HCW.out
          go_wp2_with (first
            | (go_at_call 18; refine (text_of hI9.1 HT.out).mono ?_; rintro e w6 ⟨rfl, hR6, hG6⟩; obtain ⟨hJ6, hx6⟩ := hI9.step hx9 hR6 hG6; have x0 := (blk_cell hx6 0).trans rfl; have x1 := (blk_cell hx6 1).trans rfl; have x2 := (blk_cell hx6 2).trans rfl; have m0 := (blk_cell hJ6.2.1 0).trans rfl; have m1 := (blk_cell hJ6.2.1 1).trans rfl; have m2 := (blk_cell hJ6.2.1 2).trans rfl; have f0 := blk_frozen hJ6.2.1 0; have f1 := blk_frozen hJ6.2.1 1; have f2 := blk_frozen hJ6.2.1 2; clear hI9 hx9 hR6 hG6))
          have hI7 := hJ6.stored
          clear hJ6 x0 x1 x2 m0 m1 m2 f0 f1 f2 hx6
          generalize (((w6.setCell ⟨w2.heap.size, 0, none⟩ (.string S)).setCell ⟨w2.heap.size, 1, none⟩ (.int .i64 r.2.1)).setCell ⟨w2.heap.size, 2, none⟩ (.int .i64 r.2.2)) = w7 at *
          have e1 : (r.2.1 != r.2.1) = false := by simp
          have e2 : (r.2.2 != r.2.2) = false := by simp
          generalize r.2.1 = p7 at *
          generalize r.2.2 = e7 at *
          go_region_held3 (fun w' => w'.cell? ⟨w2.heap.size, 0, none⟩ = some (.string S) ∧ w'.cell? ⟨w2.heap.size, 1, none⟩ = some (.int .i64 p7) ∧ w'.cell? ⟨w2.heap.size, 2, none⟩ = some (.int .i64 e7) ∧ Inv W g w1.heap.size xs w2.heap.size S p7 e7 w') (first | assumption | exact Inv.ss ‹_› | exact Inv.ss (Inv.drew ‹_›))
            (first
              | (go_at_call 19; refine (inv_at (by assumption)).mono ?_; rintro e w' ⟨rfl, rfl⟩)
              | (go_at_call 20; refine (inv_err (by assumption)).mono ?_; rintro e w' ⟨rfl, rfl⟩)
              | (go_at_call 21; refine (inv_end (by assumption)).mono ?_; rintro e w' ⟨rfl, hI8⟩)
              | (go_at_call 22; refine (inv_end2 HS.out (by assumption)).mono ?_; rintro e w' ⟨rfl, hI8⟩))
          go_wp2
          go_roundw
          case rel => exact ⟨j + 1, p7, e7, by omega, by go_num, hI8⟩
          case measure => simp [intOf]; omega
    · obtain rfl : j = n1 := by omega
      have hB9 := hI.2.2.1
      clear hI hj hlt
      go_wp2_with (first
        | (go_at_call 13; refine (lives _).mono ?_; rintro e w11 ⟨rfl, hb11⟩; have hB11 := below_then hB9 hB9.size hb11; clear hB9))
      go_ret
      exact ⟨rfl, hB11⟩
set_option maxRecDepth 100000 in
set_option maxHeartbeats 4000000 in
theorem reads_long (A0 : Option Addr) (n0 c0 : Nat) (xs : List Int) (A1 : Option Addr) (n1 c1 : Nat) (W : World) (hr0 : ReadsInt W .u8 A0 n0 xs) (hn0 : n0 ≤ 140737488351232) (hb : ∀ x ∈ xs, 0 ≤ x ∧ x ≤ 255) (h1 : 1000 < n1) (h2 : n1 ≤ 9223372036854775807) :
    Calls Try.prog 5 #[.slice A0 n0 c0, .slice A1 n1 c1] W fun e w' => e = .returned (.bool true) ∧ Below W.heap.size W w' := by
  have HR := Lib.hid hr0
  have HBY := Lib.hid hb
  have hxl := Lib.hid hr0.1
  have HO := Lib.hid (own_lit W W.heap.size 5 .u8 [] (Nat.le_refl _) (by simp))
  obtain ⟨S, hS⟩ : ∃ S, S = strOfNums xs := ⟨_, rfl⟩
  have HS := Lib.hid hS
  clear hr0 hb hS
  go_enter Try.func5, Try.ntmps5
  go_wp2_with (first
    | (at_builtin; refine print_append_row (w0 := W) W.heap.size rfl (.tmp 13) (.tmp 14) 22 5 .u8 1 rfl Try.underlying22 Rd.info5w (by decide) (.slice (some ⟨W.heap.size, 0, none⟩) 0 0) [] xs A0 n0 c0 rfl rfl HO.out (HR.out.allocS _) (below_alloc (Below.refl _ _) _) (by simp) (by simp; omega) ?_; intro v1 w1 ho hB1 hg hat; rw [List.nil_append, hxl.out] at ho; obtain ⟨A2, c2, rfl⟩ := own_slice3 ho; clear hg hat)
    | (go_at_call 14; refine (new_of W _ A2 n0 c2 xs (by obtain ⟨A, c, e, hr⟩ := own_reads ho; injection e with e1 e2 e3; subst e1; exact hr) (by omega) HBY.out hB1).mono ?_; rintro e w2 ⟨g, rfl, hR2, hb2, hB2, hg2⟩; have hz1 := hB1.size; have hcv := fun (w : World) (hb : Below w2.heap.size w2 w) => string_of_reads (P := Try.prog) (c := c0) Try.underlying22 Try.underlying5 Try.underlying9 ((HR.out.below hB2).below hb); have hcv1 := hcv w2 (Below.refl _ _); rw [← HS.out] at hcv1; clear ho hB1 hcv)
    | (go_at_call 13; refine (lives _).mono ?_; rintro e w11 ⟨rfl, hb11⟩; have hB11 := below_then (below_alloc hB2 (.cells #[.string S, .int .i64 0, .int .i64 0] 36)) (below_alloc hB2 _).size hb11; clear hB2))
  go_ret
  exact ⟨rfl, hB11⟩
theorem reads_any (A0 : Option Addr) (n0 c0 : Nat) (xs : List Int) (A1 : Option Addr) (n1 c1 : Nat) (K M : Nat → Int) (W : World) (hr0 : ReadsInt W .u8 A0 n0 xs) (hn0 : n0 ≤ 140737488351232) (hb : ∀ x ∈ xs, (Lit.int .u8 x).wf = true)
    (hK : ∀ j, j < n1 → ∃ a, A1 = some a ∧ W.cell? (a.add (j * 2)) = some (.int .i64 (K j)) ∧ W.cell? (a.add (j * 2 + 1)) = some (.int .i64 (M j))) (hm : n1 ≤ 9223372036854775807) :
    Calls Try.prog 5 #[.slice A0 n0 c0, .slice A1 n1 c1] W fun e w' => e = .returned (.bool true) ∧ Below W.heap.size W w' := by
  have hb' : ∀ x ∈ xs, 0 ≤ x ∧ x ≤ 255 := fun x hx => by
    have := hb x hx
    simpa [Lit.wf, IntKind.min, IntKind.max, IntKind.signed, IntKind.bits] using this
  by_cases h : n1 ≤ 1000
  · exact reads_core A0 n0 c0 xs A1 n1 c1 K M W hr0 hn0 hb' hK h
  · exact reads_long A0 n0 c0 xs A1 n1 c1 W hr0 hn0 hb' (by omega) hm
end Go.Proofs.Ytgppbcgbnlobbaa.Wk
