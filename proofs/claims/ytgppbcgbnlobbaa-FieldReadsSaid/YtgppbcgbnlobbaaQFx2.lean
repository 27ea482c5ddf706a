-- Printed by a program of this session (wip/tools): not by hand, and not by the kit's print.sh
import Derived.Test.YtgppbcgbnlobbaaQFx0
import Derived.Test.YtgppbcgbnlobbaaQFx1
namespace Go.Proofs.Ytgppbcgbnlobbaa.QF
open Go.RowKit Go.Proofs.YtgppbcgbnlobbaaW.PrintWords Go.Proofs.YtgppbcgbnlobbaaW.PrintLast Go.Proofs.YtgppbcgbnlobbaaW.PrintMore
attribute [local go_sem] max2_int min2_int max_two min_two max_three min_three max_four min_four   -- for this text's walks alone
set_option linter.unusedVariables false
set_option linter.unusedSimpArgs false

/-! ### ambrylaw01_lives: function 13 (given) -/
def ambrylaw01_lives.f : Option Bool := some true
namespace Lives
theorem str_of (W : World) (base : Nat) (ok : Nat → Prop) (v : Value) (xs : List Int) (h : Kd.R (Kd.int .u8) 5 W base ok v xs) : ∃ A c, v = .slice A xs.length c ∧ (convert 22 9 (.slice A xs.length c)).run Try.prog W = .ok (.string (strOfNums xs)) W := by
  obtain ⟨A, c, rfl⟩ := Kd.R_slice h
  exact ⟨A, c, rfl, own_string Try.underlying22 Try.underlying5 Try.underlying9 (Kd.own_of_R h)⟩
theorem put16 (W : World) : Calls Try.prog 28 #[.slice none 0 0, .int .i64 258] W fun e w' => ∃ A c, e = .returned (.slice A 2 c) ∧ (convert 22 9 (.slice A 2 c)).run Try.prog w' = .ok (.string ⟨#[1, 2]⟩) w' ∧ Below W.heap.size W w' := by
  refine (field_Put16.calls 8 (fun _ => True) (.slice none 0 0) [] 258 [1, 2] W W (Below.refl _ _) (Kd.R_nil _ _ _ _ _) (by decide +kernel)).mono ?_
  rintro e w' ⟨v, rfl, ho, hb, hk⟩
  obtain ⟨A, c, rfl, hs⟩ := str_of _ _ _ _ _ ho
  exact ⟨A, c, rfl, hs, hb⟩
theorem put64 (W : World) : Calls Try.prog 30 #[.slice none 0 0, .int .i64 (-2)] W fun e w' => ∃ A c, e = .returned (.slice A 8 c) ∧ (convert 22 9 (.slice A 8 c)).run Try.prog w' = .ok (.string ⟨#[255, 255, 255, 255, 255, 255, 255, 254]⟩) w' ∧ Below W.heap.size W w' := by
  refine (field_Put64.calls 12 (fun _ => True) (.slice none 0 0) [] (-2) [255, 255, 255, 255, 255, 255, 255, 254] W W (Below.refl _ _) (Kd.R_nil _ _ _ _ _) (by decide +kernel)).mono ?_
  rintro e w' ⟨v, rfl, ho, hb, hk⟩
  obtain ⟨A, c, rfl, hs⟩ := str_of _ _ _ _ _ ho
  exact ⟨A, c, rfl, hs, hb⟩
theorem putText (W : World) : Calls Try.prog 11 #[.slice none 0 0, .string ⟨#[97, 98]⟩] W fun e w' => ∃ A c, e = .returned (.slice A 6 c) ∧ (convert 22 9 (.slice A 6 c)).run Try.prog w' = .ok (.string ⟨#[0, 0, 0, 2, 97, 98]⟩) w' ∧ Below W.heap.size W w' := by
  refine (field_PutText.calls 8 (fun _ => True) (.slice none 0 0) [] ⟨#[97, 98]⟩ [0, 0, 0, 2, 97, 98] W W (Below.refl _ _) (Kd.R_nil _ _ _ _ _) (by decide +kernel)).mono ?_
  rintro e w' ⟨v, rfl, ho, hb, hk⟩
  obtain ⟨A, c, rfl, hs⟩ := str_of _ _ _ _ _ ho
  exact ⟨A, c, rfl, hs, hb⟩
theorem text (W : World) (g base : Nat) (hR : Rd.Rdr W g base [0, 0, 0, 2, 97, 98] 0 0) : Calls Try.prog 18 #[.pointer (some ⟨g, 0, none⟩), .int .i64 1] W fun e w' => e = .returned (.string ⟨#[]⟩) ∧ Rd.Rdr w' g base [0, 0, 0, 2, 97, 98] 0 5 ∧ W.grownBy w' (some g) := by
  have h := Rd.text_any W g base [0, 0, 0, 2, 97, 98] 0 0 1 hR
  have e : Rd.textF [0, 0, 0, 2, 97, 98] 0 0 1 = ([], 0, 5) := by decide
  rw [e] at h
  exact h
def exb : Array Value := #[.int .u8 0, .int .u8 0, .int .u8 0, .int .u8 2, .int .u8 97, .int .u8 98]
theorem new (W : World) : Calls Try.prog 14 #[.slice (some ⟨W.heap.size, 0, none⟩) 6 6] (W.alloc (.cells #[.int .u8 0, .int .u8 0, .int .u8 0, .int .u8 2, .int .u8 97, .int .u8 98] 5 (6, 7))) fun e w' => ∃ g, e = .returned (.pointer (some ⟨g, 0, none⟩)) ∧ Rd.Rdr w' g W.heap.size [0, 0, 0, 2, 97, 98] 0 0 ∧ Below W.heap.size W w' := by
  have hr : ReadsInt (W.alloc (.cells exb 5 (6, 7))) .u8 (some ⟨W.heap.size, 0, none⟩) 6 [0, 0, 0, 2, 97, 98] := by
    refine ⟨rfl, by decide, fun _ => ⟨_, rfl, fun j hj => ?_⟩⟩
    have hc := cell_of_row (W.alloc (.cells exb 5 (6, 7))) W.heap.size j exb 5 (6, 7) (blk_new W _)
    have ha : (⟨W.heap.size, 0, none⟩ : Addr).add j = ⟨W.heap.size, j, none⟩ := add_plain _ _
    rw [ha, hc]
    match j, hj with
    | 0, _ => rfl
    | 1, _ => rfl
    | 2, _ => rfl
    | 3, _ => rfl
    | 4, _ => rfl
    | 5, _ => rfl
  refine (Rd.new_any _ _ _ 6 _ hr (by decide) (by decide)).mono ?_
  rintro e w' ⟨g, rfl, hR, hb⟩
  obtain ⟨A, c, h1, h2, h3, h4, h5, h6⟩ := hR
  exact ⟨g, rfl, ⟨A, c, h1, by simp at h2; omega, h3, h4, fun a ha => ⟨by have := (h5 a ha).1; simp at this; omega, (h5 a ha).2⟩, h6⟩, below_then (below_alloc (Below.refl _ _) _) (by simp) hb⟩
end Lives
set_option maxHeartbeats 1000000 in
theorem ambrylaw01_lives.calls (r : Bool) (w : World) (h : ambrylaw01_lives.f = some r) :
    Calls Try.prog 13 #[] w fun e w' => e = .returned (.bool r) ∧ Below w.heap.size w w' := by
  obtain rfl : true = r := Option.some.inj h
  clear h
  have kc := fun (w : World) (C : Array Value) (n c : Nat) => Lib.run_convert_bytes_const (P := Try.prog) w 22 5 C n c Try.underlying22 Try.underlying5
  go_enter Try.func13, Try.ntmps13
  go_wp2_with (first
    | (go_at_call 14; refine (Lives.new w).mono ?_; rintro e w1 ⟨g, rfl, hR1, hB1⟩)
    | (go_at_call 18; refine (Lives.text _ _ _ hR1).mono ?_; rintro e w2 ⟨rfl, hR2, hG2⟩; have hB2 : Below w.heap.size w w2 := hB1.grown hG2 hB1.size (fun k hk => by injection hk with hk; obtain ⟨A, c, h1, h2, h3⟩ := hR1; omega); clear hG2 hB1 hR1)
    | (go_at_call 28; refine (Lives.put16 _).mono ?_; rintro e w3 ⟨A3, c3, rfl, hs3, hB3⟩; have hR3 := hR2.below hB3; have hB3 := below_then hB2 hB2.size hB3; clear hR2 hB2)
    | (go_at_call 30; refine (Lives.put64 _).mono ?_; rintro e w4 ⟨A4, c4, rfl, hs4, hB4⟩; have hR4 := hR3.below hB4; have hB4 := below_then hB3 hB3.size hB4; clear hR3 hB3 hs3)
    | (go_at_call 11; refine (Lives.putText _).mono ?_; rintro e w5 ⟨A5, c5, rfl, hs5, hB5⟩; have hR5 := hR4.below hB5; have hB5 := below_then hB4 hB4.size hB5; clear hR4 hB4 hs4)
    | (go_at_call 20; refine (Rd.err_any _ _ _ _ _ _ hR5).mono ?_; rintro e w6 ⟨rfl, rfl⟩)
    | (go_at_call 19; refine (Rd.at_any _ _ _ _ _ _ hR5).mono ?_; rintro e w7 ⟨rfl, rfl⟩))
  go_ret
  exact ⟨rfl, hB5⟩

end Go.Proofs.Ytgppbcgbnlobbaa.QF
