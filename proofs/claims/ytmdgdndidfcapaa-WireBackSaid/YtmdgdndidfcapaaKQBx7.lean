import Derived.Test.YtmdgdndidfcapaaKQBx0
namespace Go.Proofs.Ytmdgdndidfcapaa.QB
open Go.RowKit Go.Proofs.YtmdgdndidfcapaaW.PrintWords Go.Proofs.YtmdgdndidfcapaaW.PrintLast Go.Proofs.YtmdgdndidfcapaaW.PrintMore
attribute [local go_sem] max2_int min2_int max_two min_two max_three min_three max_four min_four   -- for this text's walks alone
set_option linter.unusedVariables false
set_option linter.unusedSimpArgs false
mutual
def wire_Fields.j0 : Nat → Int → Bool → Option (ByteArray)
 | 0, _, _ => none
 | k + 1, x3, x4 => if x4 = true then (some (⟨#[73]⟩ : ByteArray)) else (if x3 = 3 then (wire_Fields.j1 k x3 (x3 == 3)) else (if x3 = 4 then (wire_Fields.j1 k x3 (x3 == 4)) else (wire_Fields.j1 k x3 (x3 == 7))))
def wire_Fields.j1 : Nat → Int → Bool → Option (ByteArray)
 | 0, _, _ => none
 | k + 1, x3, x7 => if x7 = true then (some (⟨#[83]⟩ : ByteArray)) else (if x3 = 5 then (wire_Fields.j2 k x3 (x3 == 5)) else (if x3 = 6 then (wire_Fields.j2 k x3 (x3 == 6)) else (if x3 = 9 then (wire_Fields.j2 k x3 (x3 == 9)) else (wire_Fields.j2 k x3 (x3 == 20)))))
def wire_Fields.j2 : Nat → Int → Bool → Option (ByteArray)
 | 0, _, _ => none
 | k + 1, x3, x11 => if x11 = true then (some (⟨#[83, 66]⟩ : ByteArray)) else (if x3 = 8 then (some (⟨#[83, 66, 78]⟩ : ByteArray)) else (if x3 = 10 then (some (⟨#[83, 66, 79, 67, 88]⟩ : ByteArray)) else (if x3 = 11 then (wire_Fields.j3 k x3 (x3 == 11)) else (if x3 = 12 then (wire_Fields.j3 k x3 (x3 == 12)) else (wire_Fields.j3 k x3 (x3 == 13))))))
def wire_Fields.j3 : Nat → Int → Bool → Option (ByteArray)
 | 0, _, _ => none
 | k + 1, x3, x20 => if x20 = true then (some (⟨#[83, 66, 79, 86]⟩ : ByteArray)) else (if x3 = 14 then (some (⟨#[83, 66, 79, 80, 68, 78]⟩ : ByteArray)) else (if x3 = 15 then (some (⟨#[83, 66, 79, 80, 73, 78]⟩ : ByteArray)) else (if x3 = 16 then (some (⟨#[83, 66, 79]⟩ : ByteArray)) else (if x3 = 17 then (some (⟨#[83, 66, 79, 73, 78, 88]⟩ : ByteArray)) else (if x3 = 18 then (some (⟨#[83, 66, 79, 73, 76]⟩ : ByteArray)) else (if x3 = 19 then (some (⟨#[83, 66, 79, 73]⟩ : ByteArray)) else (if x3 = 21 then (some (⟨#[83, 66, 79, 73]⟩ : ByteArray)) else (some (⟨#[]⟩ : ByteArray)))))))))
end
def wire_Fields.f (k : Nat) (a0 : Int) : Option (ByteArray) := if a0 = 2 then (wire_Fields.j0 k a0 (a0 == 2)) else (wire_Fields.j0 k a0 (a0 == 22))
set_option maxHeartbeats 8000000 in
set_option maxRecDepth 100000 in
theorem wire_Fields.calls (k : Nat) (a0 : Int) (r : ByteArray) (w : World) (h : wire_Fields.f k a0 = some r) :
  Calls Try.prog 18 #[.int .i64 a0] w fun e w' => e = .returned (.string r) ∧ Drawn0 w w' := by
 have H : (if a0 = 2 then (wire_Fields.j0 k a0 (a0 == 2)) else (wire_Fields.j0 k a0 (a0 == 22))) = some r := h
 clear h
 have HC2 := Aside0.mk H
 clear H
 go_enter Try.func18, Try.ntmps18
 go_upto_if 4 with (fail)
 go_cut [4] (fun v4 wc => ∃ (kq : Nat) (x4_1 : Bool), v4 = .bool x4_1 ∧ Aside0 (wire_Fields.j0 kq a0 x4_1 = some r) ∧ Aside0 (kq ≤ k) ∧ Drawn0 w wc)
 case first =>
  have H := HC2.out
  clear HC2
  by_cases c3 : a0 = 2
  ·rw [if_pos c3] at H
   have c3b0 : (a0 == 2) = true := beq_iff_eq.mpr c3
   have c3b1 : (a0 != 2) = false := bne_eq_false_iff_eq.mpr c3
   clear c3
   (first | rw [c3b0] | (simp only [i64_w, i32_w]; rw [c3b0]) | skip)
   have H' := Aside0.mk H
   clear H
   go_wp2
   go_meet
   case rel => exact ⟨_, ((a0 == 2)), qi, H', ⟨by first | omega | exact Nat.le_refl _⟩, by repeat (first | exact Drawn0.refl _ | apply Drawn0.step)⟩
  ·rw [if_neg c3] at H
   have c3b0 : (a0 == 2) = false := beq_eq_false_iff_ne.mpr c3
   have c3b1 : (a0 != 2) = true := bne_iff_ne.mpr c3
   (first | rw [c3b0] | (simp only [i64_w, i32_w]; rw [c3b0]) | skip)
   have H' := Aside0.mk H
   clear H
   go_wp2
   go_meet
   case rel => exact ⟨_, ((a0 == 22)), qi, H', ⟨by first | omega | exact Nat.le_refl _⟩, by repeat (first | exact Drawn0.refl _ | apply Drawn0.step)⟩
 case rest =>
  clear HC2
  try clear c1
  try clear p2
  try clear c3
  try clear c3b0
  try clear c3b1
  obtain ⟨kq, x4_1, rfl, HA, HJ1, ⟨mc1, rfl⟩⟩ := hcut
  cases kq with
  | zero => exact absurd HA.out (by simp [wire_Fields.j0])
  | succ kj1 =>
   have H := HA.out
   clear HA
   simp only [wire_Fields.j0] at H
   by_cases c4 : x4_1 = true
   ·subst c4
    have H1 : (some (⟨#[73]⟩ : ByteArray)) = some r := by rw [if_pos rfl] at H; exact H
    clear H
    have H := H1
    clear H1
    obtain rfl := Option.some.inj H
    go_wp2
    go_ret
    exact ⟨by first | rfl | (simp; done) | (simp [*]; done), by repeat (first | exact Drawn0.refl _ | apply Drawn0.step)⟩
   ·replace c4 := Bool.eq_false_iff.mpr c4
    subst c4
    have H1 : (if a0 = 3 then (wire_Fields.j1 kj1 a0 (a0 == 3)) else (if a0 = 4 then (wire_Fields.j1 kj1 a0 (a0 == 4)) else (wire_Fields.j1 kj1 a0 (a0 == 7)))) = some r := by rw [if_neg (show ¬ (false = true) by decide)] at H; exact H
    clear H
    have H := H1
    clear H1
    have HC5 := Aside0.mk H
    clear H
    go_upto_if 7 with (fail)
    go_cut [7] (fun v7 wc => ∃ (kq : Nat) (x7_4 : Bool), v7 = .bool x7_4 ∧ Aside0 (wire_Fields.j1 kq a0 x7_4 = some r) ∧ Aside0 (kq ≤ kj1) ∧ Drawn0 w wc)
    case first =>
     have H := HC5.out
     clear HC5
     by_cases c6 : a0 = 3
     ·rw [if_pos c6] at H
      have c6b0 : (a0 == 3) = true := beq_iff_eq.mpr c6
      have c6b1 : (a0 != 3) = false := bne_eq_false_iff_eq.mpr c6
      clear c6
      (first | rw [c6b0] | (simp only [i64_w, i32_w]; rw [c6b0]) | skip)
      have H' := Aside0.mk H
      clear H
      go_wp2
      go_meet
      case rel => exact ⟨_, ((a0 == 3)), qi, H', ⟨by have := HJ1.out; first | omega | exact Nat.le_refl _⟩, by repeat (first | exact Drawn0.refl _ | apply Drawn0.step)⟩
     ·rw [if_neg c6] at H
      have c6b0 : (a0 == 3) = false := beq_eq_false_iff_ne.mpr c6
      have c6b1 : (a0 != 3) = true := bne_iff_ne.mpr c6
      (first | rw [c6b0] | (simp only [i64_w, i32_w]; rw [c6b0]) | skip)
      by_cases c7 : a0 = 4
      ·rw [if_pos c7] at H
       have c7b0 : (a0 == 4) = true := beq_iff_eq.mpr c7
       have c7b1 : (a0 != 4) = false := bne_eq_false_iff_eq.mpr c7
       clear c7
       have H' := Aside0.mk H
       clear H
       go_wp2
       go_meet
       case rel => exact ⟨_, ((a0 == 4)), qi, H', ⟨by have := HJ1.out; first | omega | exact Nat.le_refl _⟩, by repeat (first | exact Drawn0.refl _ | apply Drawn0.step)⟩
      ·rw [if_neg c7] at H
       have c7b0 : (a0 == 4) = false := beq_eq_false_iff_ne.mpr c7
       have c7b1 : (a0 != 4) = true := bne_iff_ne.mpr c7
       have H' := Aside0.mk H
       clear H
       go_wp2
       go_meet
       case rel => exact ⟨_, ((a0 == 7)), qi, H', ⟨by have := HJ1.out; first | omega | exact Nat.le_refl _⟩, by repeat (first | exact Drawn0.refl _ | apply Drawn0.step)⟩
    case rest =>
     clear HC5
     try clear c1
     try clear p2
     try clear c3
     try clear c3b0
     try clear c3b1
     try clear c4
     try clear c6
     try clear c6b0
     try clear c6b1
     try clear c7
     try clear c7b0
     try clear c7b1
     try clear p2
     obtain ⟨kq, x7_4, rfl, HA, HJ4, ⟨mc4, rfl⟩⟩ := hcut
     cases kq with
     | zero => exact absurd HA.out (by simp [wire_Fields.j1])
     | succ kj4 =>
      have H := HA.out
      clear HA
      simp only [wire_Fields.j1] at H
      by_cases c8 : x7_4 = true
      ·subst c8
       have H1 : (some (⟨#[83]⟩ : ByteArray)) = some r := by rw [if_pos rfl] at H; exact H
       clear H
       have H := H1
       clear H1
       obtain rfl := Option.some.inj H
       go_wp2
       go_ret
       exact ⟨by first | rfl | (simp; done) | (simp [*]; done), by repeat (first | exact Drawn0.refl _ | apply Drawn0.step)⟩
      ·replace c8 := Bool.eq_false_iff.mpr c8
       subst c8
       have H1 : (if a0 = 5 then (wire_Fields.j2 kj4 a0 (a0 == 5)) else (if a0 = 6 then (wire_Fields.j2 kj4 a0 (a0 == 6)) else (if a0 = 9 then (wire_Fields.j2 kj4 a0 (a0 == 9)) else (wire_Fields.j2 kj4 a0 (a0 == 20))))) = some r := by rw [if_neg (show ¬ (false = true) by decide)] at H; exact H
       clear H
       have H := H1
       clear H1
       have HC9 := Aside0.mk H
       clear H
       go_upto_if 11 with (fail)
       go_cut [11] (fun v11 wc => ∃ (kq : Nat) (x11_8 : Bool), v11 = .bool x11_8 ∧ Aside0 (wire_Fields.j2 kq a0 x11_8 = some r) ∧ Aside0 (kq ≤ kj4) ∧ Drawn0 w wc)
       case first =>
        have H := HC9.out
        clear HC9
        by_cases c10 : a0 = 5
        ·rw [if_pos c10] at H
         have c10b0 : (a0 == 5) = true := beq_iff_eq.mpr c10
         have c10b1 : (a0 != 5) = false := bne_eq_false_iff_eq.mpr c10
         clear c10
         (first | rw [c10b0] | (simp only [i64_w, i32_w]; rw [c10b0]) | skip)
         have H' := Aside0.mk H
         clear H
         go_wp2
         go_meet
         case rel => exact ⟨_, ((a0 == 5)), qi, H', ⟨by have := HJ1.out; have := HJ4.out; first | omega | exact Nat.le_refl _⟩, by repeat (first | exact Drawn0.refl _ | apply Drawn0.step)⟩
        ·rw [if_neg c10] at H
         have c10b0 : (a0 == 5) = false := beq_eq_false_iff_ne.mpr c10
         have c10b1 : (a0 != 5) = true := bne_iff_ne.mpr c10
         (first | rw [c10b0] | (simp only [i64_w, i32_w]; rw [c10b0]) | skip)
         by_cases c11 : a0 = 6
         ·rw [if_pos c11] at H
          have c11b0 : (a0 == 6) = true := beq_iff_eq.mpr c11
          have c11b1 : (a0 != 6) = false := bne_eq_false_iff_eq.mpr c11
          clear c11
          have H' := Aside0.mk H
          clear H
          go_wp2
          go_meet
          case rel => exact ⟨_, ((a0 == 6)), qi, H', ⟨by have := HJ1.out; have := HJ4.out; first | omega | exact Nat.le_refl _⟩, by repeat (first | exact Drawn0.refl _ | apply Drawn0.step)⟩
         ·rw [if_neg c11] at H
          have c11b0 : (a0 == 6) = false := beq_eq_false_iff_ne.mpr c11
          have c11b1 : (a0 != 6) = true := bne_iff_ne.mpr c11
          by_cases c12 : a0 = 9
          ·rw [if_pos c12] at H
           have c12b0 : (a0 == 9) = true := beq_iff_eq.mpr c12
           have c12b1 : (a0 != 9) = false := bne_eq_false_iff_eq.mpr c12
           clear c12
           have H' := Aside0.mk H
           clear H
           go_wp2
           go_meet
           case rel => exact ⟨_, ((a0 == 9)), qi, H', ⟨by have := HJ1.out; have := HJ4.out; first | omega | exact Nat.le_refl _⟩, by repeat (first | exact Drawn0.refl _ | apply Drawn0.step)⟩
          ·rw [if_neg c12] at H
           have c12b0 : (a0 == 9) = false := beq_eq_false_iff_ne.mpr c12
           have c12b1 : (a0 != 9) = true := bne_iff_ne.mpr c12
           have H' := Aside0.mk H
           clear H
           go_wp2
           go_meet
           case rel => exact ⟨_, ((a0 == 20)), qi, H', ⟨by have := HJ1.out; have := HJ4.out; first | omega | exact Nat.le_refl _⟩, by repeat (first | exact Drawn0.refl _ | apply Drawn0.step)⟩
       case rest =>
        clear HC9
        try clear c1
        try clear p2
        try clear c3
        try clear c3b0
        try clear c3b1
        try clear c4
        try clear c6
        try clear c6b0
        try clear c6b1
        try clear c7
        try clear c7b0
        try clear c7b1
        try clear c8
        try clear c10
        try clear c10b0
        try clear c10b1
        try clear c11
        try clear c11b0
        try clear c11b1
        try clear c12
        try clear c12b0
        try clear c12b1
        try clear p2
        obtain ⟨kq, x11_8, rfl, HA, HJ8, ⟨mc8, rfl⟩⟩ := hcut
        cases kq with
        | zero => exact absurd HA.out (by simp [wire_Fields.j2])
        | succ kj8 =>
         have H := HA.out
         clear HA
         simp only [wire_Fields.j2] at H
         by_cases c13 : x11_8 = true
         ·subst c13
          have H1 : (some (⟨#[83, 66]⟩ : ByteArray)) = some r := by rw [if_pos rfl] at H; exact H
          clear H
          have H := H1
          clear H1
          obtain rfl := Option.some.inj H
          go_wp2
          go_ret
          exact ⟨by first | rfl | (simp; done) | (simp [*]; done), by repeat (first | exact Drawn0.refl _ | apply Drawn0.step)⟩
         ·replace c13 := Bool.eq_false_iff.mpr c13
          subst c13
          have H1 : (if a0 = 8 then (some (⟨#[83, 66, 78]⟩ : ByteArray)) else (if a0 = 10 then (some (⟨#[83, 66, 79, 67, 88]⟩ : ByteArray)) else (if a0 = 11 then (wire_Fields.j3 kj8 a0 (a0 == 11)) else (if a0 = 12 then (wire_Fields.j3 kj8 a0 (a0 == 12)) else (wire_Fields.j3 kj8 a0 (a0 == 13)))))) = some r := by rw [if_neg (show ¬ (false = true) by decide)] at H; exact H
          clear H
          have H := H1
          clear H1
          by_cases c14 : a0 = 8
          ·rw [if_pos c14] at H
           have c14b0 : (a0 == 8) = true := beq_iff_eq.mpr c14
           have c14b1 : (a0 != 8) = false := bne_eq_false_iff_eq.mpr c14
           clear c14
           obtain rfl := Option.some.inj H
           go_wp2
           go_ret
           exact ⟨by first | rfl | (simp; done) | (simp [*]; done), by repeat (first | exact Drawn0.refl _ | apply Drawn0.step)⟩
          ·rw [if_neg c14] at H
           have c14b0 : (a0 == 8) = false := beq_eq_false_iff_ne.mpr c14
           have c14b1 : (a0 != 8) = true := bne_iff_ne.mpr c14
           by_cases c15 : a0 = 10
           ·rw [if_pos c15] at H
            have c15b0 : (a0 == 10) = true := beq_iff_eq.mpr c15
            have c15b1 : (a0 != 10) = false := bne_eq_false_iff_eq.mpr c15
            clear c15
            obtain rfl := Option.some.inj H
            go_wp2
            go_ret
            exact ⟨by first | rfl | (simp; done) | (simp [*]; done), by repeat (first | exact Drawn0.refl _ | apply Drawn0.step)⟩
           ·rw [if_neg c15] at H
            have c15b0 : (a0 == 10) = false := beq_eq_false_iff_ne.mpr c15
            have c15b1 : (a0 != 10) = true := bne_iff_ne.mpr c15
            have HC16 := Aside0.mk H
            clear H
            go_upto_if 20 with (fail)
            go_cut [20] (fun v20 wc => ∃ (kq : Nat) (x20_15 : Bool), v20 = .bool x20_15 ∧ Aside0 (wire_Fields.j3 kq a0 x20_15 = some r) ∧ Aside0 (kq ≤ kj8) ∧ Drawn0 w wc)
            case first =>
             have H := HC16.out
             clear HC16
             by_cases c17 : a0 = 11
             ·rw [if_pos c17] at H
              have c17b0 : (a0 == 11) = true := beq_iff_eq.mpr c17
              have c17b1 : (a0 != 11) = false := bne_eq_false_iff_eq.mpr c17
              clear c17
              (first | rw [c17b0] | (simp only [i64_w, i32_w]; rw [c17b0]) | skip)
              have H' := Aside0.mk H
              clear H
              go_wp2
              go_meet
              case rel => exact ⟨_, ((a0 == 11)), qi, H', ⟨by have := HJ1.out; have := HJ4.out; have := HJ8.out; first | omega | exact Nat.le_refl _⟩, by repeat (first | exact Drawn0.refl _ | apply Drawn0.step)⟩
             ·rw [if_neg c17] at H
              have c17b0 : (a0 == 11) = false := beq_eq_false_iff_ne.mpr c17
              have c17b1 : (a0 != 11) = true := bne_iff_ne.mpr c17
              (first | rw [c17b0] | (simp only [i64_w, i32_w]; rw [c17b0]) | skip)
              by_cases c18 : a0 = 12
              ·rw [if_pos c18] at H
               have c18b0 : (a0 == 12) = true := beq_iff_eq.mpr c18
               have c18b1 : (a0 != 12) = false := bne_eq_false_iff_eq.mpr c18
               clear c18
               have H' := Aside0.mk H
               clear H
               go_wp2
               go_meet
               case rel => exact ⟨_, ((a0 == 12)), qi, H', ⟨by have := HJ1.out; have := HJ4.out; have := HJ8.out; first | omega | exact Nat.le_refl _⟩, by repeat (first | exact Drawn0.refl _ | apply Drawn0.step)⟩
              ·rw [if_neg c18] at H
               have c18b0 : (a0 == 12) = false := beq_eq_false_iff_ne.mpr c18
               have c18b1 : (a0 != 12) = true := bne_iff_ne.mpr c18
               have H' := Aside0.mk H
               clear H
               go_wp2
               go_meet
               case rel => exact ⟨_, ((a0 == 13)), qi, H', ⟨by have := HJ1.out; have := HJ4.out; have := HJ8.out; first | omega | exact Nat.le_refl _⟩, by repeat (first | exact Drawn0.refl _ | apply Drawn0.step)⟩
            case rest =>
             clear HC16
             try clear c1
             try clear p2
             try clear c3
             try clear c3b0
             try clear c3b1
             try clear c4
             try clear c6
             try clear c6b0
             try clear c6b1
             try clear c7
             try clear c7b0
             try clear c7b1
             try clear c8
             try clear c10
             try clear c10b0
             try clear c10b1
             try clear c11
             try clear c11b0
             try clear c11b1
             try clear c12
             try clear c12b0
             try clear c12b1
             try clear c13
             try clear c14
             try clear c14b0
             try clear c14b1
             try clear c15
             try clear c15b0
             try clear c15b1
             try clear c17
             try clear c17b0
             try clear c17b1
             try clear c18
             try clear c18b0
             try clear c18b1
             try clear p2
             obtain ⟨kq, x20_15, rfl, HA, HJ15, ⟨mc15, rfl⟩⟩ := hcut
             cases kq with
             | zero => exact absurd HA.out (by simp [wire_Fields.j3])
             | succ kj15 =>
              have H := HA.out
              clear HA
              simp only [wire_Fields.j3] at H
              by_cases c19 : x20_15 = true
              ·subst c19
               have H1 : (some (⟨#[83, 66, 79, 86]⟩ : ByteArray)) = some r := by rw [if_pos rfl] at H; exact H
               clear H
               have H := H1
               clear H1
               obtain rfl := Option.some.inj H
               go_wp2
               go_ret
               exact ⟨by first | rfl | (simp; done) | (simp [*]; done), by repeat (first | exact Drawn0.refl _ | apply Drawn0.step)⟩
              ·replace c19 := Bool.eq_false_iff.mpr c19
               subst c19
               have H1 : (if a0 = 14 then (some (⟨#[83, 66, 79, 80, 68, 78]⟩ : ByteArray)) else (if a0 = 15 then (some (⟨#[83, 66, 79, 80, 73, 78]⟩ : ByteArray)) else (if a0 = 16 then (some (⟨#[83, 66, 79]⟩ : ByteArray)) else (if a0 = 17 then (some (⟨#[83, 66, 79, 73, 78, 88]⟩ : ByteArray)) else (if a0 = 18 then (some (⟨#[83, 66, 79, 73, 76]⟩ : ByteArray)) else (if a0 = 19 then (some (⟨#[83, 66, 79, 73]⟩ : ByteArray)) else (if a0 = 21 then (some (⟨#[83, 66, 79, 73]⟩ : ByteArray)) else (some (⟨#[]⟩ : ByteArray))))))))) = some r := by rw [if_neg (show ¬ (false = true) by decide)] at H; exact H
               clear H
               have H := H1
               clear H1
               by_cases c20 : a0 = 14
               ·rw [if_pos c20] at H
                have c20b0 : (a0 == 14) = true := beq_iff_eq.mpr c20
                have c20b1 : (a0 != 14) = false := bne_eq_false_iff_eq.mpr c20
                clear c20
                obtain rfl := Option.some.inj H
                go_wp2
                go_ret
                exact ⟨by first | rfl | (simp; done) | (simp [*]; done), by repeat (first | exact Drawn0.refl _ | apply Drawn0.step)⟩
               ·rw [if_neg c20] at H
                have c20b0 : (a0 == 14) = false := beq_eq_false_iff_ne.mpr c20
                have c20b1 : (a0 != 14) = true := bne_iff_ne.mpr c20
                by_cases c21 : a0 = 15
                ·rw [if_pos c21] at H
                 have c21b0 : (a0 == 15) = true := beq_iff_eq.mpr c21
                 have c21b1 : (a0 != 15) = false := bne_eq_false_iff_eq.mpr c21
                 clear c21
                 obtain rfl := Option.some.inj H
                 go_wp2
                 go_ret
                 exact ⟨by first | rfl | (simp; done) | (simp [*]; done), by repeat (first | exact Drawn0.refl _ | apply Drawn0.step)⟩
                ·rw [if_neg c21] at H
                 have c21b0 : (a0 == 15) = false := beq_eq_false_iff_ne.mpr c21
                 have c21b1 : (a0 != 15) = true := bne_iff_ne.mpr c21
                 by_cases c22 : a0 = 16
                 ·rw [if_pos c22] at H
                  have c22b0 : (a0 == 16) = true := beq_iff_eq.mpr c22
                  have c22b1 : (a0 != 16) = false := bne_eq_false_iff_eq.mpr c22
                  clear c22
                  obtain rfl := Option.some.inj H
                  go_wp2
                  go_ret
                  exact ⟨by first | rfl | (simp; done) | (simp [*]; done), by repeat (first | exact Drawn0.refl _ | apply Drawn0.step)⟩
                 ·rw [if_neg c22] at H
                  have c22b0 : (a0 == 16) = false := beq_eq_false_iff_ne.mpr c22
                  have c22b1 : (a0 != 16) = true := bne_iff_ne.mpr c22
                  by_cases c23 : a0 = 17
                  ·rw [if_pos c23] at H
                   have c23b0 : (a0 == 17) = true := beq_iff_eq.mpr c23
                   have c23b1 : (a0 != 17) = false := bne_eq_false_iff_eq.mpr c23
                   clear c23
                   obtain rfl := Option.some.inj H
                   go_wp2
                   go_ret
                   exact ⟨by first | rfl | (simp; done) | (simp [*]; done), by repeat (first | exact Drawn0.refl _ | apply Drawn0.step)⟩
                  ·rw [if_neg c23] at H
                   have c23b0 : (a0 == 17) = false := beq_eq_false_iff_ne.mpr c23
                   have c23b1 : (a0 != 17) = true := bne_iff_ne.mpr c23
                   by_cases c24 : a0 = 18
                   ·rw [if_pos c24] at H
                    have c24b0 : (a0 == 18) = true := beq_iff_eq.mpr c24
                    have c24b1 : (a0 != 18) = false := bne_eq_false_iff_eq.mpr c24
                    clear c24
                    obtain rfl := Option.some.inj H
                    go_wp2
                    go_ret
                    exact ⟨by first | rfl | (simp; done) | (simp [*]; done), by repeat (first | exact Drawn0.refl _ | apply Drawn0.step)⟩
                   ·rw [if_neg c24] at H
                    have c24b0 : (a0 == 18) = false := beq_eq_false_iff_ne.mpr c24
                    have c24b1 : (a0 != 18) = true := bne_iff_ne.mpr c24
                    by_cases c25 : a0 = 19
                    ·rw [if_pos c25] at H
                     have c25b0 : (a0 == 19) = true := beq_iff_eq.mpr c25
                     have c25b1 : (a0 != 19) = false := bne_eq_false_iff_eq.mpr c25
                     clear c25
                     obtain rfl := Option.some.inj H
                     go_wp2
                     go_ret
                     exact ⟨by first | rfl | (simp; done) | (simp [*]; done), by repeat (first | exact Drawn0.refl _ | apply Drawn0.step)⟩
                    ·rw [if_neg c25] at H
                     have c25b0 : (a0 == 19) = false := beq_eq_false_iff_ne.mpr c25
                     have c25b1 : (a0 != 19) = true := bne_iff_ne.mpr c25
                     by_cases c26 : a0 = 21
                     ·rw [if_pos c26] at H
                      have c26b0 : (a0 == 21) = true := beq_iff_eq.mpr c26
                      have c26b1 : (a0 != 21) = false := bne_eq_false_iff_eq.mpr c26
                      clear c26
                      obtain rfl := Option.some.inj H
                      go_wp2
                      go_ret
                      exact ⟨by first | rfl | (simp; done) | (simp [*]; done), by repeat (first | exact Drawn0.refl _ | apply Drawn0.step)⟩
                     ·rw [if_neg c26] at H
                      have c26b0 : (a0 == 21) = false := beq_eq_false_iff_ne.mpr c26
                      have c26b1 : (a0 != 21) = true := bne_iff_ne.mpr c26
                      obtain rfl := Option.some.inj H
                      go_wp2
                      go_ret
                      exact ⟨by first | rfl | (simp; done) | (simp [*]; done), by repeat (first | exact Drawn0.refl _ | apply Drawn0.step)⟩
def wire_among.f (a0 : Int) (a1 : Int) : Option (Bool) := if a0 ≥ 0 then (some (decide (a0 ≤ a1))) else (some false)
set_option maxHeartbeats 8000000 in
set_option maxRecDepth 100000 in
theorem wire_among.calls (a0 : Int) (a1 : Int) (r : Bool) (w : World) (h : wire_among.f a0 a1 = some r) :
  Calls Try.prog 73 #[.int .i64 a0, .int .i64 a1] w fun e w' => e = .returned (.bool r) ∧ Drawn0 w w' := by
 have H : (if a0 ≥ 0 then (some (decide (a0 ≤ a1))) else (some false)) = some r := h
 clear h
 by_cases c3 : a0 ≥ 0
 ·rw [if_pos c3] at H
  have c3b0 : decide (0 ≤ a0) = true := decide_eq_true c3
  clear c3
  obtain rfl := Option.some.inj H
  go_enter Try.func73, Try.ntmps73
  go_wp2
  go_ret
  exact ⟨by first | rfl | (simp; done) | (simp [*]; done), by repeat (first | exact Drawn0.refl _ | apply Drawn0.step)⟩
 ·rw [if_neg c3] at H
  have c3b0 : decide (0 ≤ a0) = false := decide_eq_false c3
  clear c3
  obtain rfl := Option.some.inj H
  go_enter Try.func73, Try.ntmps73
  go_wp2
  go_ret
  exact ⟨by first | rfl | (simp; done) | (simp [*]; done), by repeat (first | exact Drawn0.refl _ | apply Drawn0.step)⟩
def wire_fits_1.f (a0 : ByteArray) : Option (Bool) := some (decide ((a0.size : Int) > 255))
set_option maxHeartbeats 8000000 in
set_option maxRecDepth 100000 in
theorem wire_fits_1.calls (a0 : ByteArray) (r : Bool) (w : World) (h : wire_fits_1.f a0 = some r) :
  Calls Try.prog 71 #[.string a0] w fun e w' => e = .returned (.bool r) ∧ Drawn0 w w' := by
 have H : (some (decide ((a0.size : Int) > 255))) = some r := h
 clear h
 obtain rfl := Option.some.inj H
 go_enter Try.func71, Try.ntmps71
 go_wp2
 go_ret
 exact ⟨by first | rfl | (simp; done) | (simp [*]; done), by repeat (first | exact Drawn0.refl _ | apply Drawn0.step)⟩
def wire_texts_1.f (a0 : ByteArray) : Option (Bool) := some (decide ((a0.size : Int) > 1048576))
set_option maxHeartbeats 8000000 in
set_option maxRecDepth 100000 in
theorem wire_texts_1.calls (a0 : ByteArray) (r : Bool) (w : World) (h : wire_texts_1.f a0 = some r) :
  Calls Try.prog 109 #[.string a0] w fun e w' => e = .returned (.bool r) ∧ Drawn0 w w' := by
 have H : (some (decide ((a0.size : Int) > 1048576))) = some r := h
 clear h
 obtain rfl := Option.some.inj H
 go_enter Try.func109, Try.ntmps109
 go_wp2
 go_ret
 exact ⟨by first | rfl | (simp; done) | (simp [*]; done), by repeat (first | exact Drawn0.refl _ | apply Drawn0.step)⟩
theorem slices_ContainsFunc_string_string.getS (l : List ByteArray) (j : Nat) (h : j < l.length) : rdOf ByteArray.empty l (j : Int) = l[j] := by unfold rdOf; rw [Int.toNat_natCast, List.getD_eq_getElem?_getD, List.getElem?_eq_getElem h]; rfl
theorem slices_ContainsFunc_string_string.memS (l : List ByteArray) (j : Nat) (h : j < l.length) : rdOf ByteArray.empty l (j : Int) ∈ l := by rw [slices_ContainsFunc_string_string.getS l j h]; exact List.getElem_mem h
def slices_ContainsFunc_string_string.At (c : Bool) (w : World) (e : Ending) (w' : World) : Prop := ∃ i : Int, e = .returned (.int .i64 i) ∧ decide (0 ≤ i) = c ∧ Drawn0 w w'
set_option maxHeartbeats 2000000 in
theorem slices_ContainsFunc_string_string.idx (g : Nat) (p : ByteArray → Bool) (eg : ∀ args w, (callFunc g args).run Try.prog w = .ok (.enter g args) w) (hp : ∀ s w, Calls Try.prog g #[.string s] w fun e w' => e = .returned (.bool (p s)) ∧ Drawn0 w w')
  (A : Option Addr) (c : Nat) (l : List ByteArray) (w : World) (hC : Kd.C Kd.string w A l.length l) :
  Calls Try.prog 107 #[.slice A l.length c, .func (.func g) #[] #[]] w (slices_ContainsFunc_string_string.At (l.any p) w) := by
 have hb := hC.2.1
 have HC := Aside0.mk hC
 clear hC
 go_enter Try.func107, Try.ntmps107
 go_wp2
 go_loopg [5, 8] l.length (fun gg _ s8 wr => ∃ kk q : Nat, kk ≤ l.length ∧ l.length - kk ≤ gg ∧ s8 = .int .i64 kk ∧ wr = w.drewN q ∧ Aside0 (∀ j, j < kk → p (rdOf ByteArray.empty l (j : Int)) = false))
 case atStart => exact ⟨0, 0, Nat.zero_le _, by omega, rfl, rfl, ⟨fun j hj => absurd hj (Nat.not_lt_zero _)⟩⟩
 case round =>
  obtain ⟨kk, q, hkk, hg, rfl, rfl, HA⟩ := hrel
  by_cases hlt : kk < l.length
  ·have hltz : (kk : Int) < (l.length : Int) := by omega
   obtain ⟨ad, rfl, hcell⟩ := Kd.at_string HC.out (kk : Int) (by omega) (by omega)
   rw [Int.toNat_natCast] at hcell
   obtain ⟨y, hy⟩ : ∃ y, rdOf ByteArray.empty l (kk : Int) = y := ⟨_, rfl⟩
   rw [hy] at hcell
   have HY := Aside0.mk hy
   clear hy
   have hcall := hp y
   cases hq : p y with
   | true =>
    rw [hq] at hcall
    go_wp2_with fail
    refine (hcall _).mono ?_
    rintro e w' ⟨rfl, ⟨q', rfl⟩⟩
    go_wp2
    go_ret
    refine ⟨_, rfl, ?_, by repeat (first | exact Drawn0.refl _ | apply Drawn0.step)⟩
    have hm : l.any p = true := by
     rw [List.any_eq_true]
     refine ⟨y, ?_, hq⟩
     rw [← HY.out]
     exact slices_ContainsFunc_string_string.memS l kk hlt
    rw [hm]
    simp
   | false =>
    rw [hq] at hcall
    go_wp2_with fail
    refine (hcall _).mono ?_
    rintro e w' ⟨rfl, ⟨q', rfl⟩⟩
    go_wp2
    go_roundg (l.length - (kk + 1))
    case measure => omega
    case rel =>
     refine ⟨kk + 1, _, by omega, by omega, by go_num, rfl, ⟨fun j hj => ?_⟩⟩
     by_cases e : j = kk
     ·subst e
      rw [HY.out]; exact hq
     ·exact HA.out j (by omega)
  ·have hltz : ¬ (kk : Int) < (l.length : Int) := by omega
   have : kk = l.length := by omega
   subst this
   go_wp2
   go_ret
   refine ⟨_, rfl, ?_, by repeat (first | exact Drawn0.refl _ | apply Drawn0.step)⟩
   have hm : l.any p = false := by
    rw [List.any_eq_false]
    intro y hy
    obtain ⟨j, hj, rfl⟩ := List.getElem_of_mem hy
    have := HA.out j hj
    rw [slices_ContainsFunc_string_string.getS l j hj] at this
    simp [this]
   rw [hm]
   rfl
theorem slices_ContainsFunc_string_string.con (g : Nat) (p : ByteArray → Bool) (eg : ∀ args w, (callFunc g args).run Try.prog w = .ok (.enter g args) w) (hp : ∀ s w, Calls Try.prog g #[.string s] w fun e w' => e = .returned (.bool (p s)) ∧ Drawn0 w w')
  (A : Option Addr) (c : Nat) (l : List ByteArray) (w : World) (hC : Kd.C Kd.string w A l.length l) :
  Calls Try.prog 74 #[.slice A l.length c, .func (.func g) #[] #[]] w fun e w' => e = .returned (.bool (l.any p)) ∧ Drawn0 w w' := by
 have h := slices_ContainsFunc_string_string.idx g p eg hp A c l w hC
 clear hC hp
 generalize l.any p = b at h
 go_enter Try.func74, Try.ntmps74
 go_wp2_with (go_at_call 107; refine h.mono ?_; rintro e w' ⟨i, rfl, hi, ⟨q', rfl⟩⟩)
 go_ret
 exact ⟨by first | rfl | (rw [← hi]; simp; done) | (simp [← hi]; done), ⟨_, rfl⟩⟩
def slices_ContainsFunc_string_string.p (n : Nat) (s : ByteArray) : Bool := if n = 71 then decide ((s.size : Int) > 255) else decide ((s.size : Int) > 1048576)
def slices_ContainsFunc_string_string.f (l : List ByteArray) (n : Nat) : Option Bool := if n = 71 ∨ n = 109 then some (l.any (slices_ContainsFunc_string_string.p n)) else none
theorem slices_ContainsFunc_string_string.calls (A0 : Option Addr) (c0 : Nat) (l0 : List ByteArray) (n : Nat) (r : Bool) (w : World) (hr0 : Kd.C Kd.string w A0 l0.length l0) (hc0 : l0.length ≤ c0) (h : slices_ContainsFunc_string_string.f l0 n = some r) :
  Calls Try.prog 74 #[.slice A0 l0.length c0, .func (.func n) #[] #[]] w fun e w' => e = .returned (.bool r) ∧ Drawn0 w w' := by
 unfold slices_ContainsFunc_string_string.f at h
 split at h
 ·rename_i hn
  obtain rfl := Option.some.inj h
  rcases hn with rfl | rfl
  ·exact slices_ContainsFunc_string_string.con _ (slices_ContainsFunc_string_string.p _) (enters_of Try.func71 (by kernel_rfl) rfl) (fun s w => wire_fits_1.calls s _ w rfl) A0 c0 l0 w hr0
  ·exact slices_ContainsFunc_string_string.con _ (slices_ContainsFunc_string_string.p _) (enters_of Try.func109 (by kernel_rfl) rfl) (fun s w => wire_texts_1.calls s _ w rfl) A0 c0 l0 w hr0
 ·cases h
def wire_fits_2.f (a0 : Int) : Option (Bool) := (wire_among.f a0 255).bind fun t101 => (some (!t101))
set_option maxHeartbeats 8000000 in
set_option maxRecDepth 100000 in
theorem wire_fits_2.calls (a0 : Int) (r : Bool) (w : World) (h : wire_fits_2.f a0 = some r) :
  Calls Try.prog 72 #[.int .i64 a0] w fun e w' => e = .returned (.bool r) ∧ Drawn0 w w' := by
 have H : ((wire_among.f a0 255).bind fun t101 => (some (!t101))) = some r := h
 clear h
 replace H := Option.bind_eq_some_iff.mp H
 obtain ⟨t101, A20, H⟩ := H
 replace H : (some (!t101)) = some r := H
 have A2 := Aside0.mk A20
 clear A20
 obtain rfl := Option.some.inj H
 go_enter Try.func72, Try.ntmps72
 go_wp2_with (first | ((with_reducible refine gate_callee (f := 73) rfl ?_); refine goesL_ (some 4) rfl rfl Try.func73 (by kernel_rfl) rfl #[.int .i64 a0, .int .i64 255] rfl qb ?_; (with_reducible refine (wire_among.calls a0 255 t101 _ A2.out).mono ?_); rintro e w' ⟨rfl, ⟨nd, rfl⟩⟩; refine ⟨_, rfl, ?_⟩))
 go_ret
 exact ⟨by first | rfl | (simp; done) | (simp [*]; done), by repeat (first | exact Drawn0.refl _ | apply Drawn0.step)⟩
theorem slices_ContainsFunc_int_int.getI (l : List Int) (j : Nat) (h : j < l.length) : rd l (j : Int) = l[j] := by unfold rd; rw [Int.toNat_natCast, List.getD_eq_getElem?_getD, List.getElem?_eq_getElem h]; rfl
theorem slices_ContainsFunc_int_int.memI (l : List Int) (j : Nat) (h : j < l.length) : rd l (j : Int) ∈ l := by rw [slices_ContainsFunc_int_int.getI l j h]; exact List.getElem_mem h
def slices_ContainsFunc_int_int.At (c : Bool) (w : World) (e : Ending) (w' : World) : Prop := ∃ i : Int, e = .returned (.int .i64 i) ∧ decide (0 ≤ i) = c ∧ Drawn0 w w'
set_option maxHeartbeats 2000000 in
theorem slices_ContainsFunc_int_int.idx (g : Nat) (p : Int → Bool) (eg : ∀ args w, (callFunc g args).run Try.prog w = .ok (.enter g args) w) (hp : ∀ s w, Calls Try.prog g #[.int .i64 s] w fun e w' => e = .returned (.bool (p s)) ∧ Drawn0 w w')
  (A : Option Addr) (c : Nat) (l : List Int) (w : World) (hC : Kd.C (Kd.int .i64) w A l.length l) :
  Calls Try.prog 108 #[.slice A l.length c, .func (.func g) #[] #[]] w (slices_ContainsFunc_int_int.At (l.any p) w) := by
 have hb := hC.2.1
 have HC := Aside0.mk hC
 clear hC
 go_enter Try.func108, Try.ntmps108
 go_wp2
 go_loopg [5, 8] l.length (fun gg _ s8 wr => ∃ kk q : Nat, kk ≤ l.length ∧ l.length - kk ≤ gg ∧ s8 = .int .i64 kk ∧ wr = w.drewN q ∧ Aside0 (∀ j, j < kk → p (rd l (j : Int)) = false))
 case atStart => exact ⟨0, 0, Nat.zero_le _, by omega, rfl, rfl, ⟨fun j hj => absurd hj (Nat.not_lt_zero _)⟩⟩
 case round =>
  obtain ⟨kk, q, hkk, hg, rfl, rfl, HA⟩ := hrel
  by_cases hlt : kk < l.length
  ·have hltz : (kk : Int) < (l.length : Int) := by omega
   obtain ⟨ad, rfl, hcell⟩ := Kd.at_int HC.out (kk : Int) (by omega) (by omega)
   rw [Int.toNat_natCast] at hcell
   obtain ⟨y, hy⟩ : ∃ y, rd l (kk : Int) = y := ⟨_, rfl⟩
   rw [hy] at hcell
   have HY := Aside0.mk hy
   clear hy
   have hcall := hp y
   cases hq : p y with
   | true =>
    rw [hq] at hcall
    go_wp2_with fail
    refine (hcall _).mono ?_
    rintro e w' ⟨rfl, ⟨q', rfl⟩⟩
    go_wp2
    go_ret
    refine ⟨_, rfl, ?_, by repeat (first | exact Drawn0.refl _ | apply Drawn0.step)⟩
    have hm : l.any p = true := by
     rw [List.any_eq_true]
     refine ⟨y, ?_, hq⟩
     rw [← HY.out]
     exact slices_ContainsFunc_int_int.memI l kk hlt
    rw [hm]
    simp
   | false =>
    rw [hq] at hcall
    go_wp2_with fail
    refine (hcall _).mono ?_
    rintro e w' ⟨rfl, ⟨q', rfl⟩⟩
    go_wp2
    go_roundg (l.length - (kk + 1))
    case measure => omega
    case rel =>
     refine ⟨kk + 1, _, by omega, by omega, by go_num, rfl, ⟨fun j hj => ?_⟩⟩
     by_cases e : j = kk
     ·subst e
      rw [HY.out]; exact hq
     ·exact HA.out j (by omega)
  ·have hltz : ¬ (kk : Int) < (l.length : Int) := by omega
   have : kk = l.length := by omega
   subst this
   go_wp2
   go_ret
   refine ⟨_, rfl, ?_, by repeat (first | exact Drawn0.refl _ | apply Drawn0.step)⟩
   have hm : l.any p = false := by
    rw [List.any_eq_false]
    intro y hy
    obtain ⟨j, hj, rfl⟩ := List.getElem_of_mem hy
    have := HA.out j hj
    rw [slices_ContainsFunc_int_int.getI l j hj] at this
    simp [this]
   rw [hm]
   rfl
theorem slices_ContainsFunc_int_int.con (g : Nat) (p : Int → Bool) (eg : ∀ args w, (callFunc g args).run Try.prog w = .ok (.enter g args) w) (hp : ∀ s w, Calls Try.prog g #[.int .i64 s] w fun e w' => e = .returned (.bool (p s)) ∧ Drawn0 w w')
  (A : Option Addr) (c : Nat) (l : List Int) (w : World) (hC : Kd.C (Kd.int .i64) w A l.length l) :
  Calls Try.prog 75 #[.slice A l.length c, .func (.func g) #[] #[]] w fun e w' => e = .returned (.bool (l.any p)) ∧ Drawn0 w w' := by
 have h := slices_ContainsFunc_int_int.idx g p eg hp A c l w hC
 clear hC hp
 generalize l.any p = b at h
 go_enter Try.func75, Try.ntmps75
 go_wp2_with (go_at_call 108; refine h.mono ?_; rintro e w' ⟨i, rfl, hi, ⟨q', rfl⟩⟩)
 go_ret
 exact ⟨by first | rfl | (rw [← hi]; simp; done) | (simp [← hi]; done), ⟨_, rfl⟩⟩
def slices_ContainsFunc_int_int.f (l : List Int) (n : Nat) : Option Bool := if n = 72 then some (l.any fun x => !(decide (0 ≤ x ∧ x ≤ 255))) else none
theorem slices_ContainsFunc_int_int.calls (A0 : Option Addr) (c0 : Nat) (l0 : List Int) (n : Nat) (r : Bool) (w : World) (hr0 : Kd.C (Kd.int .i64) w A0 l0.length l0) (hc0 : l0.length ≤ c0) (h : slices_ContainsFunc_int_int.f l0 n = some r) :
  Calls Try.prog 75 #[.slice A0 l0.length c0, .func (.func n) #[] #[]] w fun e w' => e = .returned (.bool r) ∧ Drawn0 w w' := by
 unfold slices_ContainsFunc_int_int.f at h
 split at h
 ·rename_i hn
  subst hn
  obtain rfl := Option.some.inj h
  refine slices_ContainsFunc_int_int.con _ _ (enters_of Try.func72 (by kernel_rfl) rfl) (fun s w => wire_fits_2.calls s _ w ?_) A0 c0 l0 w hr0
  unfold wire_fits_2.f wire_among.f
  by_cases h1 : 0 ≤ s <;> by_cases h2 : s ≤ 255 <;> simp [h1, h2]
 ·cases h
def tagOk (re im : Int) : Bool := decide ((0 ≤ re ∧ re ≤ 1048572) ∧ 0 ≤ im ∧ im ≤ 1048572)
def tag_Check.f (a0_0 : Int) (a0_1 : Int) : Option (Int) := some (if tagOk a0_0 a0_1 = true then 0 else 2)
set_option maxHeartbeats 4000000 in
set_option maxRecDepth 100000 in
theorem tag_Check.calls (a0_0 : Int) (a0_1 : Int) (r : Int) (w : World) (h : tag_Check.f a0_0 a0_1 = some r) :
  Calls Try.prog 76 #[.agg #[.int .i64 a0_0, .int .i64 a0_1]] w fun e w' => e = .returned (.int .i64 r) ∧ Below w.heap.size w w' := by
 unfold tag_Check.f at h
 have h := Option.some.inj h
 have HN : Aside0 (¬ ((0 ≤ a0_0 ∧ a0_0 ≤ 1048572) ∧ 0 ≤ a0_1 ∧ a0_1 ≤ 1048572) → r = 2) := ⟨fun hn => by
  unfold tagOk at h
  rw [decide_eq_false hn, if_neg (by decide)] at h
  exact h.symm⟩
 have HY : Aside0 ((0 ≤ a0_0 ∧ a0_0 ≤ 1048572) ∧ 0 ≤ a0_1 ∧ a0_1 ≤ 1048572 → r = 0) := ⟨fun hn => by
  unfold tagOk at h
  rw [decide_eq_true hn, if_pos rfl] at h
  exact h.symm⟩
 clear h
 have i0 : ∀ w : World, (Instr.index 151 (.agg #[.int .i64 a0_0, .int .i64 a0_1]) (.int .i64 0)).run Try.prog w = .ok (.int .i64 a0_0) w := fun _ => by kernel_rfl
 have i1 : ∀ w : World, (Instr.index 151 (.agg #[.int .i64 a0_0, .int .i64 a0_1]) (.int .i64 1)).run Try.prog w = .ok (.int .i64 a0_1) w := fun _ => by kernel_rfl
 go_enter Try.func76, Try.ntmps76
 go_wp2
 go_loop [10] (fun i => (i = .int .i64 0) ∨ (i = .int .i64 1 ∧ Aside0 (0 ≤ a0_0 ∧ a0_0 ≤ 1048572)) ∨ (i = .int .i64 2 ∧ Aside0 ((0 ≤ a0_0 ∧ a0_0 ≤ 1048572) ∧ 0 ≤ a0_1 ∧ a0_1 ≤ 1048572))) (fun i => 2 - (intOf i).toNat)
 case atStart => exact .inl rfl
 case round =>
  rcases hrel with rfl | ⟨rfl, H1⟩ | ⟨rfl, H1⟩
  ·by_cases h1 : a0_0 < 0
   ·go_wp2
    go_ret
    obtain rfl := HN.out (by omega)
    exact ⟨rfl, (Below.refl _ _).alloc (Nat.le_refl _) _⟩
   ·by_cases h2 : 1048573 ≤ a0_0
    ·go_wp2
     go_ret
     obtain rfl := HN.out (by omega)
     exact ⟨rfl, (Below.refl _ _).alloc (Nat.le_refl _) _⟩
    ·go_wp2
     go_round
     case rel => exact .inr (.inl ⟨rfl, ⟨by omega⟩⟩)
     case measure => decide
  ·by_cases h1 : a0_1 < 0
   ·go_wp2
    go_ret
    obtain rfl := HN.out (by omega)
    exact ⟨rfl, (Below.refl _ _).alloc (Nat.le_refl _) _⟩
   ·by_cases h2 : 1048573 ≤ a0_1
    ·go_wp2
     go_ret
     obtain rfl := HN.out (by omega)
     exact ⟨rfl, (Below.refl _ _).alloc (Nat.le_refl _) _⟩
    ·go_wp2
     go_round
     case rel => exact .inr (.inr ⟨rfl, ⟨⟨H1.out, by omega⟩⟩⟩)
     case measure => decide
  ·go_wp2
   go_ret
   obtain rfl := HY.out H1.out
   exact ⟨rfl, (Below.refl _ _).alloc (Nat.le_refl _) _⟩
end Go.Proofs.Ytmdgdndidfcapaa.QB
