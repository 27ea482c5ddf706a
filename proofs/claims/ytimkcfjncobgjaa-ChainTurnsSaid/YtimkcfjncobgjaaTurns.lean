-- Printed by a program of this session (wip/tools): not by hand, and not by the kit's print.sh
import Derived.Test.YtimkcfjncobgjaaQCx0
import Derived.Test.YtimkcfjncobgjaaQCx1
import Derived.Test.YtimkcfjncobgjaaQCx4
import Derived.Test.YtimkcfjncobgjaaQCx5
import Derived.Test.YtimkcfjncobgjaaQCx9
namespace Go.Proofs.Ytimkcfjncobgjaa.QC
open Go.RowKit Go.Proofs.YtimkcfjncobgjaaW.PrintWords Go.Proofs.YtimkcfjncobgjaaW.PrintLast Go.Proofs.YtimkcfjncobgjaaW.PrintMore
attribute [local go_sem] max2_int min2_int max_two min_two max_three min_three max_four min_four   -- for this text's walks alone
set_option linter.unusedVariables false
set_option linter.unusedSimpArgs false

attribute [local go_sem high] eqA34
def z99 : S34 := ⟨99, (⟨#[]⟩ : ByteArray), false⟩
theorem cut_cap {P : Program} (t e : TypeId) (kh : IntKind) {i : TypeInfo} (ht : P.underlying t = some (.slice e)) (hi : P.info? e = some i) (A : Option Addr) (n c : Nat) (j : Int) (h0 : 0 ≤ j) (hm : j ≤ c) :
    ∀ W : World, (Instr.slice t (.slice A n c) none (some (.int kh j)) none).run P W = .ok (.slice A j.toNat c) W := by
  intro W
  have hel : P.elem t = e := by simp [Program.elem, ht]
  have hu : P.underlying t = some (.slice (P.elem t)) := by rw [hel]; exact ht
  have ha : (A.map fun x => x.add 0) = A := by cases A <;> simp [Addr.add]
  rw [run_slice_h W t A n c hu kh j h0 (by omega), hel]
  simp [sizeOf, typeInfo, hi, sliced, Result.andThen, ha]
theorem short {w : World} {b : Nat} {ok : Nat → Prop} {A : Option Addr} {c : Nat} {xs : List S34} {z : S34} (h : Kd.R k34 34 w b ok (.slice A (xs ++ [z]).length c) (xs ++ [z])) : Kd.R k34 34 w b ok (.slice A xs.length c) xs := by
  have := Kd.R_take (m := xs.length) h (by simp)
  rw [List.take_left] at this
  exact this
set_option maxHeartbeats 8000000 in
set_option maxRecDepth 100000 in
theorem own_long (A0 : Option Addr) (c0 : Nat) (l0 : List (S34)) (r : List (S34)) (w : World) (hr0 : Kd.C k34 w A0 l0.length l0) (hc0 : l0.length ≤ c0) (h : ambrylaw13_own.f l0 = some r) :
    Calls Try.prog 17 #[.slice A0 l0.length c0] w fun e w' => ∃ (A : Option Addr) (c : Nat), e = .returned (.slice A r.length c) ∧ Kd.R k34 34 w' w.heap.size (fun _ => True) (.slice A (r ++ [z99]).length c) (r ++ [z99]) ∧ Below w.heap.size w w' := by
  have hu34 := Try.underlying34
  have HR0 := Aside0.mk hr0
  have HC0 := Aside0.mk hc0
  clear hr0 hc0
  have HB := Aside0.mk (Below.refl w.heap.size w)
  have H : ((some (([] : List (S34)) : List (S34))).bind fun y155 => (if y155.length + l0.length < 4398046511104 then ((some (y155 ++ l0 : List (S34))).bind fun y158 => (if y158.length < 4398046511104 then ((some (y158 ++ [(⟨99, (⟨#[]⟩ : ByteArray), false⟩ : S34)] : List (S34))).bind fun y161 => (if 0 ≤ (l0.length : Int) then (if (l0.length : Int) ≤ (y161.length : Int) then (some (y161.take ((l0.length : Int) : Int).toNat)) else (none)) else (none))) else (none))) else (none))) = some r := h
  clear h
  obtain ⟨y155, hy155⟩ : ∃ y_ : List (S34), y_ = (([] : List (S34))) := ⟨_, rfl⟩
  replace H : (if y155.length + l0.length < 4398046511104 then ((some (y155 ++ l0 : List (S34))).bind fun y158 => (if y158.length < 4398046511104 then ((some (y158 ++ [(⟨99, (⟨#[]⟩ : ByteArray), false⟩ : S34)] : List (S34))).bind fun y161 => (if 0 ≤ (l0.length : Int) then (if (l0.length : Int) ≤ (y161.length : Int) then (some (y161.take ((l0.length : Int) : Int).toNat)) else (none)) else (none))) else (none))) else (none)) = some r := by first | (rw [hy155]; with_reducible exact H) | (have H2_ := (Option.bind_some _ _).symm.trans H; rw [hy155]; with_reducible exact H2_) | (have H2_ := (Option.bind_some _ _).symm.trans H; with_reducible exact H2_) | with_reducible exact H | (rw [hy155]; exact H) | exact H
  have Ny155 := Aside0.mk hy155
  clear hy155
  by_cases c2 : y155.length + l0.length < 4398046511104
  · rw [if_pos c2] at H
    have LMc2 := Aside0.mk c2
    clear c2
    obtain ⟨y158, hy158⟩ : ∃ y_ : List (S34), y_ = (y155 ++ l0) := ⟨_, rfl⟩
    replace H : (if y158.length < 4398046511104 then ((some (y158 ++ [(⟨99, (⟨#[]⟩ : ByteArray), false⟩ : S34)] : List (S34))).bind fun y161 => (if 0 ≤ (l0.length : Int) then (if (l0.length : Int) ≤ (y161.length : Int) then (some (y161.take ((l0.length : Int) : Int).toNat)) else (none)) else (none))) else (none)) = some r := by first | (rw [hy158]; with_reducible exact H) | (have H2_ := (Option.bind_some _ _).symm.trans H; rw [hy158]; with_reducible exact H2_) | (have H2_ := (Option.bind_some _ _).symm.trans H; with_reducible exact H2_) | with_reducible exact H | (rw [hy158]; exact H) | exact H
    have Ny158 := Aside0.mk hy158
    clear hy158
    by_cases c3 : y158.length < 4398046511104
    · rw [if_pos c3] at H
      have LMc3 := Aside0.mk c3
      clear c3
      obtain ⟨y161, hy161⟩ : ∃ y_ : List (S34), y_ = (y158 ++ [(⟨99, (⟨#[]⟩ : ByteArray), false⟩ : S34)]) := ⟨_, rfl⟩
      replace H : (if 0 ≤ (l0.length : Int) then (if (l0.length : Int) ≤ (y161.length : Int) then (some (y161.take ((l0.length : Int) : Int).toNat)) else (none)) else (none)) = some r := by first | (rw [hy161]; with_reducible exact H) | (have H2_ := (Option.bind_some _ _).symm.trans H; rw [hy161]; with_reducible exact H2_) | (have H2_ := (Option.bind_some _ _).symm.trans H; with_reducible exact H2_) | with_reducible exact H | (rw [hy161]; exact H) | exact H
      have Ny161 := Aside0.mk hy161
      clear hy161
      by_cases c4 : 0 ≤ (l0.length : Int)
      · rw [if_pos c4] at H
        have c4b0 := eq_true c4
        have c4b1 : decide (0 ≤ (l0.length : Int)) = true := decide_eq_true c4
        clear c4
        by_cases c5 : (l0.length : Int) ≤ (y161.length : Int)
        · rw [if_pos c5] at H
          have c5b0 := eq_true c5
          have c5b1 : decide ((l0.length : Int) ≤ (y161.length : Int)) = true := decide_eq_true c5
          clear c5
          obtain ⟨y164, hy164⟩ : ∃ y_ : List (S34), y_ = (y161.take ((l0.length : Int) : Int).toNat) := ⟨_, rfl⟩
          replace H : (some y164) = some r := by first | (rw [hy164]; with_reducible exact H) | (have H2_ := (Option.bind_some _ _).symm.trans H; rw [hy164]; with_reducible exact H2_) | (have H2_ := (Option.bind_some _ _).symm.trans H; with_reducible exact H2_) | with_reducible exact H | (rw [hy164]; exact H) | exact H
          have Ny164 := Aside0.mk hy164
          clear hy164
          obtain rfl := Option.some.inj H
          go_enter Try.func17, Try.ntmps17
          go_wp2_with (first | ((with_reducible refine gate_dst (N := 3) rfl ?_); refine Kd.R_lit k34 _ 34 ?hg (N := 3) ?hd (xs := ([] : List (S34))) (inner := []) (ok := fun _ => True) (okp := fun _ => True) ?hr ?hp (fun _ hk => hk) trivial (Below.refl _ _) (Nat.le_refl _) (by simp) ?_; (case hd => rfl); (case hg => rfl); (case hr => first | (go_simp; done) | (go_simp; rfl)); (case hp => exact (Reps.none _ _)); intro v156 w6 ho7 hb hg_ hnew_; clear hg_ hnew_; (first | rw [← Ny155.out] at ho7 | (simp only [Int.reduceToNat] at ho7; rw [← Ny155.out] at ho7)); have n0_ := Aside0.mk (Kd.R_lower ho7 (below_size (by repeat (first | (with_reducible first | exact HB.out | apply below_alloc | apply pw_below_drewN | apply below_drew1) | exact HB.out)))); have n1_ := Aside0.mk (below_step (by repeat (first | (with_reducible first | exact HB.out | apply below_alloc | apply pw_below_drewN | apply below_drew1) | exact HB.out)) hb); clear HB; have HO157 := n0_; have HB := n1_; clear n0_ n1_; clear hb ho7) | ((with_reducible refine gate_builtin (b := .append) (xs := #[.tmp 3, .tmp 4]) rfl ?_); at_builtin; refine Kd.R_append_rows k34 (w0 := w) w.heap.size rfl (.tmp 3) (.tmp 4) 22 34 (.agg #[(.int .i64 0), (.string ⟨#[]⟩), (.bool false)]) 32 rfl Try.underlying22 info34 rfl (by decide) (by omega) v156 y155 l0 _ _ _ (fun _ => True) (fun _ => False) rfl rfl ?aO ?aR (fun _ _ h => h) (fun _ h => h.elim) ?aF ?aB ?aS ?aL ?_; (case aR => repeat (first | exact (Kd.C_below HR0.out HB.out) | (with_reducible refine Kd.C_alloc ?_ _) | (with_reducible refine Kd.C_drewN ?_ _) | (with_reducible refine Kd.C_drew ?_))); (case aB => exact (by repeat (first | (with_reducible first | exact HB.out | apply below_alloc | apply pw_below_drewN | apply below_drew1) | exact HB.out))); (case aF => exact (fun _ _ => trivial)); (case aO => exact (by (with_reducible repeat (first | apply Kd.R_alloc | apply Kd.R_drewN | apply Kd.R_drew)); exact HO157.out)); (case aS => exact (below_size (by repeat (first | (with_reducible first | exact HB.out | apply below_alloc | apply pw_below_drewN | apply below_drew1) | exact HB.out)))); (case aL => have := LMc2.out; omega); intro v159 w8 ho hb hg hat; rw [← Ny158.out] at ho; have n0_ := Aside0.mk (hb); have n1_ := Aside0.mk (ho); clear HB; clear HO157; have HB := n0_; have HO160 := n1_; clear n0_ n1_; clear ho hb hg hat) | ((with_reducible refine gate_builtin (b := .append) (xs := #[.tmp 5, .tmp 7]) rfl ?_); at_builtin; refine Kd.R_append k34 (w0 := w) w.heap.size rfl (.tmp 5) (.tmp 7) 22 34 (.agg #[(.int .i64 0), (.string ⟨#[]⟩), (.bool false)]) 32 rfl Try.underlying22 info34 rfl (by decide) (by omega) v159 y158 (⟨99, (⟨#[]⟩ : ByteArray), false⟩ : S34) [.int .i64 99, .string (⟨#[]⟩ : ByteArray), .bool false] (fun _ => True) (fun _ => False) rfl rfl ?aP (fun _ hk => hk.elim) ?aF ?aO ?aB ?aS ?aL ?_; (case aP => exact k34_mkM _ _ _ (⟨99, (⟨#[]⟩ : ByteArray), false⟩ : S34)); (case aB => exact (by repeat (first | (with_reducible first | exact HB.out | apply below_alloc | apply pw_below_drewN | apply below_drew1) | exact HB.out))); (case aF => exact (fun _ _ => trivial)); (case aO => exact (by (with_reducible repeat (first | apply Kd.R_alloc | apply Kd.R_drewN | apply Kd.R_drew)); exact HO160.out)); (case aS => exact (below_size (by repeat (first | (with_reducible first | exact HB.out | apply below_alloc | apply pw_below_drewN | apply below_drew1) | exact HB.out)))); (case aL => have := LMc3.out; omega); intro v162 w9 ho hb hg hat; rw [← Ny161.out] at ho; have n0_ := Aside0.mk (hb); have n1_ := Aside0.mk (ho); clear HB; clear HO160; have HB := n0_; have HO163 := n1_; clear n0_ n1_; clear ho hb hg hat; obtain ⟨Ao10, co10, eo10⟩ := Kd.R_slice HO163.out; subst eo10; have q11 : ((l0.length : Int) : Int) ≤ ((y161.length : Int) : Int) := of_decide_eq_true (by first | (with_reducible assumption) | assumption); obtain ⟨i011, hi011, _, hsz11, _⟩ := info_parts info34; have hcut11 := cut_to (P := Try.prog) 22 34 .i64 Try.underlying22 hi011 Ao10 y161.length co10 (l0.length : Int) (of_decide_eq_true (by first | (with_reducible assumption) | assumption)) q11 (Kd.R_reads' HO163.out).2.1; have hr11 := Kd.R_take (m := ((l0.length : Int) : Int).toNat) HO163.out (by omega); have hy11 : y164.length = ((l0.length : Int) : Int).toNat := (by rw [Ny164.out, List.length_take]; omega); rw [← Ny164.out] at hr11; rw [← hy11] at hr11 hcut11; clear hy11 hi011 hsz11; have HO166 := Aside0.mk hr11; clear hr11; replace q11 := eq_true q11))
          go_ret
          have ey : y161 = l0 ++ [z99] := by rw [Ny161.out, Ny158.out, Ny155.out]; rfl
          have ez : y164 = l0 := by rw [Ny164.out, ey]; simp
          have eL : y161 = y164 ++ [z99] := by rw [ez, ey]
          have hL := HO163.out
          rw [eL] at hL
          refine ⟨Ao10, co10, (by first | rfl | (simp [*]; done)), ?_, by repeat (first | (with_reducible first | exact HB.out | apply below_alloc | apply pw_below_drewN | apply below_drew1) | exact HB.out)⟩
          first | exact hL | (rw [show (y164 ++ [z99]).length = y164.length + 1 by simp] at hL; exact hL)
        · rw [if_neg c5] at H
          exact absurd H (by simp)
      · rw [if_neg c4] at H
        exact absurd H (by simp)
    · rw [if_neg c3] at H
      exact absurd H (by simp)
  · rw [if_neg c2] at H
    exact absurd H (by simp)
/-! ### Turns: function 5 -/
def Turns.j0 : Nat → List (S34) → List (S34) → Bool → Option (Bool)
  | 0, _, _, _ => none
  | k + 1, x0, x7, x63 => if x63 = true then (none) else (if 0 ≤ (wrap64 ((x7.length : Int) + 1)) then (if (wrap64 ((x7.length : Int) + 1)) ≤ ((x7 ++ [z99]).length : Int) then ((some ((x7 ++ [z99]).take ((wrap64 ((x7.length : Int) + 1)) : Int).toNat : List (S34))).bind fun y237 => ((ambryref13_Same.f k x7 x0).bind fun t241 => (if t241 = true then (if 0 ≤ (wrap64 ((y237.length : Int) - 1)) then (if (wrap64 ((y237.length : Int) - 1)) < (y237.length : Int) then (if (((rd_T34 y237 (wrap64 ((y237.length : Int) - 1))).f0) == 99 && ((((rd_T34 y237 (wrap64 ((y237.length : Int) - 1))).f1).toList) == ([] : List UInt8) && (!((rd_T34 y237 (wrap64 ((y237.length : Int) - 1))).f2)))) = true then ((ambrylaw13_lives.f k).bind fun t243 => (some t243)) else (none)) else (none)) else (none)) else (none)))) else (none)) else (none))
def Turns.f (k : Nat) (l0 : List (S34)) (a1_0 : Int) (a1_1 : ByteArray) (a1_2 : Bool) (a2 : Int) : Option (Bool) := if (l0.length : Int) > 1000 then ((ambrylaw13_lives.f k).bind fun t210 => (some t210)) else ((ambrylaw13_own.f l0).bind fun t211 => ((chain_Add.f k t211 a1_0 a1_1 a1_2).bind fun bt214 => ((ambryref13_Add.f k l0 a1_0 a1_1 a1_2).bind fun bt218 => ((chain_Vacuum.f k t211 a2).bind fun t222 => ((chain_Rewind.f k t211 a2).bind fun t225 => ((ambryref13_Same.f k bt214.1 bt218.1).bind fun t228 => (if t228 = true then (if bt214.2 = bt218.2 then ((ambryref13_Vacuum.f k l0 a2).bind fun t229 => ((ambryref13_Same.f k t222 t229).bind fun t232 => (if t232 = true then ((ambryref13_Rewind.f k l0 a2).bind fun t233 => ((ambryref13_Same.f k t225 t233).bind fun t236 => (Turns.j0 k l0 t211 (!t236)))) else (Turns.j0 k l0 t211 true)))) else (Turns.j0 k l0 t211 true)) else (Turns.j0 k l0 t211 true))))))))
theorem Turns.mono_l : ∀ k, (∀ y0 y1 y2, LeO (Turns.j0 k y0 y1 y2) (Turns.j0 (k + 1) y0 y1 y2))
  | 0 => fun _ _ _ r h => by simp [Turns.j0] at h
  | k + 1 => by
    have ih0 := Turns.mono_l k
    · intro y0 y1 y2
      unfold Turns.j0
      repeat' first
      | (with_reducible exact ih0 _ _ _)
      | (with_reducible exact ambrylaw13_lives.mono _)
      | (with_reducible exact ambryref13_Add.mono _ _ _ _ _)
      | (with_reducible exact ambryref13_Rewind.mono _ _ _)
      | (with_reducible exact ambryref13_Same.mono _ _ _)
      | (with_reducible exact ambryref13_Vacuum.mono _ _ _)
      | (with_reducible exact chain_Add.mono _ _ _ _ _)
      | (with_reducible exact chain_Rewind.mono _ _ _)
      | (with_reducible exact chain_Vacuum.mono _ _ _)
      | (with_reducible exact LeO.refl _)
      | (with_reducible exact LeO.none _)
      | (with_reducible refine LeO.ite ?_ ?_)
      | (with_reducible refine LeO.bind ?_ (fun _ => ?_))
      | exact ih0 _ _ _
      | exact ambrylaw13_lives.mono _
      | exact ambryref13_Add.mono _ _ _ _ _
      | exact ambryref13_Rewind.mono _ _ _
      | exact ambryref13_Same.mono _ _ _
      | exact ambryref13_Vacuum.mono _ _ _
      | exact chain_Add.mono _ _ _ _ _
      | exact chain_Rewind.mono _ _ _
      | exact chain_Vacuum.mono _ _ _
      | exact LeO.none _
      | refine LeO.ite ?_ ?_
      | refine LeO.bind ?_ (fun _ => ?_)
theorem Turns.mono : ∀ a0 a1 a2 a3 a4 k, LeO (Turns.f k a0 a1 a2 a3 a4) (Turns.f (k + 1) a0 a1 a2 a3 a4) := by
  intro a0 a1 a2 a3 a4 k
  have ih0 := Turns.mono_l k
  unfold Turns.f
  repeat' first
      | (with_reducible exact ih0 _ _ _)
      | (with_reducible exact ambrylaw13_lives.mono _)
      | (with_reducible exact ambryref13_Add.mono _ _ _ _ _)
      | (with_reducible exact ambryref13_Rewind.mono _ _ _)
      | (with_reducible exact ambryref13_Same.mono _ _ _)
      | (with_reducible exact ambryref13_Vacuum.mono _ _ _)
      | (with_reducible exact chain_Add.mono _ _ _ _ _)
      | (with_reducible exact chain_Rewind.mono _ _ _)
      | (with_reducible exact chain_Vacuum.mono _ _ _)
      | (with_reducible exact LeO.refl _)
      | (with_reducible exact LeO.none _)
      | (with_reducible refine LeO.ite ?_ ?_)
      | (with_reducible refine LeO.bind ?_ (fun _ => ?_))
      | exact ih0 _ _ _
      | exact ambrylaw13_lives.mono _
      | exact ambryref13_Add.mono _ _ _ _ _
      | exact ambryref13_Rewind.mono _ _ _
      | exact ambryref13_Same.mono _ _ _
      | exact ambryref13_Vacuum.mono _ _ _
      | exact chain_Add.mono _ _ _ _ _
      | exact chain_Rewind.mono _ _ _
      | exact chain_Vacuum.mono _ _ _
      | exact LeO.none _
      | refine LeO.ite ?_ ?_
      | refine LeO.bind ?_ (fun _ => ?_)
set_option maxHeartbeats 8000000 in
set_option maxRecDepth 100000 in
theorem Turns.calls (k : Nat) (A0 : Option Addr) (c0 : Nat) (l0 : List (S34)) (a1_0 : Int) (a1_1 : ByteArray) (a1_2 : Bool) (a2 : Int) (r : Bool) (w : World) (hr0 : Kd.C k34 w A0 l0.length l0) (hc0 : l0.length ≤ c0) (h : Turns.f k l0 a1_0 a1_1 a1_2 a2 = some r) :
    Calls Try.prog 5 #[.slice A0 l0.length c0, .agg #[.int .i64 a1_0, .string a1_1, .bool a1_2], .int .i64 a2] w fun e w' => e = .returned (.bool r) ∧ Below w.heap.size w w' := by
  have hu34 := Try.underlying34
  have HR0 := Aside0.mk hr0
  have HC0 := Aside0.mk hc0
  clear hr0 hc0
  have HB := Aside0.mk (Below.refl w.heap.size w)
  have H : (if (l0.length : Int) > 1000 then ((ambrylaw13_lives.f k).bind fun t210 => (some t210)) else ((ambrylaw13_own.f l0).bind fun t211 => ((chain_Add.f k t211 a1_0 a1_1 a1_2).bind fun bt214 => ((ambryref13_Add.f k l0 a1_0 a1_1 a1_2).bind fun bt218 => ((chain_Vacuum.f k t211 a2).bind fun t222 => ((chain_Rewind.f k t211 a2).bind fun t225 => ((ambryref13_Same.f k bt214.1 bt218.1).bind fun t228 => (if t228 = true then (if bt214.2 = bt218.2 then ((ambryref13_Vacuum.f k l0 a2).bind fun t229 => ((ambryref13_Same.f k t222 t229).bind fun t232 => (if t232 = true then ((ambryref13_Rewind.f k l0 a2).bind fun t233 => ((ambryref13_Same.f k t225 t233).bind fun t236 => (Turns.j0 k l0 t211 (!t236)))) else (Turns.j0 k l0 t211 true)))) else (Turns.j0 k l0 t211 true)) else (Turns.j0 k l0 t211 true))))))))) = some r := h
  clear h
  by_cases c4 : (l0.length : Int) > 1000
  · rw [if_pos c4] at H
    have c4b0 : decide (1000 < (l0.length : Int)) = true := decide_eq_true c4
    have c4b1 : decide (1000 < l0.length) = true := decide_eq_true (by omega)
    clear c4
    replace H := Option.bind_eq_some_iff.mp H
    obtain ⟨t210, A50, H⟩ := H
    replace H : (some t210) = some r := H
    have A5 := Aside0.mk A50
    clear A50
    obtain rfl := Option.some.inj H
    go_enter Try.func5, Try.ntmps5
    go_wp2_with (first | ((with_reducible refine gate_dst (N := 4) rfl ?_); (try (refine gate_guard (by rfl) ?_; dsimp only)); refine box_event ?hg (N := 4) ?hd (cs := #[.int .i64 a1_0, .string a1_1, .bool a1_2]) (t := 34) ?hr ?_; (case hd => rfl); (case hg => rfl); (case hr => first | (go_simp; done) | (go_simp; rfl)); intro gb209 hg w6 hbox hb; have n0_ := Aside0.mk (below_step (by repeat (first | (with_reducible first | exact HB.out | apply below_alloc | apply pw_below_drewN | apply below_drew1) | exact HB.out)) hb); have n1_ := Aside0.mk (hbox); have n2_ := Aside0.mk ((by rw [hg]; exact (below_size (by repeat (first | (with_reducible first | exact HB.out | apply below_alloc | apply pw_below_drewN | apply below_drew1) | exact HB.out))) : w.heap.size ≤ gb209)); have n3_ := Aside0.mk ((by rw [hg]; exact (below_size (by repeat (first | (with_reducible first | exact HB.out | apply below_alloc | apply pw_below_drewN | apply below_drew1) | exact HB.out))) : w.heap.size ≤ gb209)); clear HB; have HB := n0_; have BK209 := n1_; have GW209 := n2_; have GE209 := n3_; clear n0_ n1_ n2_ n3_; clear hb hbox hg) | ((with_reducible refine gate_callee (f := 8) rfl ?_); refine goesL_ (some 18) rfl rfl Try.func8 (by kernel_rfl) rfl #[] rfl (by (try simp only [List.map_toArray, List.map_cons, List.map_nil]); first | done | rfl | (simp only [List.length_drop, List.length_take]; rfl)) ?_; (with_reducible refine (ambrylaw13_lives.calls k  t210 _ A5.out).mono ?_); rintro e w7 ⟨rfl, hb⟩; refine ⟨_, rfl, ?_⟩; have n0_ := Aside0.mk (blk_below (g := gb209) (o := .cells #[.int .i64 a1_0, .string a1_1, .bool a1_2] 34 (0, 0)) (by (with_reducible repeat (first | refine blk_drewN ?_ _ | refine blk_drew ?_ | refine blk_alloc ?_ _)); exact BK209.out) hb); have n1_ := Aside0.mk (below_step (by repeat (first | (with_reducible first | exact HB.out | apply below_alloc | apply pw_below_drewN | apply below_drew1 | refine below_set ?_ GE209.out) | exact HB.out)) hb); clear BK209; clear HB; have BK209 := n0_; have HB := n1_; clear n0_ n1_; (try clear hb); (try clear hb2); (try clear hk); (try clear hi)))
    go_ret
    exact ⟨by first | rfl | (simp [errW_none, errW_some] <;> rfl) | (simp [*, errW_none, errW_some] <;> rfl), by repeat (first | (with_reducible first | exact HB.out | apply below_alloc | apply pw_below_drewN | apply below_drew1 | refine below_set ?_ GE209.out) | exact HB.out)⟩
  · rw [if_neg c4] at H
    have c4b0 : decide (1000 < (l0.length : Int)) = false := decide_eq_false c4
    have c4b1 : decide (1000 < l0.length) = false := decide_eq_false (by omega)
    clear c4
    replace H := Option.bind_eq_some_iff.mp H
    obtain ⟨t211, A80, H⟩ := H
    replace H : ((chain_Add.f k t211 a1_0 a1_1 a1_2).bind fun bt214 => ((ambryref13_Add.f k l0 a1_0 a1_1 a1_2).bind fun bt218 => ((chain_Vacuum.f k t211 a2).bind fun t222 => ((chain_Rewind.f k t211 a2).bind fun t225 => ((ambryref13_Same.f k bt214.1 bt218.1).bind fun t228 => (if t228 = true then (if bt214.2 = bt218.2 then ((ambryref13_Vacuum.f k l0 a2).bind fun t229 => ((ambryref13_Same.f k t222 t229).bind fun t232 => (if t232 = true then ((ambryref13_Rewind.f k l0 a2).bind fun t233 => ((ambryref13_Same.f k t225 t233).bind fun t236 => (Turns.j0 k l0 t211 (!t236)))) else (Turns.j0 k l0 t211 true)))) else (Turns.j0 k l0 t211 true)) else (Turns.j0 k l0 t211 true))))))) = some r := H
    have A8 := Aside0.mk A80
    clear A80
    replace H := Option.bind_eq_some_iff.mp H
    obtain ⟨⟨t214, t217⟩, A90, H⟩ := H
    replace H : ((ambryref13_Add.f k l0 a1_0 a1_1 a1_2).bind fun bt218 => ((chain_Vacuum.f k t211 a2).bind fun t222 => ((chain_Rewind.f k t211 a2).bind fun t225 => ((ambryref13_Same.f k t214 bt218.1).bind fun t228 => (if t228 = true then (if t217 = bt218.2 then ((ambryref13_Vacuum.f k l0 a2).bind fun t229 => ((ambryref13_Same.f k t222 t229).bind fun t232 => (if t232 = true then ((ambryref13_Rewind.f k l0 a2).bind fun t233 => ((ambryref13_Same.f k t225 t233).bind fun t236 => (Turns.j0 k l0 t211 (!t236)))) else (Turns.j0 k l0 t211 true)))) else (Turns.j0 k l0 t211 true)) else (Turns.j0 k l0 t211 true)))))) = some r := H
    have A9 := Aside0.mk A90
    clear A90
    replace H := Option.bind_eq_some_iff.mp H
    obtain ⟨⟨t218, t221⟩, A100, H⟩ := H
    replace H : ((chain_Vacuum.f k t211 a2).bind fun t222 => ((chain_Rewind.f k t211 a2).bind fun t225 => ((ambryref13_Same.f k t214 t218).bind fun t228 => (if t228 = true then (if t217 = t221 then ((ambryref13_Vacuum.f k l0 a2).bind fun t229 => ((ambryref13_Same.f k t222 t229).bind fun t232 => (if t232 = true then ((ambryref13_Rewind.f k l0 a2).bind fun t233 => ((ambryref13_Same.f k t225 t233).bind fun t236 => (Turns.j0 k l0 t211 (!t236)))) else (Turns.j0 k l0 t211 true)))) else (Turns.j0 k l0 t211 true)) else (Turns.j0 k l0 t211 true))))) = some r := H
    have A10 := Aside0.mk A100
    clear A100
    replace H := Option.bind_eq_some_iff.mp H
    obtain ⟨t222, A110, H⟩ := H
    replace H : ((chain_Rewind.f k t211 a2).bind fun t225 => ((ambryref13_Same.f k t214 t218).bind fun t228 => (if t228 = true then (if t217 = t221 then ((ambryref13_Vacuum.f k l0 a2).bind fun t229 => ((ambryref13_Same.f k t222 t229).bind fun t232 => (if t232 = true then ((ambryref13_Rewind.f k l0 a2).bind fun t233 => ((ambryref13_Same.f k t225 t233).bind fun t236 => (Turns.j0 k l0 t211 (!t236)))) else (Turns.j0 k l0 t211 true)))) else (Turns.j0 k l0 t211 true)) else (Turns.j0 k l0 t211 true)))) = some r := H
    have A11 := Aside0.mk A110
    clear A110
    replace H := Option.bind_eq_some_iff.mp H
    obtain ⟨t225, A120, H⟩ := H
    replace H : ((ambryref13_Same.f k t214 t218).bind fun t228 => (if t228 = true then (if t217 = t221 then ((ambryref13_Vacuum.f k l0 a2).bind fun t229 => ((ambryref13_Same.f k t222 t229).bind fun t232 => (if t232 = true then ((ambryref13_Rewind.f k l0 a2).bind fun t233 => ((ambryref13_Same.f k t225 t233).bind fun t236 => (Turns.j0 k l0 t211 (!t236)))) else (Turns.j0 k l0 t211 true)))) else (Turns.j0 k l0 t211 true)) else (Turns.j0 k l0 t211 true))) = some r := H
    have A12 := Aside0.mk A120
    clear A120
    have HC13 := Aside0.mk H
    clear H
    go_enter Try.func5, Try.ntmps5
    go_upto_region 7 with (first | ((with_reducible refine gate_dst (N := 4) rfl ?_); (try (refine gate_guard (by rfl) ?_; dsimp only)); refine box_event ?hg (N := 4) ?hd (cs := #[.int .i64 a1_0, .string a1_1, .bool a1_2]) (t := 34) ?hr ?_; (case hd => rfl); (case hg => rfl); (case hr => first | (go_simp; done) | (go_simp; rfl)); intro gb209 hg w14 hbox hb; have n0_ := Aside0.mk (below_step (by repeat (first | (with_reducible first | exact HB.out | apply below_alloc | apply pw_below_drewN | apply below_drew1) | exact HB.out)) hb); have n1_ := Aside0.mk (hbox); have n2_ := Aside0.mk ((by rw [hg]; exact (below_size (by repeat (first | (with_reducible first | exact HB.out | apply below_alloc | apply pw_below_drewN | apply below_drew1) | exact HB.out))) : w.heap.size ≤ gb209)); have n3_ := Aside0.mk ((by rw [hg]; exact (below_size (by repeat (first | (with_reducible first | exact HB.out | apply below_alloc | apply pw_below_drewN | apply below_drew1) | exact HB.out))) : w.heap.size ≤ gb209)); clear HB; have HB := n0_; have BK209 := n1_; have GW209 := n2_; have GE209 := n3_; clear n0_ n1_ n2_ n3_; clear hb hbox hg) | ((with_reducible refine gate_callee (f := 17) rfl ?_); refine goesL_ (some 20) rfl rfl Try.func17 (by kernel_rfl) rfl #[.slice A0 l0.length c0] rfl (by (try simp only [List.map_toArray, List.map_cons, List.map_nil]); first | done | rfl | (simp only [List.length_drop, List.length_take]; rfl)) ?_; (with_reducible refine (own_long _ _ l0 t211 _ ?side1 ?side2 A8.out).mono ?_); (case side1 => repeat (first | exact (Kd.C_below HR0.out HB.out) | (with_reducible refine Kd.C_alloc ?_ _) | (with_reducible refine Kd.C_drewN ?_ _) | (with_reducible refine Kd.C_drew ?_))); (case side2 => exact HC0.out); rintro e w15 ⟨Ao17, co17, rfl, ho0, hb⟩; refine ⟨_, rfl, ?_⟩; have n0_ := Aside0.mk (Kd.R_lower (Kd.R_newB ho0 (g := gb209) (o := .cells #[.int .i64 a1_0, .string a1_1, .bool a1_2] 34 (0, 0)) (by (with_reducible repeat (first | refine blk_drewN ?_ _ | refine blk_drew ?_ | refine blk_alloc ?_ _)); exact BK209.out)) (below_size (by repeat (first | (with_reducible first | exact HB.out | apply below_alloc | apply pw_below_drewN | apply below_drew1 | refine below_set ?_ GE209.out) | exact HB.out)))); have n1_ := Aside0.mk (blk_below (g := gb209) (o := .cells #[.int .i64 a1_0, .string a1_1, .bool a1_2] 34 (0, 0)) (by (with_reducible repeat (first | refine blk_drewN ?_ _ | refine blk_drew ?_ | refine blk_alloc ?_ _)); exact BK209.out) hb); have n2_ := Aside0.mk (below_step (by repeat (first | (with_reducible first | exact HB.out | apply below_alloc | apply pw_below_drewN | apply below_drew1 | refine below_set ?_ GE209.out) | exact HB.out)) hb); clear BK209; clear HB; have HO213 := n0_; have BK209 := n1_; have HB := n2_; clear n0_ n1_ n2_; (try clear hb); (try clear hb2); (try clear hk); (try clear hi); (try clear ho0); have hcz16_0 : w15.cell? ⟨gb209, 0, none⟩ = some (.int .i64 a1_0) := (blk_cell BK209.out 0).trans rfl; have hcz16_1 : w15.cell? ⟨gb209, 1, none⟩ = some (.string a1_1) := (blk_cell BK209.out 1).trans rfl; have hcz16_2 : w15.cell? ⟨gb209, 2, none⟩ = some (.bool a1_2) := (blk_cell BK209.out 2).trans rfl; have hfz16_0 := blk_frozen BK209.out 0; have hfz16_1 := blk_frozen BK209.out 1; have hfz16_2 := blk_frozen BK209.out 2) | ((with_reducible refine gate_callee (f := 18) rfl ?_); refine goesL_ (some 24) rfl rfl Try.func18 (by kernel_rfl) rfl #[.slice Ao17 t211.length co17, .agg #[.int .i64 a1_0, .string a1_1, .bool a1_2]] rfl (by (try simp only [List.map_toArray, List.map_cons, List.map_nil]); first | done | rfl | (simp only [List.length_drop, List.length_take]; rfl)) ?_; (with_reducible refine (chain_Add.calls k _ _ t211 a1_0 a1_1 a1_2 t214 t217 _ ?side1 ?side2 A9.out).mono ?_); (case side1 => repeat (first | exact (Kd.R_reads' (short HO213.out)).2.2 | (with_reducible refine Kd.C_alloc ?_ _) | (with_reducible refine Kd.C_drewN ?_ _) | (with_reducible refine Kd.C_drew ?_))); (case side2 => exact (Kd.R_reads' (short HO213.out)).2.1); rintro e w18 ⟨v215, rfl, ho0, hb⟩; refine ⟨_, rfl, ?_⟩; have n0_ := Aside0.mk (Kd.R_elder' (by (with_reducible repeat (first | apply Kd.R_alloc | apply Kd.R_drewN | apply Kd.R_drew)); exact HO213.out) (Kd.R_base ho0) hb); have n1_ := Aside0.mk (Kd.R_lower (Kd.R_newB (Kd.R_new' ho0 (Kd.R_lt (by (with_reducible repeat (first | apply Kd.R_alloc | apply Kd.R_drewN | apply Kd.R_drew)); exact HO213.out))) (g := gb209) (o := .cells #[.int .i64 a1_0, .string a1_1, .bool a1_2] 34 (0, 0)) (by (with_reducible repeat (first | refine blk_drewN ?_ _ | refine blk_drew ?_ | refine blk_alloc ?_ _)); exact BK209.out)) (below_size (by repeat (first | (with_reducible first | exact HB.out | apply below_alloc | apply pw_below_drewN | apply below_drew1 | refine below_set ?_ GE209.out) | exact HB.out)))); have n2_ := Aside0.mk (blk_below (g := gb209) (o := .cells #[.int .i64 a1_0, .string a1_1, .bool a1_2] 34 (0, 0)) (by (with_reducible repeat (first | refine blk_drewN ?_ _ | refine blk_drew ?_ | refine blk_alloc ?_ _)); exact BK209.out) hb); have n3_ := Aside0.mk (below_step (by repeat (first | (with_reducible first | exact HB.out | apply below_alloc | apply pw_below_drewN | apply below_drew1 | refine below_set ?_ GE209.out) | exact HB.out)) hb); clear HO213; clear BK209; clear HB; have HO213 := n0_; have HO216 := n1_; have BK209 := n2_; have HB := n3_; clear n0_ n1_ n2_ n3_; (try clear hb); (try clear hb2); (try clear hk); (try clear hi); (try clear ho0); have hcz19_0 : w18.cell? ⟨gb209, 0, none⟩ = some (.int .i64 a1_0) := (blk_cell BK209.out 0).trans rfl; have hcz19_1 : w18.cell? ⟨gb209, 1, none⟩ = some (.string a1_1) := (blk_cell BK209.out 1).trans rfl; have hcz19_2 : w18.cell? ⟨gb209, 2, none⟩ = some (.bool a1_2) := (blk_cell BK209.out 2).trans rfl; have hfz19_0 := blk_frozen BK209.out 0; have hfz19_1 := blk_frozen BK209.out 1; have hfz19_2 := blk_frozen BK209.out 2) | ((with_reducible refine gate_callee (f := 19) rfl ?_); refine goesL_ (some 30) rfl rfl Try.func19 (by kernel_rfl) rfl #[.slice A0 l0.length c0, .agg #[.int .i64 a1_0, .string a1_1, .bool a1_2]] rfl (by (try simp only [List.map_toArray, List.map_cons, List.map_nil]); first | done | rfl | (simp only [List.length_drop, List.length_take]; rfl)) ?_; (with_reducible refine (ambryref13_Add.calls k _ _ l0 a1_0 a1_1 a1_2 t218 t221 _ ?side1 ?side2 A10.out).mono ?_); (case side1 => repeat (first | exact (Kd.C_below HR0.out HB.out) | (with_reducible refine Kd.C_alloc ?_ _) | (with_reducible refine Kd.C_drewN ?_ _) | (with_reducible refine Kd.C_drew ?_))); (case side2 => exact HC0.out); rintro e w20 ⟨v219, rfl, ho0, hb⟩; refine ⟨_, rfl, ?_⟩; have n0_ := Aside0.mk (Kd.R_elder' (by (with_reducible repeat (first | apply Kd.R_alloc | apply Kd.R_drewN | apply Kd.R_drew)); exact HO213.out) (Kd.R_base ho0) hb); have n1_ := Aside0.mk (Kd.R_elder' (by (with_reducible repeat (first | apply Kd.R_alloc | apply Kd.R_drewN | apply Kd.R_drew)); exact HO216.out) (Kd.R_base ho0) hb); have n2_ := Aside0.mk (Kd.R_lower (Kd.R_newB (Kd.R_new' (Kd.R_new' ho0 (Kd.R_lt (by (with_reducible repeat (first | apply Kd.R_alloc | apply Kd.R_drewN | apply Kd.R_drew)); exact HO213.out))) (Kd.R_lt (by (with_reducible repeat (first | apply Kd.R_alloc | apply Kd.R_drewN | apply Kd.R_drew)); exact HO216.out))) (g := gb209) (o := .cells #[.int .i64 a1_0, .string a1_1, .bool a1_2] 34 (0, 0)) (by (with_reducible repeat (first | refine blk_drewN ?_ _ | refine blk_drew ?_ | refine blk_alloc ?_ _)); exact BK209.out)) (below_size (by repeat (first | (with_reducible first | exact HB.out | apply below_alloc | apply pw_below_drewN | apply below_drew1 | refine below_set ?_ GE209.out) | exact HB.out)))); have n3_ := Aside0.mk (blk_below (g := gb209) (o := .cells #[.int .i64 a1_0, .string a1_1, .bool a1_2] 34 (0, 0)) (by (with_reducible repeat (first | refine blk_drewN ?_ _ | refine blk_drew ?_ | refine blk_alloc ?_ _)); exact BK209.out) hb); have n4_ := Aside0.mk (below_step (by repeat (first | (with_reducible first | exact HB.out | apply below_alloc | apply pw_below_drewN | apply below_drew1 | refine below_set ?_ GE209.out) | exact HB.out)) hb); clear HO213; clear HO216; clear BK209; clear HB; have HO213 := n0_; have HO216 := n1_; have HO220 := n2_; have BK209 := n3_; have HB := n4_; clear n0_ n1_ n2_ n3_ n4_; (try clear hb); (try clear hb2); (try clear hk); (try clear hi); (try clear ho0)) | ((with_reducible refine gate_callee (f := 15) rfl ?_); refine goesL_ (some 35) rfl rfl Try.func15 (by kernel_rfl) rfl #[.slice Ao17 t211.length co17, .int .i64 a2] rfl (by (try simp only [List.map_toArray, List.map_cons, List.map_nil]); first | done | rfl | (simp only [List.length_drop, List.length_take]; rfl)) ?_; (with_reducible refine (chain_Vacuum.calls k _ _ t211 a2 t222 _ ?side1 ?side2 A11.out).mono ?_); (case side1 => repeat (first | exact (Kd.R_reads' (short HO213.out)).2.2 | (with_reducible refine Kd.C_alloc ?_ _) | (with_reducible refine Kd.C_drewN ?_ _) | (with_reducible refine Kd.C_drew ?_))); (case side2 => exact (Kd.R_reads' (short HO213.out)).2.1); rintro e w21 ⟨v223, rfl, ho0, hb⟩; refine ⟨_, rfl, ?_⟩; have n0_ := Aside0.mk (Kd.R_elder' (by (with_reducible repeat (first | apply Kd.R_alloc | apply Kd.R_drewN | apply Kd.R_drew)); exact HO213.out) (Kd.R_base ho0) hb); have n1_ := Aside0.mk (Kd.R_elder' (by (with_reducible repeat (first | apply Kd.R_alloc | apply Kd.R_drewN | apply Kd.R_drew)); exact HO216.out) (Kd.R_base ho0) hb); have n2_ := Aside0.mk (Kd.R_elder' (by (with_reducible repeat (first | apply Kd.R_alloc | apply Kd.R_drewN | apply Kd.R_drew)); exact HO220.out) (Kd.R_base ho0) hb); have n3_ := Aside0.mk (Kd.R_lower (Kd.R_newB (Kd.R_new' (Kd.R_new' (Kd.R_new' ho0 (Kd.R_lt (by (with_reducible repeat (first | apply Kd.R_alloc | apply Kd.R_drewN | apply Kd.R_drew)); exact HO213.out))) (Kd.R_lt (by (with_reducible repeat (first | apply Kd.R_alloc | apply Kd.R_drewN | apply Kd.R_drew)); exact HO216.out))) (Kd.R_lt (by (with_reducible repeat (first | apply Kd.R_alloc | apply Kd.R_drewN | apply Kd.R_drew)); exact HO220.out))) (g := gb209) (o := .cells #[.int .i64 a1_0, .string a1_1, .bool a1_2] 34 (0, 0)) (by (with_reducible repeat (first | refine blk_drewN ?_ _ | refine blk_drew ?_ | refine blk_alloc ?_ _)); exact BK209.out)) (below_size (by repeat (first | (with_reducible first | exact HB.out | apply below_alloc | apply pw_below_drewN | apply below_drew1 | refine below_set ?_ GE209.out) | exact HB.out)))); have n4_ := Aside0.mk (blk_below (g := gb209) (o := .cells #[.int .i64 a1_0, .string a1_1, .bool a1_2] 34 (0, 0)) (by (with_reducible repeat (first | refine blk_drewN ?_ _ | refine blk_drew ?_ | refine blk_alloc ?_ _)); exact BK209.out) hb); have n5_ := Aside0.mk (below_step (by repeat (first | (with_reducible first | exact HB.out | apply below_alloc | apply pw_below_drewN | apply below_drew1 | refine below_set ?_ GE209.out) | exact HB.out)) hb); clear HO213; clear HO216; clear HO220; clear BK209; clear HB; have HO213 := n0_; have HO216 := n1_; have HO220 := n2_; have HO224 := n3_; have BK209 := n4_; have HB := n5_; clear n0_ n1_ n2_ n3_ n4_ n5_; (try clear hb); (try clear hb2); (try clear hk); (try clear hi); (try clear ho0)) | ((with_reducible refine gate_callee (f := 20) rfl ?_); refine goesL_ (some 38) rfl rfl Try.func20 (by kernel_rfl) rfl #[.slice Ao17 t211.length co17, .int .i64 a2] rfl (by (try simp only [List.map_toArray, List.map_cons, List.map_nil]); first | done | rfl | (simp only [List.length_drop, List.length_take]; rfl)) ?_; (with_reducible refine (chain_Rewind.calls k _ _ t211 a2 t225 _ ?side1 ?side2 A12.out).mono ?_); (case side1 => repeat (first | exact (Kd.R_reads' (short HO213.out)).2.2 | (with_reducible refine Kd.C_alloc ?_ _) | (with_reducible refine Kd.C_drewN ?_ _) | (with_reducible refine Kd.C_drew ?_))); (case side2 => exact (Kd.R_reads' (short HO213.out)).2.1); rintro e w22 ⟨v226, rfl, ho0, hb⟩; refine ⟨_, rfl, ?_⟩; have n0_ := Aside0.mk (Kd.R_elder' (by (with_reducible repeat (first | apply Kd.R_alloc | apply Kd.R_drewN | apply Kd.R_drew)); exact HO213.out) (Kd.R_base ho0) hb); have n1_ := Aside0.mk (Kd.R_elder' (by (with_reducible repeat (first | apply Kd.R_alloc | apply Kd.R_drewN | apply Kd.R_drew)); exact HO216.out) (Kd.R_base ho0) hb); have n2_ := Aside0.mk (Kd.R_elder' (by (with_reducible repeat (first | apply Kd.R_alloc | apply Kd.R_drewN | apply Kd.R_drew)); exact HO220.out) (Kd.R_base ho0) hb); have n3_ := Aside0.mk (Kd.R_elder' (by (with_reducible repeat (first | apply Kd.R_alloc | apply Kd.R_drewN | apply Kd.R_drew)); exact HO224.out) (Kd.R_base ho0) hb); have n4_ := Aside0.mk (Kd.R_lower (Kd.R_newB (Kd.R_new' (Kd.R_new' (Kd.R_new' (Kd.R_new' ho0 (Kd.R_lt (by (with_reducible repeat (first | apply Kd.R_alloc | apply Kd.R_drewN | apply Kd.R_drew)); exact HO213.out))) (Kd.R_lt (by (with_reducible repeat (first | apply Kd.R_alloc | apply Kd.R_drewN | apply Kd.R_drew)); exact HO216.out))) (Kd.R_lt (by (with_reducible repeat (first | apply Kd.R_alloc | apply Kd.R_drewN | apply Kd.R_drew)); exact HO220.out))) (Kd.R_lt (by (with_reducible repeat (first | apply Kd.R_alloc | apply Kd.R_drewN | apply Kd.R_drew)); exact HO224.out))) (g := gb209) (o := .cells #[.int .i64 a1_0, .string a1_1, .bool a1_2] 34 (0, 0)) (by (with_reducible repeat (first | refine blk_drewN ?_ _ | refine blk_drew ?_ | refine blk_alloc ?_ _)); exact BK209.out)) (below_size (by repeat (first | (with_reducible first | exact HB.out | apply below_alloc | apply pw_below_drewN | apply below_drew1 | refine below_set ?_ GE209.out) | exact HB.out)))); have n5_ := Aside0.mk (blk_below (g := gb209) (o := .cells #[.int .i64 a1_0, .string a1_1, .bool a1_2] 34 (0, 0)) (by (with_reducible repeat (first | refine blk_drewN ?_ _ | refine blk_drew ?_ | refine blk_alloc ?_ _)); exact BK209.out) hb); have n6_ := Aside0.mk (below_step (by repeat (first | (with_reducible first | exact HB.out | apply below_alloc | apply pw_below_drewN | apply below_drew1 | refine below_set ?_ GE209.out) | exact HB.out)) hb); clear HO213; clear HO216; clear HO220; clear HO224; clear BK209; clear HB; have HO213 := n0_; have HO216 := n1_; have HO220 := n2_; have HO224 := n3_; have HO227 := n4_; have BK209 := n5_; have HB := n6_; clear n0_ n1_ n2_ n3_ n4_ n5_ n6_; (try clear hb); (try clear hb2); (try clear hk); (try clear hi); (try clear ho0)))
    (try simp only [Act.put, List.setIfInBounds_toArray, List.set_cons_zero, List.set_cons_succ])
    go_cut [63] (fun v63 wc => ∃ (kq : Nat) (x63_12 : Bool), v63 = .bool x63_12 ∧ Aside0 (Turns.j0 kq l0 t211 x63_12 = some r) ∧ Aside0 (kq ≤ k) ∧ Aside0 (Kd.R k34 34 wc w.heap.size (fun k_ => k_ ≠ gb209) (.slice Ao17 (t211 ++ [z99]).length co17) (t211 ++ [z99])) ∧ Aside0 (wc.heap[gb209]? = some (.cells #[.int .i64 a1_0, .string a1_1, .bool a1_2] 34 (0, 0))) ∧ Aside0 (Below w.heap.size w wc))
    case first =>
      have H := HC13.out
      clear HC13
      replace H := Option.bind_eq_some_iff.mp H
      obtain ⟨t228, A230, H⟩ := H
      replace H : (if t228 = true then (if t217 = t221 then ((ambryref13_Vacuum.f k l0 a2).bind fun t229 => ((ambryref13_Same.f k t222 t229).bind fun t232 => (if t232 = true then ((ambryref13_Rewind.f k l0 a2).bind fun t233 => ((ambryref13_Same.f k t225 t233).bind fun t236 => (Turns.j0 k l0 t211 (!t236)))) else (Turns.j0 k l0 t211 true)))) else (Turns.j0 k l0 t211 true)) else (Turns.j0 k l0 t211 true)) = some r := H
      have A23 := Aside0.mk A230
      clear A230
      by_cases c24 : t228 = true
      · subst c24
        have H1 : (if t217 = t221 then ((ambryref13_Vacuum.f k l0 a2).bind fun t229 => ((ambryref13_Same.f k t222 t229).bind fun t232 => (if t232 = true then ((ambryref13_Rewind.f k l0 a2).bind fun t233 => ((ambryref13_Same.f k t225 t233).bind fun t236 => (Turns.j0 k l0 t211 (!t236)))) else (Turns.j0 k l0 t211 true)))) else (Turns.j0 k l0 t211 true)) = some r := by rw [if_pos rfl] at H; exact H
        clear H
        have H := H1
        clear H1
        by_cases c25 : t217 = t221
        · rw [if_pos c25] at H
          have c25b0 : (t217 == t221) = true := beq_iff_eq.mpr c25
          have c25b1 : (t217 != t221) = false := bne_eq_false_iff_eq.mpr c25
          clear c25
          (first | rw [c25b0] | (simp only [i64_w, i32_w]; rw [c25b0]) | skip)
          replace H := Option.bind_eq_some_iff.mp H
          obtain ⟨t229, A260, H⟩ := H
          replace H : ((ambryref13_Same.f k t222 t229).bind fun t232 => (if t232 = true then ((ambryref13_Rewind.f k l0 a2).bind fun t233 => ((ambryref13_Same.f k t225 t233).bind fun t236 => (Turns.j0 k l0 t211 (!t236)))) else (Turns.j0 k l0 t211 true))) = some r := H
          have A26 := Aside0.mk A260
          clear A260
          replace H := Option.bind_eq_some_iff.mp H
          obtain ⟨t232, A270, H⟩ := H
          replace H : (if t232 = true then ((ambryref13_Rewind.f k l0 a2).bind fun t233 => ((ambryref13_Same.f k t225 t233).bind fun t236 => (Turns.j0 k l0 t211 (!t236)))) else (Turns.j0 k l0 t211 true)) = some r := H
          have A27 := Aside0.mk A270
          clear A270
          by_cases c28 : t232 = true
          · subst c28
            have H1 : ((ambryref13_Rewind.f k l0 a2).bind fun t233 => ((ambryref13_Same.f k t225 t233).bind fun t236 => (Turns.j0 k l0 t211 (!t236)))) = some r := by rw [if_pos rfl] at H; exact H
            clear H
            have H := H1
            clear H1
            replace H := Option.bind_eq_some_iff.mp H
            obtain ⟨t233, A290, H⟩ := H
            replace H : ((ambryref13_Same.f k t225 t233).bind fun t236 => (Turns.j0 k l0 t211 (!t236))) = some r := H
            have A29 := Aside0.mk A290
            clear A290
            replace H := Option.bind_eq_some_iff.mp H
            obtain ⟨t236, A300, H⟩ := H
            replace H : (Turns.j0 k l0 t211 (!t236)) = some r := H
            have A30 := Aside0.mk A300
            clear A300
            have H' := Aside0.mk H
            clear H
            obtain ⟨Ao31, co31, eo31⟩ := Kd.R_slice HO216.out
            subst eo31
            obtain ⟨Ao32, co32, eo32⟩ := Kd.R_slice HO220.out
            subst eo32
            go_wp2_with (first | ((with_reducible refine gate_callee (f := 16) rfl ?_); refine goesL_ (some 41) rfl rfl Try.func16 (by kernel_rfl) rfl #[.slice Ao31 t214.length co31, .slice Ao32 t218.length co32] rfl (by (try simp only [List.map_toArray, List.map_cons, List.map_nil]); first | done | rfl | (simp only [List.length_drop, List.length_take]; rfl)) ?_; (with_reducible refine (ambryref13_Same.calls k _ _ t214 _ _ t218 true _ ?side1 ?side2 ?side3 ?side4 A23.out).mono ?_); (case side1 => repeat (first | exact (Kd.R_reads' HO216.out).2.2 | (with_reducible refine Kd.C_alloc ?_ _) | (with_reducible refine Kd.C_drewN ?_ _) | (with_reducible refine Kd.C_drew ?_))); (case side2 => exact (Kd.R_reads' HO216.out).2.1); (case side3 => repeat (first | exact (Kd.R_reads' HO220.out).2.2 | (with_reducible refine Kd.C_alloc ?_ _) | (with_reducible refine Kd.C_drewN ?_ _) | (with_reducible refine Kd.C_drew ?_))); (case side4 => exact (Kd.R_reads' HO220.out).2.1); rintro e w' ⟨rfl, ⟨nd, rfl⟩⟩; refine ⟨_, rfl, ?_⟩) | (go_at_call 21; (with_reducible refine (ambryref13_Vacuum.calls k _ _ l0 a2 t229 _ ?side1 ?side2 A26.out).mono ?_); (case side1 => repeat (first | exact (Kd.C_below HR0.out (by repeat (first | (with_reducible first | exact HB.out | apply below_alloc | apply pw_below_drewN | apply below_drew1 | refine below_set ?_ GE209.out) | exact HB.out))) | (with_reducible refine Kd.C_alloc ?_ _) | (with_reducible refine Kd.C_drewN ?_ _) | (with_reducible refine Kd.C_drew ?_))); (case side2 => exact HC0.out); rintro e w33 ⟨v230, rfl, ho0, hb⟩; have n0_ := Aside0.mk (Kd.R_elder' (by (with_reducible repeat (first | apply Kd.R_alloc | apply Kd.R_drewN | apply Kd.R_drew)); exact HO213.out) (Kd.R_base ho0) hb); have n1_ := Aside0.mk (Kd.R_elder' (by (with_reducible repeat (first | apply Kd.R_alloc | apply Kd.R_drewN | apply Kd.R_drew)); exact HO216.out) (Kd.R_base ho0) hb); have n2_ := Aside0.mk (Kd.R_elder' (by (with_reducible repeat (first | apply Kd.R_alloc | apply Kd.R_drewN | apply Kd.R_drew)); exact HO220.out) (Kd.R_base ho0) hb); have n3_ := Aside0.mk (Kd.R_elder' (by (with_reducible repeat (first | apply Kd.R_alloc | apply Kd.R_drewN | apply Kd.R_drew)); exact HO224.out) (Kd.R_base ho0) hb); have n4_ := Aside0.mk (Kd.R_elder' (by (with_reducible repeat (first | apply Kd.R_alloc | apply Kd.R_drewN | apply Kd.R_drew)); exact HO227.out) (Kd.R_base ho0) hb); have n5_ := Aside0.mk (Kd.R_lower (Kd.R_newB (Kd.R_new' (Kd.R_new' (Kd.R_new' (Kd.R_new' (Kd.R_new' ho0 (Kd.R_lt (by (with_reducible repeat (first | apply Kd.R_alloc | apply Kd.R_drewN | apply Kd.R_drew)); exact HO213.out))) (Kd.R_lt (by (with_reducible repeat (first | apply Kd.R_alloc | apply Kd.R_drewN | apply Kd.R_drew)); exact HO216.out))) (Kd.R_lt (by (with_reducible repeat (first | apply Kd.R_alloc | apply Kd.R_drewN | apply Kd.R_drew)); exact HO220.out))) (Kd.R_lt (by (with_reducible repeat (first | apply Kd.R_alloc | apply Kd.R_drewN | apply Kd.R_drew)); exact HO224.out))) (Kd.R_lt (by (with_reducible repeat (first | apply Kd.R_alloc | apply Kd.R_drewN | apply Kd.R_drew)); exact HO227.out))) (g := gb209) (o := .cells #[.int .i64 a1_0, .string a1_1, .bool a1_2] 34 (0, 0)) (by (with_reducible repeat (first | refine blk_drewN ?_ _ | refine blk_drew ?_ | refine blk_alloc ?_ _)); exact BK209.out)) (below_size (by repeat (first | (with_reducible first | exact HB.out | apply below_alloc | apply pw_below_drewN | apply below_drew1 | refine below_set ?_ GE209.out) | exact HB.out)))); have n6_ := Aside0.mk (blk_below (g := gb209) (o := .cells #[.int .i64 a1_0, .string a1_1, .bool a1_2] 34 (0, 0)) (by (with_reducible repeat (first | refine blk_drewN ?_ _ | refine blk_drew ?_ | refine blk_alloc ?_ _)); exact BK209.out) hb); have n7_ := Aside0.mk (below_step (by repeat (first | (with_reducible first | exact HB.out | apply below_alloc | apply pw_below_drewN | apply below_drew1 | refine below_set ?_ GE209.out) | exact HB.out)) hb); clear HO213; clear HO216; clear HO220; clear HO224; clear HO227; clear BK209; clear HB; have HO213 := n0_; have HO216 := n1_; have HO220 := n2_; have HO224 := n3_; have HO227 := n4_; have HO231 := n5_; have BK209 := n6_; have HB := n7_; clear n0_ n1_ n2_ n3_ n4_ n5_ n6_ n7_; (try clear hb); (try clear hb2); (try clear hk); (try clear hi); (try clear ho0); obtain ⟨Ao34, co34, eo34⟩ := Kd.R_slice HO224.out; subst eo34; obtain ⟨Ao35, co35, eo35⟩ := Kd.R_slice HO231.out; subst eo35) | (go_at_call 16; (with_reducible refine (ambryref13_Same.calls k _ _ t222 _ _ t229 true _ ?side1 ?side2 ?side3 ?side4 A27.out).mono ?_); (case side1 => repeat (first | exact (Kd.R_reads' HO224.out).2.2 | (with_reducible refine Kd.C_alloc ?_ _) | (with_reducible refine Kd.C_drewN ?_ _) | (with_reducible refine Kd.C_drew ?_))); (case side2 => exact (Kd.R_reads' HO224.out).2.1); (case side3 => repeat (first | exact (Kd.R_reads' HO231.out).2.2 | (with_reducible refine Kd.C_alloc ?_ _) | (with_reducible refine Kd.C_drewN ?_ _) | (with_reducible refine Kd.C_drew ?_))); (case side4 => exact (Kd.R_reads' HO231.out).2.1); rintro e w' ⟨rfl, ⟨nd, rfl⟩⟩) | (go_at_call 22; (with_reducible refine (ambryref13_Rewind.calls k _ _ l0 a2 t233 _ ?side1 ?side2 A29.out).mono ?_); (case side1 => repeat (first | exact (Kd.C_below HR0.out (by repeat (first | (with_reducible first | exact HB.out | apply below_alloc | apply pw_below_drewN | apply below_drew1 | refine below_set ?_ GE209.out) | exact HB.out))) | (with_reducible refine Kd.C_alloc ?_ _) | (with_reducible refine Kd.C_drewN ?_ _) | (with_reducible refine Kd.C_drew ?_))); (case side2 => exact HC0.out); rintro e w36 ⟨v234, rfl, ho0, hb⟩; have n0_ := Aside0.mk (Kd.R_elder' (by (with_reducible repeat (first | apply Kd.R_alloc | apply Kd.R_drewN | apply Kd.R_drew)); exact HO213.out) (Kd.R_base ho0) hb); have n1_ := Aside0.mk (Kd.R_elder' (by (with_reducible repeat (first | apply Kd.R_alloc | apply Kd.R_drewN | apply Kd.R_drew)); exact HO216.out) (Kd.R_base ho0) hb); have n2_ := Aside0.mk (Kd.R_elder' (by (with_reducible repeat (first | apply Kd.R_alloc | apply Kd.R_drewN | apply Kd.R_drew)); exact HO220.out) (Kd.R_base ho0) hb); have n3_ := Aside0.mk (Kd.R_elder' (by (with_reducible repeat (first | apply Kd.R_alloc | apply Kd.R_drewN | apply Kd.R_drew)); exact HO224.out) (Kd.R_base ho0) hb); have n4_ := Aside0.mk (Kd.R_elder' (by (with_reducible repeat (first | apply Kd.R_alloc | apply Kd.R_drewN | apply Kd.R_drew)); exact HO227.out) (Kd.R_base ho0) hb); have n5_ := Aside0.mk (Kd.R_elder' (by (with_reducible repeat (first | apply Kd.R_alloc | apply Kd.R_drewN | apply Kd.R_drew)); exact HO231.out) (Kd.R_base ho0) hb); have n6_ := Aside0.mk (Kd.R_lower (Kd.R_newB (Kd.R_new' (Kd.R_new' (Kd.R_new' (Kd.R_new' (Kd.R_new' (Kd.R_new' ho0 (Kd.R_lt (by (with_reducible repeat (first | apply Kd.R_alloc | apply Kd.R_drewN | apply Kd.R_drew)); exact HO213.out))) (Kd.R_lt (by (with_reducible repeat (first | apply Kd.R_alloc | apply Kd.R_drewN | apply Kd.R_drew)); exact HO216.out))) (Kd.R_lt (by (with_reducible repeat (first | apply Kd.R_alloc | apply Kd.R_drewN | apply Kd.R_drew)); exact HO220.out))) (Kd.R_lt (by (with_reducible repeat (first | apply Kd.R_alloc | apply Kd.R_drewN | apply Kd.R_drew)); exact HO224.out))) (Kd.R_lt (by (with_reducible repeat (first | apply Kd.R_alloc | apply Kd.R_drewN | apply Kd.R_drew)); exact HO227.out))) (Kd.R_lt (by (with_reducible repeat (first | apply Kd.R_alloc | apply Kd.R_drewN | apply Kd.R_drew)); exact HO231.out))) (g := gb209) (o := .cells #[.int .i64 a1_0, .string a1_1, .bool a1_2] 34 (0, 0)) (by (with_reducible repeat (first | refine blk_drewN ?_ _ | refine blk_drew ?_ | refine blk_alloc ?_ _)); exact BK209.out)) (below_size (by repeat (first | (with_reducible first | exact HB.out | apply below_alloc | apply pw_below_drewN | apply below_drew1 | refine below_set ?_ GE209.out) | exact HB.out)))); have n7_ := Aside0.mk (blk_below (g := gb209) (o := .cells #[.int .i64 a1_0, .string a1_1, .bool a1_2] 34 (0, 0)) (by (with_reducible repeat (first | refine blk_drewN ?_ _ | refine blk_drew ?_ | refine blk_alloc ?_ _)); exact BK209.out) hb); have n8_ := Aside0.mk (below_step (by repeat (first | (with_reducible first | exact HB.out | apply below_alloc | apply pw_below_drewN | apply below_drew1 | refine below_set ?_ GE209.out) | exact HB.out)) hb); clear HO213; clear HO216; clear HO220; clear HO224; clear HO227; clear HO231; clear BK209; clear HB; have HO213 := n0_; have HO216 := n1_; have HO220 := n2_; have HO224 := n3_; have HO227 := n4_; have HO231 := n5_; have HO235 := n6_; have BK209 := n7_; have HB := n8_; clear n0_ n1_ n2_ n3_ n4_ n5_ n6_ n7_ n8_; (try clear hb); (try clear hb2); (try clear hk); (try clear hi); (try clear ho0); obtain ⟨Ao37, co37, eo37⟩ := Kd.R_slice HO227.out; subst eo37; obtain ⟨Ao38, co38, eo38⟩ := Kd.R_slice HO235.out; subst eo38) | (go_at_call 16; (with_reducible refine (ambryref13_Same.calls k _ _ t225 _ _ t233 t236 _ ?side1 ?side2 ?side3 ?side4 A30.out).mono ?_); (case side1 => repeat (first | exact (Kd.R_reads' HO227.out).2.2 | (with_reducible refine Kd.C_alloc ?_ _) | (with_reducible refine Kd.C_drewN ?_ _) | (with_reducible refine Kd.C_drew ?_))); (case side2 => exact (Kd.R_reads' HO227.out).2.1); (case side3 => repeat (first | exact (Kd.R_reads' HO235.out).2.2 | (with_reducible refine Kd.C_alloc ?_ _) | (with_reducible refine Kd.C_drewN ?_ _) | (with_reducible refine Kd.C_drew ?_))); (case side4 => exact (Kd.R_reads' HO235.out).2.1); rintro e w' ⟨rfl, ⟨nd, rfl⟩⟩))
            go_meet
            case rel => exact ⟨_, (!t236), (by first | rfl | (simp; done) | (simp [*]; done)), H', ⟨by first | omega | exact Nat.le_refl _⟩, ⟨by (with_reducible repeat (first | apply Kd.R_alloc | apply Kd.R_drewN | apply Kd.R_drew)); exact Kd.R_mono HO213.out (fun _ hk => hk.1.1.1.1.1.1.2)⟩, ⟨by (with_reducible repeat (first | refine blk_drewN ?_ _ | refine blk_drew ?_ | refine blk_alloc ?_ _)); exact BK209.out⟩, ⟨by repeat (first | (with_reducible first | exact HB.out | apply below_alloc | apply pw_below_drewN | apply below_drew1 | refine below_set ?_ GE209.out) | exact HB.out)⟩⟩
          · replace c28 := Bool.eq_false_iff.mpr c28
            subst c28
            have H1 : (Turns.j0 k l0 t211 true) = some r := by rw [if_neg (show ¬ (false = true) by decide)] at H; exact H
            clear H
            have H := H1
            clear H1
            have H' := Aside0.mk H
            clear H
            obtain ⟨Ao39, co39, eo39⟩ := Kd.R_slice HO216.out
            subst eo39
            obtain ⟨Ao40, co40, eo40⟩ := Kd.R_slice HO220.out
            subst eo40
            go_wp2_with (first | ((with_reducible refine gate_callee (f := 16) rfl ?_); refine goesL_ (some 41) rfl rfl Try.func16 (by kernel_rfl) rfl #[.slice Ao39 t214.length co39, .slice Ao40 t218.length co40] rfl (by (try simp only [List.map_toArray, List.map_cons, List.map_nil]); first | done | rfl | (simp only [List.length_drop, List.length_take]; rfl)) ?_; (with_reducible refine (ambryref13_Same.calls k _ _ t214 _ _ t218 true _ ?side1 ?side2 ?side3 ?side4 A23.out).mono ?_); (case side1 => repeat (first | exact (Kd.R_reads' HO216.out).2.2 | (with_reducible refine Kd.C_alloc ?_ _) | (with_reducible refine Kd.C_drewN ?_ _) | (with_reducible refine Kd.C_drew ?_))); (case side2 => exact (Kd.R_reads' HO216.out).2.1); (case side3 => repeat (first | exact (Kd.R_reads' HO220.out).2.2 | (with_reducible refine Kd.C_alloc ?_ _) | (with_reducible refine Kd.C_drewN ?_ _) | (with_reducible refine Kd.C_drew ?_))); (case side4 => exact (Kd.R_reads' HO220.out).2.1); rintro e w' ⟨rfl, ⟨nd, rfl⟩⟩; refine ⟨_, rfl, ?_⟩) | (go_at_call 21; (with_reducible refine (ambryref13_Vacuum.calls k _ _ l0 a2 t229 _ ?side1 ?side2 A26.out).mono ?_); (case side1 => repeat (first | exact (Kd.C_below HR0.out (by repeat (first | (with_reducible first | exact HB.out | apply below_alloc | apply pw_below_drewN | apply below_drew1 | refine below_set ?_ GE209.out) | exact HB.out))) | (with_reducible refine Kd.C_alloc ?_ _) | (with_reducible refine Kd.C_drewN ?_ _) | (with_reducible refine Kd.C_drew ?_))); (case side2 => exact HC0.out); rintro e w41 ⟨v230, rfl, ho0, hb⟩; have n0_ := Aside0.mk (Kd.R_elder' (by (with_reducible repeat (first | apply Kd.R_alloc | apply Kd.R_drewN | apply Kd.R_drew)); exact HO213.out) (Kd.R_base ho0) hb); have n1_ := Aside0.mk (Kd.R_elder' (by (with_reducible repeat (first | apply Kd.R_alloc | apply Kd.R_drewN | apply Kd.R_drew)); exact HO216.out) (Kd.R_base ho0) hb); have n2_ := Aside0.mk (Kd.R_elder' (by (with_reducible repeat (first | apply Kd.R_alloc | apply Kd.R_drewN | apply Kd.R_drew)); exact HO220.out) (Kd.R_base ho0) hb); have n3_ := Aside0.mk (Kd.R_elder' (by (with_reducible repeat (first | apply Kd.R_alloc | apply Kd.R_drewN | apply Kd.R_drew)); exact HO224.out) (Kd.R_base ho0) hb); have n4_ := Aside0.mk (Kd.R_elder' (by (with_reducible repeat (first | apply Kd.R_alloc | apply Kd.R_drewN | apply Kd.R_drew)); exact HO227.out) (Kd.R_base ho0) hb); have n5_ := Aside0.mk (Kd.R_lower (Kd.R_newB (Kd.R_new' (Kd.R_new' (Kd.R_new' (Kd.R_new' (Kd.R_new' ho0 (Kd.R_lt (by (with_reducible repeat (first | apply Kd.R_alloc | apply Kd.R_drewN | apply Kd.R_drew)); exact HO213.out))) (Kd.R_lt (by (with_reducible repeat (first | apply Kd.R_alloc | apply Kd.R_drewN | apply Kd.R_drew)); exact HO216.out))) (Kd.R_lt (by (with_reducible repeat (first | apply Kd.R_alloc | apply Kd.R_drewN | apply Kd.R_drew)); exact HO220.out))) (Kd.R_lt (by (with_reducible repeat (first | apply Kd.R_alloc | apply Kd.R_drewN | apply Kd.R_drew)); exact HO224.out))) (Kd.R_lt (by (with_reducible repeat (first | apply Kd.R_alloc | apply Kd.R_drewN | apply Kd.R_drew)); exact HO227.out))) (g := gb209) (o := .cells #[.int .i64 a1_0, .string a1_1, .bool a1_2] 34 (0, 0)) (by (with_reducible repeat (first | refine blk_drewN ?_ _ | refine blk_drew ?_ | refine blk_alloc ?_ _)); exact BK209.out)) (below_size (by repeat (first | (with_reducible first | exact HB.out | apply below_alloc | apply pw_below_drewN | apply below_drew1 | refine below_set ?_ GE209.out) | exact HB.out)))); have n6_ := Aside0.mk (blk_below (g := gb209) (o := .cells #[.int .i64 a1_0, .string a1_1, .bool a1_2] 34 (0, 0)) (by (with_reducible repeat (first | refine blk_drewN ?_ _ | refine blk_drew ?_ | refine blk_alloc ?_ _)); exact BK209.out) hb); have n7_ := Aside0.mk (below_step (by repeat (first | (with_reducible first | exact HB.out | apply below_alloc | apply pw_below_drewN | apply below_drew1 | refine below_set ?_ GE209.out) | exact HB.out)) hb); clear HO213; clear HO216; clear HO220; clear HO224; clear HO227; clear BK209; clear HB; have HO213 := n0_; have HO216 := n1_; have HO220 := n2_; have HO224 := n3_; have HO227 := n4_; have HO231 := n5_; have BK209 := n6_; have HB := n7_; clear n0_ n1_ n2_ n3_ n4_ n5_ n6_ n7_; (try clear hb); (try clear hb2); (try clear hk); (try clear hi); (try clear ho0); obtain ⟨Ao42, co42, eo42⟩ := Kd.R_slice HO224.out; subst eo42; obtain ⟨Ao43, co43, eo43⟩ := Kd.R_slice HO231.out; subst eo43) | (go_at_call 16; (with_reducible refine (ambryref13_Same.calls k _ _ t222 _ _ t229 false _ ?side1 ?side2 ?side3 ?side4 A27.out).mono ?_); (case side1 => repeat (first | exact (Kd.R_reads' HO224.out).2.2 | (with_reducible refine Kd.C_alloc ?_ _) | (with_reducible refine Kd.C_drewN ?_ _) | (with_reducible refine Kd.C_drew ?_))); (case side2 => exact (Kd.R_reads' HO224.out).2.1); (case side3 => repeat (first | exact (Kd.R_reads' HO231.out).2.2 | (with_reducible refine Kd.C_alloc ?_ _) | (with_reducible refine Kd.C_drewN ?_ _) | (with_reducible refine Kd.C_drew ?_))); (case side4 => exact (Kd.R_reads' HO231.out).2.1); rintro e w' ⟨rfl, ⟨nd, rfl⟩⟩))
            go_meet
            case rel => exact ⟨_, (true), (by first | rfl | (simp; done) | (simp [*]; done)), H', ⟨by first | omega | exact Nat.le_refl _⟩, ⟨by (with_reducible repeat (first | apply Kd.R_alloc | apply Kd.R_drewN | apply Kd.R_drew)); exact Kd.R_mono HO213.out (fun _ hk => hk.1.1.1.1.1.2)⟩, ⟨by (with_reducible repeat (first | refine blk_drewN ?_ _ | refine blk_drew ?_ | refine blk_alloc ?_ _)); exact BK209.out⟩, ⟨by repeat (first | (with_reducible first | exact HB.out | apply below_alloc | apply pw_below_drewN | apply below_drew1 | refine below_set ?_ GE209.out) | exact HB.out)⟩⟩
        · rw [if_neg c25] at H
          have c25b0 : (t217 == t221) = false := beq_eq_false_iff_ne.mpr c25
          have c25b1 : (t217 != t221) = true := bne_iff_ne.mpr c25
          (first | rw [c25b0] | (simp only [i64_w, i32_w]; rw [c25b0]) | skip)
          have H' := Aside0.mk H
          clear H
          obtain ⟨Ao44, co44, eo44⟩ := Kd.R_slice HO216.out
          subst eo44
          obtain ⟨Ao45, co45, eo45⟩ := Kd.R_slice HO220.out
          subst eo45
          go_wp2_with (first | ((with_reducible refine gate_callee (f := 16) rfl ?_); refine goesL_ (some 41) rfl rfl Try.func16 (by kernel_rfl) rfl #[.slice Ao44 t214.length co44, .slice Ao45 t218.length co45] rfl (by (try simp only [List.map_toArray, List.map_cons, List.map_nil]); first | done | rfl | (simp only [List.length_drop, List.length_take]; rfl)) ?_; (with_reducible refine (ambryref13_Same.calls k _ _ t214 _ _ t218 true _ ?side1 ?side2 ?side3 ?side4 A23.out).mono ?_); (case side1 => repeat (first | exact (Kd.R_reads' HO216.out).2.2 | (with_reducible refine Kd.C_alloc ?_ _) | (with_reducible refine Kd.C_drewN ?_ _) | (with_reducible refine Kd.C_drew ?_))); (case side2 => exact (Kd.R_reads' HO216.out).2.1); (case side3 => repeat (first | exact (Kd.R_reads' HO220.out).2.2 | (with_reducible refine Kd.C_alloc ?_ _) | (with_reducible refine Kd.C_drewN ?_ _) | (with_reducible refine Kd.C_drew ?_))); (case side4 => exact (Kd.R_reads' HO220.out).2.1); rintro e w' ⟨rfl, ⟨nd, rfl⟩⟩; refine ⟨_, rfl, ?_⟩))
          go_meet
          case rel => exact ⟨_, (true), (by first | rfl | (simp; done) | (simp [*]; done)), H', ⟨by first | omega | exact Nat.le_refl _⟩, ⟨by (with_reducible repeat (first | apply Kd.R_alloc | apply Kd.R_drewN | apply Kd.R_drew)); exact Kd.R_mono HO213.out (fun _ hk => hk.1.1.1.1.2)⟩, ⟨by (with_reducible repeat (first | refine blk_drewN ?_ _ | refine blk_drew ?_ | refine blk_alloc ?_ _)); exact BK209.out⟩, ⟨by repeat (first | (with_reducible first | exact HB.out | apply below_alloc | apply pw_below_drewN | apply below_drew1 | refine below_set ?_ GE209.out) | exact HB.out)⟩⟩
      · replace c24 := Bool.eq_false_iff.mpr c24
        subst c24
        have H1 : (Turns.j0 k l0 t211 true) = some r := by rw [if_neg (show ¬ (false = true) by decide)] at H; exact H
        clear H
        have H := H1
        clear H1
        have H' := Aside0.mk H
        clear H
        obtain ⟨Ao46, co46, eo46⟩ := Kd.R_slice HO216.out
        subst eo46
        obtain ⟨Ao47, co47, eo47⟩ := Kd.R_slice HO220.out
        subst eo47
        go_wp2_with (first | ((with_reducible refine gate_callee (f := 16) rfl ?_); refine goesL_ (some 41) rfl rfl Try.func16 (by kernel_rfl) rfl #[.slice Ao46 t214.length co46, .slice Ao47 t218.length co47] rfl (by (try simp only [List.map_toArray, List.map_cons, List.map_nil]); first | done | rfl | (simp only [List.length_drop, List.length_take]; rfl)) ?_; (with_reducible refine (ambryref13_Same.calls k _ _ t214 _ _ t218 false _ ?side1 ?side2 ?side3 ?side4 A23.out).mono ?_); (case side1 => repeat (first | exact (Kd.R_reads' HO216.out).2.2 | (with_reducible refine Kd.C_alloc ?_ _) | (with_reducible refine Kd.C_drewN ?_ _) | (with_reducible refine Kd.C_drew ?_))); (case side2 => exact (Kd.R_reads' HO216.out).2.1); (case side3 => repeat (first | exact (Kd.R_reads' HO220.out).2.2 | (with_reducible refine Kd.C_alloc ?_ _) | (with_reducible refine Kd.C_drewN ?_ _) | (with_reducible refine Kd.C_drew ?_))); (case side4 => exact (Kd.R_reads' HO220.out).2.1); rintro e w' ⟨rfl, ⟨nd, rfl⟩⟩; refine ⟨_, rfl, ?_⟩))
        go_meet
        case rel => exact ⟨_, (true), (by first | rfl | (simp; done) | (simp [*]; done)), H', ⟨by first | omega | exact Nat.le_refl _⟩, ⟨by (with_reducible repeat (first | apply Kd.R_alloc | apply Kd.R_drewN | apply Kd.R_drew)); exact Kd.R_mono HO213.out (fun _ hk => hk.1.1.1.1.2)⟩, ⟨by (with_reducible repeat (first | refine blk_drewN ?_ _ | refine blk_drew ?_ | refine blk_alloc ?_ _)); exact BK209.out⟩, ⟨by repeat (first | (with_reducible first | exact HB.out | apply below_alloc | apply pw_below_drewN | apply below_drew1 | refine below_set ?_ GE209.out) | exact HB.out)⟩⟩
    case rest =>
      clear HC13
      try clear c1
      try clear c2
      try clear p2
      try clear c4
      try clear c4b0
      try clear c4b1
      try clear c5
      try clear c8
      try clear c15
      try clear c16
      try clear c17
      try clear c18
      try clear c19
      try clear c20
      try clear c24
      try clear c25
      try clear c25b0
      try clear c25b1
      try clear c28
      try clear hcz16_0
      try clear hcz16_1
      try clear hcz16_2
      try clear hcz19_0
      try clear hcz19_1
      try clear hcz19_2
      try clear hfz16_0
      try clear hfz16_1
      try clear hfz16_2
      try clear hfz19_0
      try clear hfz19_1
      try clear hfz19_2
      obtain ⟨kq, x63_12, rfl, HA, HJ12, HO_7, BK209, HB⟩ := hcut
      cases kq with
      | zero => exact absurd HA.out (by simp [Turns.j0])
      | succ kj12 =>
        have H := HA.out
        clear HA
        simp only [Turns.j0] at H
        by_cases c48 : x63_12 = true
        · subst c48
          have H1 : (none) = some r := by rw [if_pos rfl] at H; exact H
          clear H
          have H := H1
          clear H1
          exact absurd H (by simp)
        · replace c48 := Bool.eq_false_iff.mpr c48
          subst c48
          have H1 : (if 0 ≤ (wrap64 ((t211.length : Int) + 1)) then (if (wrap64 ((t211.length : Int) + 1)) ≤ ((t211 ++ [z99]).length : Int) then ((some ((t211 ++ [z99]).take ((wrap64 ((t211.length : Int) + 1)) : Int).toNat : List (S34))).bind fun y237 => ((ambryref13_Same.f kj12 t211 l0).bind fun t241 => (if t241 = true then (if 0 ≤ (wrap64 ((y237.length : Int) - 1)) then (if (wrap64 ((y237.length : Int) - 1)) < (y237.length : Int) then (if (((rd_T34 y237 (wrap64 ((y237.length : Int) - 1))).f0) == 99 && ((((rd_T34 y237 (wrap64 ((y237.length : Int) - 1))).f1).toList) == ([] : List UInt8) && (!((rd_T34 y237 (wrap64 ((y237.length : Int) - 1))).f2)))) = true then ((ambrylaw13_lives.f kj12).bind fun t243 => (some t243)) else (none)) else (none)) else (none)) else (none)))) else (none)) else (none)) = some r := by rw [if_neg (show ¬ (false = true) by decide)] at H; exact H
          clear H
          have H := H1
          clear H1
          obtain ⟨ji49, hji49⟩ : ∃ j_ : Int, (wrap64 ((t211.length : Int) + 1)) = j_ := ⟨_, rfl⟩
          replace H : (if 0 ≤ (ji49) then (if (ji49) ≤ ((t211 ++ [z99]).length : Int) then ((some ((t211 ++ [z99]).take ((ji49) : Int).toNat : List (S34))).bind fun y237 => ((ambryref13_Same.f kj12 t211 l0).bind fun t241 => (if t241 = true then (if 0 ≤ (wrap64 ((y237.length : Int) - 1)) then (if (wrap64 ((y237.length : Int) - 1)) < (y237.length : Int) then (if (((rd_T34 y237 (wrap64 ((y237.length : Int) - 1))).f0) == 99 && ((((rd_T34 y237 (wrap64 ((y237.length : Int) - 1))).f1).toList) == ([] : List UInt8) && (!((rd_T34 y237 (wrap64 ((y237.length : Int) - 1))).f2)))) = true then ((ambrylaw13_lives.f kj12).bind fun t243 => (some t243)) else (none)) else (none)) else (none)) else (none)))) else (none)) else (none)) = some r := by first | (rw [hji49] at H; exact H) | (simp only [hji49] at H ⊢; exact H)
          have hji49w : (IntKind.i64.wrap ((t211.length : Int) + 1)) = ji49 := (i64_w _).trans hji49
          by_cases c50 : 0 ≤ (ji49)
          · rw [if_pos c50] at H
            have c50b0 := eq_true c50
            have c50b1 : decide (0 ≤ (ji49)) = true := decide_eq_true c50
            clear c50
            by_cases c51 : (ji49) ≤ ((t211 ++ [z99]).length : Int)
            · rw [if_pos c51] at H
              have c51b0 := eq_true c51
              have c51b1 : decide ((ji49) ≤ ((t211 ++ [z99]).length : Int)) = true := decide_eq_true c51
              clear c51
              obtain ⟨y237, hy237⟩ : ∃ y_ : List (S34), y_ = ((t211 ++ [z99]).take ((ji49) : Int).toNat) := ⟨_, rfl⟩
              replace H : ((ambryref13_Same.f kj12 t211 l0).bind fun t241 => (if t241 = true then (if 0 ≤ (wrap64 ((y237.length : Int) - 1)) then (if (wrap64 ((y237.length : Int) - 1)) < (y237.length : Int) then (if (((rd_T34 y237 (wrap64 ((y237.length : Int) - 1))).f0) == 99 && ((((rd_T34 y237 (wrap64 ((y237.length : Int) - 1))).f1).toList) == ([] : List UInt8) && (!((rd_T34 y237 (wrap64 ((y237.length : Int) - 1))).f2)))) = true then ((ambrylaw13_lives.f kj12).bind fun t243 => (some t243)) else (none)) else (none)) else (none)) else (none))) = some r := by first | (rw [hy237]; with_reducible exact H) | (have H2_ := (Option.bind_some _ _).symm.trans H; rw [hy237]; with_reducible exact H2_) | (have H2_ := (Option.bind_some _ _).symm.trans H; with_reducible exact H2_) | with_reducible exact H | (rw [hy237]; exact H) | exact H
              have Ny237 := Aside0.mk hy237
              clear hy237
              replace H := Option.bind_eq_some_iff.mp H
              obtain ⟨t241, A520, H⟩ := H
              replace H : (if t241 = true then (if 0 ≤ (wrap64 ((y237.length : Int) - 1)) then (if (wrap64 ((y237.length : Int) - 1)) < (y237.length : Int) then (if (((rd_T34 y237 (wrap64 ((y237.length : Int) - 1))).f0) == 99 && ((((rd_T34 y237 (wrap64 ((y237.length : Int) - 1))).f1).toList) == ([] : List UInt8) && (!((rd_T34 y237 (wrap64 ((y237.length : Int) - 1))).f2)))) = true then ((ambrylaw13_lives.f kj12).bind fun t243 => (some t243)) else (none)) else (none)) else (none)) else (none)) = some r := H
              have A52 := Aside0.mk A520
              clear A520
              by_cases c53 : t241 = true
              · subst c53
                have H1 : (if 0 ≤ (wrap64 ((y237.length : Int) - 1)) then (if (wrap64 ((y237.length : Int) - 1)) < (y237.length : Int) then (if (((rd_T34 y237 (wrap64 ((y237.length : Int) - 1))).f0) == 99 && ((((rd_T34 y237 (wrap64 ((y237.length : Int) - 1))).f1).toList) == ([] : List UInt8) && (!((rd_T34 y237 (wrap64 ((y237.length : Int) - 1))).f2)))) = true then ((ambrylaw13_lives.f kj12).bind fun t243 => (some t243)) else (none)) else (none)) else (none)) = some r := by rw [if_pos rfl] at H; exact H
                clear H
                have H := H1
                clear H1
                obtain ⟨ji54, hji54⟩ : ∃ j_ : Int, (wrap64 ((y237.length : Int) - 1)) = j_ := ⟨_, rfl⟩
                replace H : (if 0 ≤ (ji54) then (if (ji54) < (y237.length : Int) then (if (((rd_T34 y237 (ji54)).f0) == 99 && ((((rd_T34 y237 (ji54)).f1).toList) == ([] : List UInt8) && (!((rd_T34 y237 (ji54)).f2)))) = true then ((ambrylaw13_lives.f kj12).bind fun t243 => (some t243)) else (none)) else (none)) else (none)) = some r := by first | (rw [hji54] at H; exact H) | (simp only [hji54] at H ⊢; exact H)
                (try rw [hji54] at A52)
                have hji54w : (IntKind.i64.wrap ((y237.length : Int) - 1)) = ji54 := (i64_w _).trans hji54
                by_cases c55 : 0 ≤ (ji54)
                · rw [if_pos c55] at H
                  have c55b0 : decide (0 ≤ (ji54)) = true := decide_eq_true c55
                  clear c55
                  by_cases c56 : (ji54) < (y237.length : Int)
                  · rw [if_pos c56] at H
                    have c56b0 : decide ((ji54) < (y237.length : Int)) = true := decide_eq_true c56
                    clear c56
                    by_cases c57 : (((rd_T34 y237 (ji54)).f0) == 99 && ((((rd_T34 y237 (ji54)).f1).toList) == ([] : List UInt8) && (!((rd_T34 y237 (ji54)).f2)))) = true
                    · rw [if_pos c57] at H
                      have c57b0 : (((rd_T34 y237 (ji54)).f0) == 99 && ((((rd_T34 y237 (ji54)).f1).toList) == ([] : List UInt8) && (!((rd_T34 y237 (ji54)).f2)))) = true := c57
                      have c57p := Aside0.mk (show ((rd_T34 y237 (ji54)).f0 = 99 ∧ ((rd_T34 y237 (ji54)).f1).toList = [] ∧ (rd_T34 y237 (ji54)).f2 = false) from by simpa using c57)
                      have c57q := c57p.out
                      (try (have c57b1 : decide (((rd_T34 y237 (ji54)).f0) = 99 && ((((rd_T34 y237 (ji54)).f1).toList) == ([] : List UInt8) && (!((rd_T34 y237 (ji54)).f2)))) = true := by simpa using c57))
                      (try (have c57b2 : (((rd_T34 y237 (ji54)).f0) == 99 && ((((rd_T34 y237 (ji54)).f1).toList) == ([] : List UInt8) && (!((rd_T34 y237 (ji54)).f2)))) = true := by simpa using c57))
                      clear c57
                      replace H := Option.bind_eq_some_iff.mp H
                      obtain ⟨t243, A580, H⟩ := H
                      replace H : (some t243) = some r := H
                      have A58 := Aside0.mk A580
                      clear A580
                      obtain rfl := Option.some.inj H
                      have q59 : ((ji49) : Int) ≤ (((t211 ++ [z99]).length : Int) : Int) := of_decide_eq_true (by first | (with_reducible assumption) | assumption)
                      obtain ⟨i059, hi059, _, hsz59, _⟩ := info_parts info34
                      have hroom59 : (t211 ++ [z99]).length ≤ co17 := (Kd.R_reads' HO_7.out).2.1
                      have hC59 : Kd.C k34 _ Ao17 (t211 ++ [z99]).length (t211 ++ [z99]) := (Kd.R_reads' HO_7.out).2.2
                      have hcut59 := cut_cap (P := Try.prog) 22 34 .i64 Try.underlying22 hi059 Ao17 t211.length co17 (ji49) (of_decide_eq_true (by first | (with_reducible assumption) | assumption)) (by omega)
                      have hr59 := Kd.C_take (m := ((ji49) : Int).toNat) hC59 (by omega)
                      have hy59 : y237.length = ((ji49) : Int).toNat := (by rw [Ny237.out, List.length_take]; omega)
                      rw [← Ny237.out] at hr59
                      rw [← hy59] at hcut59
                      have HR240 := Aside0.mk hr59
                      have HC240 := Aside0.mk (show y237.length ≤ co17 from by omega)
                      clear hr59 hC59 hroom59 hi059 hsz59
                      have KY59 := Aside0.mk hy59
                      clear hy59
                      have KL59 := Aside0.mk (show ((ji49) : Int).toNat ≤ (t211 ++ [z99]).length from by omega)
                      replace q59 := eq_true q59
                      go_wp2_with (first | ((with_reducible refine gate_callee (f := 16) rfl ?_); refine goesL_ (some 71) rfl rfl Try.func16 (by kernel_rfl) rfl #[.slice Ao17 t211.length co17, .slice A0 l0.length c0] rfl (by (try simp only [List.map_toArray, List.map_cons, List.map_nil]); first | done | rfl | (simp only [List.length_drop, List.length_take]; rfl)) ?_; (with_reducible refine (ambryref13_Same.calls kj12 _ _ t211 _ _ l0 true _ ?side1 ?side2 ?side3 ?side4 A52.out).mono ?_); (case side1 => repeat (first | exact (Kd.R_reads' (short HO_7.out)).2.2 | (with_reducible refine Kd.C_alloc ?_ _) | (with_reducible refine Kd.C_drewN ?_ _) | (with_reducible refine Kd.C_drew ?_))); (case side2 => exact (Kd.R_reads' (short HO_7.out)).2.1); (case side3 => repeat (first | exact (Kd.C_below HR0.out HB.out) | (with_reducible refine Kd.C_alloc ?_ _) | (with_reducible refine Kd.C_drewN ?_ _) | (with_reducible refine Kd.C_drew ?_))); (case side4 => exact HC0.out); rintro e w' ⟨rfl, ⟨nd, rfl⟩⟩; refine ⟨_, rfl, ?_⟩; have p242 : 0 ≤ ((ji54) : Int) := of_decide_eq_true (by first | (with_reducible assumption) | assumption); have q242 : (ji54) < (y237.length : Int) := of_decide_eq_true (by first | (with_reducible assumption) | assumption); obtain ⟨ad242, e242, hx242_0, hx242_1, hx242_2⟩ := at_T34 (by repeat (first | (with_reducible exact HR240.out) | (with_reducible refine Kd.C_alloc ?_ _) | (with_reducible refine Kd.C_drewN ?_ _) | (with_reducible refine Kd.C_drew ?_) | exact HR240.out)) (ji54) p242 q242; cases e242; replace p242 := eq_true p242; replace q242 := eq_true q242) | (go_at_call 8; (with_reducible refine (ambrylaw13_lives.calls kj12  t243 _ A58.out).mono ?_); rintro e w60 ⟨rfl, hb⟩; have n0_ := Aside0.mk (Kd.R_below (by (with_reducible repeat (first | apply Kd.R_alloc | apply Kd.R_drewN | apply Kd.R_drew)); exact HO_7.out) hb); have n1_ := Aside0.mk (blk_below (g := gb209) (o := .cells #[.int .i64 a1_0, .string a1_1, .bool a1_2] 34 (0, 0)) (by (with_reducible repeat (first | refine blk_drewN ?_ _ | refine blk_drew ?_ | refine blk_alloc ?_ _)); exact BK209.out) hb); have n2_ := Aside0.mk (Kd.C_below (by repeat (first | (with_reducible exact HR240.out) | (with_reducible refine Kd.C_alloc ?_ _) | (with_reducible refine Kd.C_drewN ?_ _) | (with_reducible refine Kd.C_drew ?_) | exact HR240.out)) hb); have n3_ := Aside0.mk (below_step (by repeat (first | (with_reducible first | exact HB.out | apply below_alloc | apply pw_below_drewN | apply below_drew1 | refine below_set ?_ GE209.out) | exact HB.out)) hb); clear HO_7; clear BK209; clear HR240; clear HB; have HO_7 := n0_; have BK209 := n1_; have HR240 := n2_; have HB := n3_; clear n0_ n1_ n2_ n3_; (try clear hb); (try clear hb2); (try clear hk); (try clear hi)))
                      go_ret
                      exact ⟨by first | rfl | (simp [errW_none, errW_some] <;> rfl) | (simp only [← hji49, ← hji54]; first | rfl | (simp [errW_none, errW_some] <;> rfl)) | (simp [*, errW_none, errW_some] <;> rfl), by repeat (first | (with_reducible first | exact HB.out | apply below_alloc | apply pw_below_drewN | apply below_drew1 | refine below_set ?_ GE209.out) | exact HB.out)⟩
                    · rw [if_neg c57] at H
                      have c57b0 : (((rd_T34 y237 (ji54)).f0) == 99 && ((((rd_T34 y237 (ji54)).f1).toList) == ([] : List UInt8) && (!((rd_T34 y237 (ji54)).f2)))) = false := by simpa using c57
                      have c57p := Aside0.mk (show ¬ ((rd_T34 y237 (ji54)).f0 = 99 ∧ ((rd_T34 y237 (ji54)).f1).toList = [] ∧ (rd_T34 y237 (ji54)).f2 = false) from by simpa using c57)
                      have c57q := c57p.out
                      (try (have c57b1 : decide (((rd_T34 y237 (ji54)).f0) = 99 && ((((rd_T34 y237 (ji54)).f1).toList) == ([] : List UInt8) && (!((rd_T34 y237 (ji54)).f2)))) = false := by simpa using c57))
                      (try (have c57b2 : (((rd_T34 y237 (ji54)).f0) == 99 && ((((rd_T34 y237 (ji54)).f1).toList) == ([] : List UInt8) && (!((rd_T34 y237 (ji54)).f2)))) = false := by simpa using c57))
                      (try (have c57b3 : ¬ (((rd_T34 y237 (ji54)).f0) = 99 && ((((rd_T34 y237 (ji54)).f1).toList) == ([] : List UInt8) && (!((rd_T34 y237 (ji54)).f2)))) := by simpa using c57))
                      clear c57
                      exact absurd H (by simp)
                  · rw [if_neg c56] at H
                    exact absurd H (by simp)
                · rw [if_neg c55] at H
                  exact absurd H (by simp)
              · replace c53 := Bool.eq_false_iff.mpr c53
                subst c53
                have H1 : (none) = some r := by rw [if_neg (show ¬ (false = true) by decide)] at H; exact H
                clear H
                have H := H1
                clear H1
                exact absurd H (by simp)
            · rw [if_neg c51] at H
              exact absurd H (by simp)
          · rw [if_neg c50] at H
            exact absurd H (by simp)

end Go.Proofs.Ytimkcfjncobgjaa.QC
