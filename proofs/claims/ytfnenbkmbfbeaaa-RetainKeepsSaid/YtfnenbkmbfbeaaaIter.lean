/- retain.rows: the closure that hands out, newest first, each time whose row (time / every) is not the row of the time before. -/
import Derived.RangeFuncBox
import Derived.RangeFuncLeaves
import Derived.Shelf.Abstract
import Derived.WalkKit
import Derived.OwnWalkIn
import Derived.TacticsInMore
import Derived.LoopNIn
import Derived.LoopIn
import Derived.Sort.CutIn
import Derived.Sort.QuietIn
import Derived.Test.YtfnenbkmbfbeaaaProg
namespace Go.Proofs.Ytfnenbkmbfbeaaa.Iter
open Go.RowKit Go.Shelf
attribute [local go_sem] Oper.semAt_some
set_option linter.unusedVariables false
def zd (zs : List Int) (i : Nat) : Int := zs[i]?.getD 0
def isNew (zs : List Int) (e : Int) (i : Nat) : Bool := decide (i = 0) || (wrap64 ((zd zs i).tdiv e) != wrap64 ((zd zs (i - 1)).tdiv e))
/-- What has come when the d newest times are over. -/
def down (zs : List Int) (e : Int) : Nat → List Int
  | 0 => []
  | d + 1 => if isNew zs e (zs.length - 1 - d) = true then down zs e d ++ [zd zs (zs.length - 1 - d)] else down zs e d
theorem down_len (zs : List Int) (e : Int) : ∀ d, (down zs e d).length ≤ d
  | 0 => Nat.le_refl _
  | d + 1 => by
    have := down_len zs e d
    rw [down]
    split
    · rw [List.length_append, List.length_singleton]; omega
    · omega
theorem down_pre (zs : List Int) (e : Int) (d : Nat) : ∀ m, down zs e d <+: down zs e (d + m)
  | 0 => List.prefix_refl _
  | m + 1 => by
    have h := down_pre zs e d m
    show down zs e d <+: down zs e (d + m + 1)
    rw [down]
    split
    · exact h.trans (List.prefix_append _ _)
    · exact h
set_option maxHeartbeats 1000000 in
theorem rows_in (n : Nat) (a : Option Addr) (len cap : Nat) (e : Int) (w : World) :
    CallsIn Fence.wide n Try.prog 19 #[.slice a len cap, .int .i64 e] w fun r w' => r = .returned (.func (.func 28) #[] #[.pointer (some ⟨w.heap.size, 0, none⟩), .pointer (some ⟨w.heap.size + 1, 0, none⟩)]) ∧ w' = (w.alloc (.cells #[.slice a len cap] 22)).alloc (.cells #[.int .i64 e] 3) := by
  refine callsIn_of_wp Try.func19 rfl trivial ?_ rfl
  simp only [Try.ntmps19, List.size_toArray, List.length_cons, List.length_nil, Nat.reduceAdd, Nat.reduceSub, Array.replicate_succ, Array.replicate_zero, List.push_toArray, List.append_toArray, List.nil_append, List.cons_append]
  gi_wp2
  go_ret
  exact ⟨by simp, rfl⟩
set_option maxRecDepth 100000 in
set_option maxHeartbeats 2000000 in
theorem rows1_in (n : Nat) (hn : 1 ≤ n) (l Bs Be n₀ : Nat) (A : Option Addr) (cap : Nat) (zs : List Int) (e : Int) (he : 1 ≤ e) (he2 : e ≤ 1152921504606846976) (hlen : zs.length ≤ 4611686018427387903) (J Jx : List Int → World → Prop) (Kp : World → World → Prop)
    (hJd : ∀ pre X m, J pre X → J pre (World.drewN X m))
    (hRd : ∀ {X Y : World}, Kp X Y → (X.cell? ⟨Bs, 0, none⟩ = some (.slice A zs.length cap) → Y.cell? ⟨Bs, 0, none⟩ = some (.slice A zs.length cap)) ∧ (X.cell? ⟨Be, 0, none⟩ = some (.int .i64 e) → Y.cell? ⟨Be, 0, none⟩ = some (.int .i64 e)) ∧
      ∀ ad, A = some ad → ∀ j, j < zs.length → X.cell? (ad.add j) = some (.int .i64 (zd zs j)) → Y.cell? (ad.add j) = some (.int .i64 (zd zs j)))
    (hY : ∀ pre x W, J pre W → pre.length < zs.length → YieldAt Fence.wide (n - 1) Try.prog l #[.int .i64 x] W fun e W' =>
      (e = .returned (.bool true) ∧ J (pre ++ [x]) W' ∧ Kp W W') ∨ (e = .returned (.bool false) ∧ Jx (pre ++ [x]) W'))
    (W : World) (hBs : W.cell? ⟨Bs, 0, none⟩ = some (.slice A zs.length cap)) (hBe : W.cell? ⟨Be, 0, none⟩ = some (.int .i64 e)) (hA : 0 < zs.length → ∃ ad, A = some ad ∧ ∀ j, j < zs.length → W.cell? (ad.add j) = some (.int .i64 (zd zs j))) (h0 : J [] W) :
    CallsIn Fence.wide n Try.prog 28 #[.func (.yield l) #[] #[], .pointer (some ⟨Bs, 0, none⟩), .pointer (some ⟨Be, 0, none⟩)] W fun r W' => (∃ v, r = .returned v) ∧
      ((∃ ys, ys = down zs e zs.length ∧ J ys W') ∨ (∃ pre, pre <+: down zs e zs.length ∧ Jx pre W')) := by
  refine callsIn_of_wp Try.func28 rfl trivial ?_ rfl
  simp only [Try.ntmps28, List.size_toArray, List.length_cons, List.length_nil, Nat.reduceAdd, Nat.reduceSub, Array.replicate_succ, Array.replicate_zero, List.push_toArray, List.append_toArray, List.nil_append, List.cons_append]
  gi_wp2
  gi_loopw [4] (fun i wr => ∃ d : Nat, d ≤ zs.length ∧ i = .int .i64 ((zs.length : Int) - 1 - d) ∧ J (down zs e d) wr ∧ wr.cell? ⟨Bs, 0, none⟩ = some (.slice A zs.length cap) ∧ wr.cell? ⟨Be, 0, none⟩ = some (.int .i64 e) ∧ (0 < zs.length → ∃ ad, A = some ad ∧ ∀ j, j < zs.length → wr.cell? (ad.add j) = some (.int .i64 (zd zs j))))
    (fun i _ => ((intOf i) + 1).toNat)
  case atStart => exact ⟨0, Nat.zero_le _, by simp, h0, hBs, hBe, hA⟩
  case round =>
    obtain ⟨d, hd, rfl, hJs, hbs, hbe, hcell⟩ := hrel
    by_cases hdl : d = zs.length
    · subst hdl
      have hneg : ¬ (0 : Int) ≤ (zs.length : Int) - 1 - (zs.length : Int) := by omega
      gi_wp2
      go_end0
      exact ⟨⟨_, rfl⟩, .inl hJs⟩
    · obtain ⟨m, hm⟩ : ∃ m : Nat, (zs.length : Int) - 1 - (d : Int) = (m : Int) := ⟨zs.length - 1 - d, by omega⟩
      have hml : m < zs.length := by omega
      rw [hm]
      obtain ⟨ad, rfl, hcl⟩ := hcell (by omega)
      have hx := hcl m hml
      obtain ⟨x, hxe⟩ : ∃ x, zd zs m = x := ⟨_, rfl⟩
      rw [hxe] at hx
      have hmd : zs.length - 1 - d = m := by omega
      have hpre : isNew zs e m = true → down zs e d ++ [x] <+: down zs e zs.length := by
        intro h
        have h2 : down zs e (d + 1) = down zs e d ++ [x] := by rw [down, hmd, if_pos h, hxe]
        rw [← h2]
        have := down_pre zs e (d + 1) (zs.length - (d + 1))
        rwa [show d + 1 + (zs.length - (d + 1)) = zs.length by omega] at this
      by_cases hm0 : m = 0
      · subst hm0
        have hn1 : isNew zs e 0 = true := by simp [isNew]
        have hdn : down zs e (d + 1) = down zs e d ++ [x] := by rw [down, hmd, if_pos hn1, hxe]
        replace hpre := hpre hn1
        have hx0 : wr.cell? ad = some (.int .i64 x) := by have := hx; rwa [Addr.add_zero'] at this
        gi_wp2
        gi_quiet (fail)
        obtain ⟨fn, tmps, assign, body, hy, hR⟩ := hY (down zs e d) x (wr.drewN nq) (hJd _ _ nq hJs) (by have := down_len zs e d; omega)
        gi_wp2
        refine hR.mono ?_
        rintro r W3 (⟨rfl, hJ3, hk3⟩ | ⟨rfl, hJx3⟩)
        · gi_wp2
          go_roundw
          case rel =>
            obtain ⟨k1, k2, k3⟩ := hRd hk3
            exact ⟨d + 1, by omega, by congr 1; omega, by rw [hdn]; exact hJ3, k1 hbs, k2 hbe, fun _ => ⟨ad, rfl, fun j hj => k3 ad rfl j hj (hcl j hj)⟩⟩
          case measure => (simp [intOf]; try omega)
        · gi_wp2
          refine bodyPost_ret (results_none rfl _ _ _) rfl ?_
          exact ⟨⟨_, rfl⟩, .inr ⟨down zs e d ++ [x], hpre, hJx3⟩⟩
      · have hm1 : wrap64 ((m : Int) - 1) = ((m - 1 : Nat) : Int) := by unfold wrap64; omega
        have hz : ((m : Int) = 0) = False := eq_false (by omega)
        have hz2 : decide ((m : Int) = 0) = false := decide_eq_false (by omega)
        have hz3 : ((m : Int) == 0) = false := by simpa using hm0
        have hx1 := hcl (m - 1) (by omega)
        obtain ⟨y, hye⟩ : ∃ y, zd zs (m - 1) = y := ⟨_, rfl⟩
        rw [hye] at hx1
        have hez : ¬ e = 0 := by omega
        have hez1 : (e = 0) = False := eq_false hez
        have hez2 : decide (e = 0) = false := decide_eq_false hez
        have hez3 : (e == 0) = false := by simpa using hez
        obtain ⟨q, hq⟩ : ∃ q, (wrap64 (x.tdiv e) != wrap64 (y.tdiv e)) = q := ⟨_, rfl⟩
        have hn1 : isNew zs e m = q := by
          unfold isNew
          rw [hxe, hye, hq, decide_eq_false hm0]
          rfl
        cases q
        · have hdn : down zs e (d + 1) = down zs e d := by rw [down, hmd, if_neg (by rw [hn1]; decide)]
          gi_wp2
          gi_quiet (fail)
          gi_wp2
          all_goals (try (refine ⟨fun _ h => (by cases h), ?_⟩; gi_wp2))
          go_roundw
          case rel => exact ⟨d + 1, by omega, by congr 1; omega, by rw [hdn]; exact hJd _ _ nq hJs, hbs, hbe, fun _ => ⟨ad, rfl, hcl⟩⟩
          case measure => (simp [intOf]; try omega)
        · have hdn : down zs e (d + 1) = down zs e d ++ [x] := by rw [down, hmd, if_pos hn1, hxe]
          replace hpre := hpre hn1
          gi_wp2
          gi_quiet (fail)
          obtain ⟨fn, tmps, assign, body, hy, hR⟩ := hY (down zs e d) x (wr.drewN nq) (hJd _ _ nq hJs) (by have := down_len zs e d; omega)
          gi_wp2
          refine hR.mono ?_
          rintro r W3 (⟨rfl, hJ3, hk3⟩ | ⟨rfl, hJx3⟩)
          · gi_wp2
            go_roundw
            case rel =>
              obtain ⟨k1, k2, k3⟩ := hRd hk3
              exact ⟨d + 1, by omega, by congr 1; omega, by rw [hdn]; exact hJ3, k1 hbs, k2 hbe, fun _ => ⟨ad, rfl, fun j hj => k3 ad rfl j hj (hcl j hj)⟩⟩
            case measure => (simp [intOf]; try omega)
          · gi_wp2
            refine bodyPost_ret (results_none rfl _ _ _) rfl ?_
            exact ⟨⟨_, rfl⟩, .inr ⟨down zs e d ++ [x], hpre, hJx3⟩⟩
end Go.Proofs.Ytfnenbkmbfbeaaa.Iter
