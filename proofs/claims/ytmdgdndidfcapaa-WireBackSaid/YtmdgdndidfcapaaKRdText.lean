import Derived.Test.YtmdgdndidfcapaaKRd
namespace Go.Proofs.Ytmdgdndidfcapaa.Rd
open Go.RowKit Go.Proofs.YtmdgdndidfcapaaW.PrintWords Go.Proofs.YtmdgdndidfcapaaW.PrintLast Go.Proofs.YtmdgdndidfcapaaW.PrintMore
attribute [local go_sem] max2_int min2_int max_two min_two
/-- What Text tells, where the reader then stands, its error. -/
def textF (xs : List Int) (p err most : Int) : List Int × Int × Int :=
 if err = 0 then
  if p + 4 ≤ xs.length then
   if num ((xs.drop p.toNat).take 4) > max 0 most then ([], p, 5)
   else if num ((xs.drop p.toNat).take 4) > xs.length - (p + 4) then ([], p, 3)
   else ((xs.drop (p + 4).toNat).take (num ((xs.drop p.toNat).take 4)).toNat, p + 4 + num ((xs.drop p.toNat).take 4), 0)
  else ([], p, 3)
 else ([], p, err)
def RdText (W : World) (g base : Nat) (xs : List Int) (r : List Int × Int × Int) (e : Ending) (w' : World) : Prop :=
 e = .returned (.string (strOfNums r.1)) ∧ Rdr w' g base xs r.2.1 r.2.2 ∧ W.grownBy w' (some g)
theorem num4_bd (xs : List Int) (hb : ∀ x ∈ xs, 0 ≤ x ∧ x ≤ 255) (q : Nat) : 0 ≤ num ((xs.drop q).take 4) ∧ num ((xs.drop q).take 4) < 4294967296 := by
 obtain ⟨h0, h1⟩ := num_bd ((xs.drop q).take 4) fun x hx => hb x (List.mem_of_mem_drop (List.mem_of_mem_take hx))
 refine ⟨h0, Int.lt_of_lt_of_le h1 ?_⟩
 have hl : ((xs.drop q).take 4).length ≤ 4 := List.length_take_le _ _
 exact (by decide : ∀ n : Fin 5, (256 : Int) ^ n.val ≤ 4294967296) ⟨_, by omega⟩
theorem grown_drewN {a b : World} {row : Option Nat} (h : a.grownBy b row) (n : Nat) : a.grownBy (b.drewN n) row := ⟨h.os, h.tape, h.output, h.size, h.block⟩
theorem Rdr.drewN {W : World} {g base : Nat} {xs : List Int} {p err : Int} (hR : Rdr W g base xs p err) (n : Nat) : Rdr (W.drewN n) g base xs p err := hR.grown (grown_drewN (grown_refl W none) n) (by simp)
theorem info5 : (Try.prog.info? 5).map (fun i => i.size) = some 1 := by kernel_rfl
/-- A cut of a slice that is read: its value, and what it reads. -/
theorem cut_any {P : Program} (W : World) (A : Option Addr) (xs : List Int) (c lo n : Nat) (hr : ReadsInt W .u8 A xs.length xs) (hc : xs.length ≤ c) (h : lo + n ≤ xs.length) :
  ∃ A' c', (∀ (t e : TypeId) (kl kh : IntKind), P.underlying t = some (.slice e) → (P.info? e).map (fun i => i.size) = some 1 → ∀ W : World, (Instr.slice t (.slice A xs.length c) (some (.int kl (lo : Int))) (some (.int kh ((lo : Int) + n))) none).run P W = .ok (.slice A' n c') W) ∧
   ReadsInt W .u8 A' n ((xs.drop lo).take n) ∧ ∀ x, A' = some x → ∃ y, A = some y ∧ x.block = y.block := by
 refine ⟨if c = lo then A else A.map (·.add lo), c - lo, fun t e kl kh ht hi W => ?_, ?_, fun x hx => ?_⟩
 ·obtain ⟨i, hi, hs⟩ := Option.map_eq_some_iff.1 hi
  have := cut_mid (P := P) t e kl kh ht hi 1 hs A xs.length c lo ((lo : Int) + n) (by omega) (by omega) (by omega) hc W
  rw [this]
  have e1 : ((lo : Int) + n).toNat - (lo : Int).toNat = n := by omega
  have e2 : (lo : Int).toNat = lo := by omega
  rw [e1, e2, Nat.mul_one]
 ·have h1 := hr.drop_ (c := c) lo (by omega) hc
  exact h1.take_ n (by omega)
 ·split at hx
  ·exact ⟨x, hx, rfl⟩
  ·obtain ⟨y, hy, e⟩ := Option.map_eq_some_iff.1 hx
   exact ⟨y, hy, by rw [← e]; unfold Addr.add; split <;> rfl⟩
set_option maxHeartbeats 1000000 in
theorem text_none (W : World) (g base : Nat) (xs : List Int) (p err most : Int) (hR : Rdr W g base xs p err) (he : ¬ err = 0) :
  Calls Try.prog 89 #[.pointer (some ⟨g, 0, none⟩), .int .i64 most] W (RdText W g base xs ([], p, err)) := by
 have hR0 := Lib.hid hR
 have h34 := Lib.hid (ready_no W g base xs p err hR he)
 clear he hR
 go_enter Try.func89, Try.ntmps89
 go_wp2_with (first | (go_at_call 105; refine h34.out.mono ?_; rintro e w' ⟨rfl, rfl⟩))
 go_ret
 exact ⟨rfl, hR0.out, grown_refl W _⟩
set_option maxHeartbeats 1000000 in
theorem text_few (W : World) (g base : Nat) (xs : List Int) (p most : Int) (hR : Rdr W g base xs p 0) (h1 : ¬ p + 4 ≤ xs.length) :
  Calls Try.prog 89 #[.pointer (some ⟨g, 0, none⟩), .int .i64 most] W (RdText W g base xs ([], p, 3)) := by
 have hR0 := Lib.hid hR
 have h34 := Lib.hid (ready_yes W g base xs p hR)
 have h35 := Lib.hid (number_no W g base xs p 0 4 hR (by omega) h1 (by omega))
 obtain ⟨A, c, hg, hbg, hlc, hr, ha, hb, h0, hp, hn⟩ := hR
 have c1 := (blk_cell hg 1).trans rfl
 have c2 := (blk_cell hg 2).trans rfl
 have c3 := (blk_cell hg 3).trans rfl
 have f2 := blk_frozen hg 2
 have f3 := blk_frozen hg 3
 clear hg ha hb hr
 go_enter Try.func89, Try.ntmps89
 go_wp2_with (first | (go_at_call 105; refine h34.out.mono ?_; rintro e w' ⟨rfl, rfl⟩) | (go_at_call 106; refine h35.out.mono ?_; rintro e w' ⟨rfl, rfl⟩))
 go_ret
 exact ⟨rfl, hR0.out.setErr _, grown_set W g 3 _⟩
set_option maxHeartbeats 1000000 in
theorem text_big (W : World) (g base : Nat) (xs : List Int) (p most N : Int) (hR : Rdr W g base xs p 0) (h1 : p + 4 ≤ xs.length) (N0 : 0 ≤ N) (N1 : N < 4294967296) (h35 : Hid (Calls Try.prog 106 #[.pointer (some ⟨g, 0, none⟩), .int .i64 p, .int .i64 4] W fun e w' => e = .returned (.tuple #[.int .u64 N, .bool true]) ∧ W = w')) (h2 : N > max 0 most) :
  Calls Try.prog 89 #[.pointer (some ⟨g, 0, none⟩), .int .i64 most] W (RdText W g base xs ([], p, 5)) := by
 have hR0 := Lib.hid hR
 have h34 := Lib.hid (ready_yes W g base xs p hR)
 obtain ⟨A, c, hg, hbg, hlc, hr, ha, hb, h0, hp, hn⟩ := hR
 have c1 := (blk_cell hg 1).trans rfl
 have c2 := (blk_cell hg 2).trans rfl
 have c3 := (blk_cell hg 3).trans rfl
 have f2 := blk_frozen hg 2
 have f3 := blk_frozen hg 3
 clear hg ha hb hr
 have hm : (if 0 < most then most else 0) < N := by split <;> omega
 clear h2
 go_enter Try.func89, Try.ntmps89
 go_wp2_with (first | (go_at_call 105; refine h34.out.mono ?_; rintro e w' ⟨rfl, rfl⟩) | (go_at_call 106; refine h35.out.mono ?_; rintro e w' ⟨rfl, rfl⟩))
 all_goals
  go_ret
  exact ⟨rfl, hR0.out.setErr _, grown_set W g 3 _⟩
set_option maxHeartbeats 1000000 in
theorem text_more (W : World) (g base : Nat) (xs : List Int) (p most N : Int) (hR : Rdr W g base xs p 0) (h1 : p + 4 ≤ xs.length) (N0 : 0 ≤ N) (N1 : N < 4294967296) (h35 : Hid (Calls Try.prog 106 #[.pointer (some ⟨g, 0, none⟩), .int .i64 p, .int .i64 4] W fun e w' => e = .returned (.tuple #[.int .u64 N, .bool true]) ∧ W = w')) (h2 : ¬ N > max 0 most) (h3 : N > xs.length - (p + 4)) :
  Calls Try.prog 89 #[.pointer (some ⟨g, 0, none⟩), .int .i64 most] W (RdText W g base xs ([], p, 3)) := by
 have hR0 := Lib.hid hR
 have h34 := Lib.hid (ready_yes W g base xs p hR)
 obtain ⟨A, c, hg, hbg, hlc, hr, ha, hb, h0, hp, hn⟩ := hR
 have c1 := (blk_cell hg 1).trans rfl
 have c2 := (blk_cell hg 2).trans rfl
 have c3 := (blk_cell hg 3).trans rfl
 have f2 := blk_frozen hg 2
 have f3 := blk_frozen hg 3
 clear hg ha hb hr
 have hm : ¬ (if 0 < most then most else 0) < N := by split <;> omega
 clear h2
 go_enter Try.func89, Try.ntmps89
 go_wp2_with (first | (go_at_call 105; refine h34.out.mono ?_; rintro e w' ⟨rfl, rfl⟩) | (go_at_call 106; refine h35.out.mono ?_; rintro e w' ⟨rfl, rfl⟩))
 all_goals
  go_ret
  exact ⟨rfl, hR0.out.setErr _, grown_set W g 3 _⟩
set_option maxHeartbeats 1000000 in
theorem text_yes (W : World) (g base : Nat) (xs : List Int) (p most : Int) (n : Nat) (hR : Rdr W g base xs p 0) (h1 : p + 4 ≤ xs.length) (N1 : n < 4294967296) (h35 : Hid (Calls Try.prog 106 #[.pointer (some ⟨g, 0, none⟩), .int .i64 p, .int .i64 4] W fun e w' => e = .returned (.tuple #[.int .u64 n, .bool true]) ∧ W = w')) (h2 : ¬ (n : Int) > max 0 most) (h3 : p + 4 + n ≤ xs.length) :
  Calls Try.prog 89 #[.pointer (some ⟨g, 0, none⟩), .int .i64 most] W (RdText W g base xs ((xs.drop (p + 4).toNat).take n, p + 4 + n, 0)) := by
 have hR0 := Lib.hid hR
 have h34 := Lib.hid (ready_yes W g base xs p hR)
 obtain ⟨A, c, hg, hbg, hlc, hr, ha, hb, h0, hp, hn⟩ := hR
 have c1 := (blk_cell hg 1).trans rfl
 have c2 := (blk_cell hg 2).trans rfl
 have c3 := (blk_cell hg 3).trans rfl
 have f2 := blk_frozen hg 2
 have f3 := blk_frozen hg 3
 obtain ⟨q, rfl⟩ := Int.eq_ofNat_of_zero_le h0
 have hm : ¬ (if 0 < most then most else 0) < (n : Int) := by split <;> omega
 have hlt : g < W.heap.size := blk_lt hg
 obtain ⟨A', c', hsl, hrd, ha'⟩ := cut_any W A xs c (q + 4) n hr hlc (by omega)
 have hsl := hsl 31 5 .i64 .i64 Try.underlying31 info5
 have hg' : ∀ x, A' = some x → x.block ≠ g := fun x hx => by
  obtain ⟨y, hy, e⟩ := ha' x hx
  rw [e]
  exact Nat.ne_of_lt (ha y hy).2
 have hsl1 : ∀ W : World, (Instr.slice 31 (.slice A xs.length c) (some (.int .i64 ((q : Int) + 4))) (some (.int .i64 ((q : Int) + 4 + n))) none).run Try.prog W = .ok (.slice A' n c') W := by
  intro W
  have := hsl W
  simpa using this
 have hcv : ∀ nq : Nat, (convert 31 9 (.slice A' n c')).run Try.prog ((W.setCell ⟨g, 2, none⟩ (.int .i64 ((q : Int) + 4 + n))).drewN nq) = .ok (.string (strOfNums ((xs.drop (q + 4)).take n))) ((W.setCell ⟨g, 2, none⟩ (.int .i64 ((q : Int) + 4 + n))).drewN nq) := by
  intro nq
  exact string_of_reads Try.underlying31 Try.underlying5 Try.underlying9 (reads_grown hrd (grown_drewN (grown_set W g 2 _) nq) (fun x hx e => hg' x hx (by simpa using e)))
 have hq : ((q : Int) + 4).toNat = q + 4 := by omega
 rw [hq]
 clear hsl hrd ha' hg' hq
 have c2' : (W.setCell ⟨g, 2, none⟩ (.int .i64 ((q : Int) + 4 + n))).cell? ⟨g, 2, none⟩ = some (.int .i64 ((q : Int) + 4 + n)) := (blk_cell (blk_set hg 2 _) 2).trans rfl
 have c1' : (W.setCell ⟨g, 2, none⟩ (.int .i64 ((q : Int) + 4 + n))).cell? ⟨g, 1, none⟩ = some (.slice A xs.length c) := (blk_cell (blk_set hg 2 _) 1).trans rfl
 clear hg ha hb hr h2
 go_enter Try.func89, Try.ntmps89
 go_wp2_with (first | (go_at_call 105; refine h34.out.mono ?_; rintro e w' ⟨rfl, rfl⟩) | (go_at_call 106; refine h35.out.mono ?_; rintro e w' ⟨rfl, rfl⟩))
 all_goals
  go_quiet (fail)
  go_wp2
  go_ret
  exact ⟨rfl, (hR0.out.setAt _ (by omega) (by omega)).drewN _, grown_drewN (grown_set W g 2 _) _⟩
theorem text_any (W : World) (g base : Nat) (xs : List Int) (p err most : Int) (hR : Rdr W g base xs p err) :
  Calls Try.prog 89 #[.pointer (some ⟨g, 0, none⟩), .int .i64 most] W (RdText W g base xs (textF xs p err most)) := by
 by_cases he : err = 0
 ·subst he
  have h0 : 0 ≤ p := by obtain ⟨A, c, hg, hbg, hlc, hr, ha, hb, h0, r⟩ := hR; exact h0
  by_cases h1 : p + 4 ≤ xs.length
  ·have h35 := number_yes W g base xs p 0 4 hR (by omega) h1 (by omega)
   obtain ⟨N0, N1⟩ : 0 ≤ num ((xs.drop p.toNat).take 4) ∧ num ((xs.drop p.toNat).take 4) < 4294967296 := num4_bd xs (by obtain ⟨A, c, hg, hbg, hlc, hr, ha, hb, r⟩ := hR; exact hb) _
   by_cases h2 : num ((xs.drop p.toNat).take 4) > max 0 most
   ·have hf : textF xs p 0 most = ([], p, 5) := by unfold textF; rw [if_pos rfl, if_pos h1, if_pos h2]
    rw [hf]
    exact text_big W g base xs p most _ hR h1 N0 N1 h35 h2
   ·by_cases h3 : num ((xs.drop p.toNat).take 4) > xs.length - (p + 4)
    ·have hf : textF xs p 0 most = ([], p, 3) := by unfold textF; rw [if_pos rfl, if_pos h1, if_neg h2, if_pos h3]
     rw [hf]
     exact text_more W g base xs p most _ hR h1 N0 N1 h35 h2 h3
    ·have hf : textF xs p 0 most = ((xs.drop (p + 4).toNat).take (num ((xs.drop p.toNat).take 4)).toNat, p + 4 + num ((xs.drop p.toNat).take 4), 0) := by unfold textF; rw [if_pos rfl, if_pos h1, if_neg h2, if_neg h3]
     rw [hf]
     generalize num ((xs.drop p.toNat).take 4) = N at *
     obtain ⟨n, rfl⟩ := Int.eq_ofNat_of_zero_le N0
     exact text_yes W g base xs p most n hR h1 (by omega) h35 h2 (by omega)
  ·have hf : textF xs p 0 most = ([], p, 3) := by unfold textF; rw [if_pos rfl, if_neg h1]
   rw [hf]
   exact text_few W g base xs p most hR h1
 ·have hf : textF xs p err most = ([], p, err) := by unfold textF; rw [if_neg he]
  rw [hf]
  exact text_none W g base xs p err most hR he
/-- At, Err, End. -/
theorem err_any (W : World) (g base : Nat) (xs : List Int) (p err : Int) (hR : Rdr W g base xs p err) :
  Calls Try.prog 70 #[.pointer (some ⟨g, 0, none⟩)] W fun e w' => e = .returned (.int .i64 err) ∧ W = w' := by
 obtain ⟨A, c, hg, hbg, hlc, hr, ha, hb, h0, hp, hn⟩ := hR
 have c0 := (blk_cell hg 0).trans rfl
 have c3 := (blk_cell hg 3).trans rfl
 clear hg ha hb hr
 go_enter Try.func70, Try.ntmps70
 go_wp2
 go_ret
 exact ⟨rfl, rfl⟩
def endF (xs : List Int) (p err : Int) : Int := if err = 0 then (if p < xs.length then 5 else 0) else err
theorem end_any (W : World) (g base : Nat) (xs : List Int) (p err : Int) (hR : Rdr W g base xs p err) :
  Calls Try.prog 28 #[.pointer (some ⟨g, 0, none⟩)] W fun e w' => e = .returned (.int .i64 (endF xs p err)) ∧ W.grownBy w' none := by
 have h20 := Lib.hid (err_any W g base xs p err hR)
 obtain ⟨A, c, hg, hbg, hlc, hr, ha, hb, h0, hp, hn⟩ := hR
 have c1 := (blk_cell hg 1).trans rfl
 have c2 := (blk_cell hg 2).trans rfl
 clear hg ha hb hr
 by_cases he : err = 0
 ·subst he
  by_cases hlt : p < xs.length
  ·have hf : Hid (endF xs p 0 = 5) := by unfold endF; rw [if_pos rfl, if_pos hlt]; rfl
   go_enter Try.func28, Try.ntmps28
   go_wp2_with (first | (go_at_call 70; refine h20.out.mono ?_; rintro e w' ⟨rfl, rfl⟩))
   go_quiet (fail)
   go_wp2
   go_ret
   rw [hf.out]
   exact ⟨rfl, grown_drewN (grown_refl W none) _⟩
  ·have hf : Hid (endF xs p 0 = 0) := by unfold endF; rw [if_pos rfl, if_neg hlt]; rfl
   go_enter Try.func28, Try.ntmps28
   go_wp2_with (first | (go_at_call 70; refine h20.out.mono ?_; rintro e w' ⟨rfl, rfl⟩))
   go_quiet (fail)
   go_wp2
   go_ret
   rw [hf.out]
   exact ⟨rfl, grown_drewN (grown_refl W none) _⟩
 ·have hf : Hid (endF xs p err = err) := by unfold endF; rw [if_neg he]; rfl
  have hz : (err != 0) = true := by simpa using he
  clear he
  go_enter Try.func28, Try.ntmps28
  go_wp2_with (first | (go_at_call 70; refine h20.out.mono ?_; rintro e w' ⟨rfl, rfl⟩))
  go_ret
  rw [hf.out]
  exact ⟨rfl, grown_refl W none⟩
end Go.Proofs.Ytmdgdndidfcapaa.Rd
