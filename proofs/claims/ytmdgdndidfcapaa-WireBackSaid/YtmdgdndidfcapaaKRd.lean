import Derived.Test.YtmdgdndidfcapaaProg
import Derived.Test.YtmdgdndidfcapaaKWTab
import Derived.Test.YtmdgdndidfcapaaKWEqStruct
import Derived.Test.YtmdgdndidfcapaaKWRepsOne
import Derived.Test.YtmdgdndidfcapaaKWGuard
import Derived.Test.YtmdgdndidfcapaaKWMore
import Derived.Deep.Slices
import Derived.WalkSpells
import Derived.Lib.Hide
import Derived.Outline
import Derived.RegionTactic
namespace Go.Proofs.Ytmdgdndidfcapaa.Rd
open Go.RowKit Go.Proofs.YtmdgdndidfcapaaW.PrintWords Go.Proofs.YtmdgdndidfcapaaW.PrintLast Go.Proofs.YtmdgdndidfcapaaW.PrintMore
attribute [local go_sem] max2_int min2_int max_two min_two
/-- A reader at block g: what it reads, where it stands, its error. -/
def Rdr (W : World) (g base : Nat) (xs : List Int) (p err : Int) : Prop :=
 ∃ A c, W.heap[g]? = some (.cells #[.bool true, .slice A xs.length c, .int .i64 p, .int .i64 err] 113 (0, 0)) ∧ base ≤ g ∧ xs.length ≤ c ∧ ReadsInt W .u8 A xs.length xs ∧ (∀ a, A = some a → base ≤ a.block ∧ a.block < g) ∧ (∀ x ∈ xs, 0 ≤ x ∧ x ≤ 255) ∧ 0 ≤ p ∧ p ≤ xs.length ∧ xs.length ≤ 140737488351232
def num (l : List Int) : Int := l.foldl (fun n c => n * 256 + c) 0
theorem getD_byte {xs : List Int} (hb : ∀ x ∈ xs, 0 ≤ x ∧ x ≤ 255) (i : Nat) : 0 ≤ xs.getD i 0 ∧ xs.getD i 0 ≤ 255 := by
 rw [List.getD_eq_getElem?_getD]
 cases h : xs[i]? with
 | none => simp
 | some v => simpa using hb v (List.mem_of_getElem? h)
theorem num_snoc (l : List Int) (c : Int) : num (l ++ [c]) = num l * 256 + c := by simp [num, List.foldl_append]
theorem num_take (xs : List Int) (q j : Nat) (h : q + j < xs.length) : num ((xs.drop q).take (j + 1)) = num ((xs.drop q).take j) * 256 + xs[q + j]?.getD 0 := by
 rw [List.take_add_one, List.getElem?_drop, List.getElem?_eq_getElem h]
 exact num_snoc _ _
theorem num_acc (l : List Int) : ∀ acc : Int, 0 ≤ acc → (∀ x ∈ l, 0 ≤ x ∧ x ≤ 255) → 0 ≤ l.foldl (fun n c => n * 256 + c) acc ∧ l.foldl (fun n c => n * 256 + c) acc < (acc + 1) * 256 ^ l.length := by
 induction l with
 | nil => intro acc h _; simp; omega
 | cons c l ih =>
  intro acc h0 h
  have h2 := h c (by simp)
  obtain ⟨h3, h4⟩ := ih (acc * 256 + c) (by omega) fun x hx => h x (by simp [hx])
  refine ⟨h3, Int.lt_of_lt_of_le h4 ?_⟩
  rw [List.length_cons, Int.pow_succ, Int.mul_comm (256 ^ l.length) 256, ← Int.mul_assoc]
  exact Int.mul_le_mul_of_nonneg_right (by omega) (Int.le_of_lt (Int.pow_pos (by omega)))
theorem num_bd (l : List Int) (h : ∀ x ∈ l, 0 ≤ x ∧ x ≤ 255) : 0 ≤ num l ∧ num l < 256 ^ l.length := by
 have := num_acc l 0 (by omega) h
 simpa [num] using this
theorem pow_bd (n : Nat) (h : n ≤ 7) : (256 : Int) ^ n ≤ 72057594037927936 := (by decide : ∀ n : Fin 8, (256 : Int) ^ n.val ≤ 72057594037927936) ⟨n, by omega⟩
theorem num_take_bd (xs : List Int) (hb : ∀ x ∈ xs, 0 ≤ x ∧ x ≤ 255) (q j : Nat) (hj : j ≤ 7) : 0 ≤ num ((xs.drop q).take j) ∧ num ((xs.drop q).take j) < 72057594037927936 := by
 obtain ⟨h0, h1⟩ := num_bd ((xs.drop q).take j) fun x hx => hb x (List.mem_of_mem_drop (List.mem_of_mem_take hx))
 refine ⟨h0, Int.lt_of_lt_of_le h1 ?_⟩
 have hl : ((xs.drop q).take j).length ≤ 7 := Nat.le_trans (List.length_take_le _ _) hj
 exact pow_bd _ hl
theorem wrap_u64_mod (n : Int) : IntKind.u64.wrap n = n % 18446744073709551616 := by simp [IntKind.wrap, IntKind.bits, IntKind.signed]
theorem wraps_u64 (n : Int) (h0 : 0 ≤ n) (h1 : n < 2 ^ 64) : IntKind.u64.wrap n = n := by
 rw [wrap_u64_mod]
 omega
theorem or_byte (n c : Int) (h0 : 0 ≤ n) (h1 : n < 72057594037927936) (h2 : 0 ≤ c) (h3 : c ≤ 255) : bits BinOp.or .u64 (IntKind.u64.wrap (n * 256)) (IntKind.u64.wrap c) = n * 256 + c := by
 rw [wraps_u64 _ (by omega) (by omega), wraps_u64 c h2 (by omega)]
 exact bits_join .u64 64 (by decide) wraps_u64 8 _ _ (by omega) (by omega) (by omega) h2 (by omega) (by omega)
set_option maxHeartbeats 400000 in
theorem number_yes (W : World) (g base : Nat) (xs : List Int) (p err : Int) (k : Nat) (hR : Rdr W g base xs p err) (hk0 : 0 < k) (h1 : p + k ≤ xs.length) (hk : k ≤ 8) :
  Calls Try.prog 106 #[.pointer (some ⟨g, 0, none⟩), .int .i64 p, .int .i64 k] W fun e w' => e = .returned (.tuple #[.int .u64 (num ((xs.drop p.toNat).take k)), .bool true]) ∧ W = w' := by
 obtain ⟨A, c, hg, hbg, hlc, hr, ha, hb, h0, hp, hn⟩ := hR
 obtain ⟨q, rfl⟩ := Int.eq_ofNat_of_zero_le h0
 obtain ⟨a, rfl, hcell⟩ := hr.2.2 (by omega)
 have c1 := (blk_cell hg 1).trans rfl
 have hcq : ¬ c = q := by omega
 have HB := Lib.hid hb
 clear hg ha hb hr
 go_enter Try.func106, Try.ntmps106
 go_wp2
 go_loop [8, 30] (fun n i => ∃ j : Nat, j ≤ k ∧ i = .int .i64 j ∧ n = .int .u64 (num ((xs.drop q).take j))) (fun _ i => k - (intOf i).toNat)
 case atStart => exact ⟨0, Nat.zero_le _, rfl, rfl⟩
 case round =>
  obtain ⟨j, hj, rfl, rfl⟩ := hrel
  by_cases hlt : j < k
  ·have hc2 : W.cell? ((a.add q).add j) = some (.int .u8 (xs.getD (q + j) 0)) := by rw [Go.Deep.add_add]; exact hcell (q + j) (by omega)
   have hlt2 : j < q + k - q := by omega
   have hor := Lib.hid (or_byte _ _ (num_take_bd xs HB.out q j (by omega)).1 (num_take_bd xs HB.out q j (by omega)).2 (getD_byte HB.out (q + j)).1 (getD_byte HB.out (q + j)).2)
   go_wp2
   go_round
   case rel => exact ⟨j + 1, by omega, by go_num, by
    have := hor.out
    rw [List.getD_eq_getElem?_getD] at this
    rw [this, num_take xs q j (by omega)]⟩
   case measure => simp [intOf]; omega
  ·obtain rfl : j = k := by omega
   go_wp2
   go_ret2
   exact ⟨rfl, rfl⟩
set_option maxHeartbeats 400000 in
theorem number_no (W : World) (g base : Nat) (xs : List Int) (p err : Int) (k : Nat) (hR : Rdr W g base xs p err) (hk0 : 0 < k) (h1 : ¬ p + k ≤ xs.length) (hk : k ≤ 8) :
  Calls Try.prog 106 #[.pointer (some ⟨g, 0, none⟩), .int .i64 p, .int .i64 k] W fun e w' => e = .returned (.tuple #[.int .u64 0, .bool false]) ∧ W = w' := by
 obtain ⟨A, c, hg, hbg, hlc, hr, ha, hb, h0, hp, hn⟩ := hR
 obtain ⟨q, rfl⟩ := Int.eq_ofNat_of_zero_le h0
 have c1 := (blk_cell hg 1).trans rfl
 clear hg ha hb hr
 go_enter Try.func106, Try.ntmps106
 go_wp2
 go_ret2
 exact ⟨rfl, rfl⟩
set_option maxHeartbeats 400000 in
theorem ready_yes (W : World) (g base : Nat) (xs : List Int) (p : Int) (hR : Rdr W g base xs p 0) :
  Calls Try.prog 105 #[.pointer (some ⟨g, 0, none⟩)] W fun e w' => e = .returned (.bool true) ∧ W = w' := by
 obtain ⟨A, c, hg, hbg, hlc, hr, ha, hb, h0, hp, hn⟩ := hR
 have c0 := (blk_cell hg 0).trans rfl
 have c3 := (blk_cell hg 3).trans rfl
 clear hg ha hb hr
 go_enter Try.func105, Try.ntmps105
 go_wp2
 go_ret
 exact ⟨rfl, rfl⟩
set_option maxHeartbeats 400000 in
theorem ready_no (W : World) (g base : Nat) (xs : List Int) (p err : Int) (hR : Rdr W g base xs p err) (he : ¬ err = 0) :
  Calls Try.prog 105 #[.pointer (some ⟨g, 0, none⟩)] W fun e w' => e = .returned (.bool false) ∧ W = w' := by
 obtain ⟨A, c, hg, hbg, hlc, hr, ha, hb, h0, hp, hn⟩ := hR
 have c0 := (blk_cell hg 0).trans rfl
 have c3 := (blk_cell hg 3).trans rfl
 have he0 : (err == 0) = false := by simpa using he
 clear hg ha hb hr
 go_enter Try.func105, Try.ntmps105
 go_wp2
 go_ret
 exact ⟨rfl, rfl⟩
theorem reads_grown {W W1 : World} {k : IntKind} {A : Option Addr} {n : Nat} {xs : List Int} {row : Option Nat} (h : ReadsInt W k A n xs) (hg : W.grownBy W1 row) (hne : ∀ a, A = some a → some a.block ≠ row) : ReadsInt W1 k A n xs :=
 ⟨h.1, h.2.1, fun hn => by
  obtain ⟨ad, e, hc⟩ := h.2.2 hn
  refine ⟨ad, e, fun j hj => ?_⟩
  have hb : (ad.add j).block = ad.block := by unfold Addr.add; split <;> rfl
  have hlt := World.block_lt_of_cell? _ _ (hc j hj)
  exact (World.cell?_of_block (w := W) (hg.block _ hlt (by rw [hb]; exact hne ad e))).trans (hc j hj)⟩
theorem grown_set (W : World) (g j : Nat) (v : Value) : W.grownBy (W.setCell ⟨g, j, none⟩ v) (some g) :=
 ⟨rfl, rfl, rfl, by simp [World.setCell], fun k _ hne => Below.heap_setCell W ⟨g, j, none⟩ v k (fun e => hne (by rw [e]))⟩
theorem grown_refl (W : World) (row : Option Nat) : W.grownBy W row := ⟨rfl, rfl, rfl, Nat.le_refl _, fun _ _ _ => rfl⟩
theorem Rdr.grown {W W1 : World} {g base : Nat} {xs : List Int} {p err : Int} {row : Option Nat} (hR : Rdr W g base xs p err) (hg : W.grownBy W1 row) (hr : ∀ k, row = some k → k < base) : Rdr W1 g base xs p err := by
 obtain ⟨A, c, hb, hbg, hlc, hrd, ha, r⟩ := hR
 refine ⟨A, c, blk_grown hb hg (fun e => by have := hr g e.symm; omega), hbg, hlc, reads_grown hrd hg (fun a e er => by have := hr a.block er.symm; have := ha a e; omega), ha, r⟩
theorem Rdr.below {W W1 : World} {g base : Nat} {xs : List Int} {p err : Int} (hR : Rdr W g base xs p err) (hb : Below W.heap.size W W1) : Rdr W1 g base xs p err :=
 hR.grown (grown_of_below hb none) (by simp)
theorem Rdr.setAt {W : World} {g base : Nat} {xs : List Int} {p err : Int} (hR : Rdr W g base xs p err) (q : Int) (h0 : 0 ≤ q) (h1 : q ≤ xs.length) : Rdr (W.setCell ⟨g, 2, none⟩ (.int .i64 q)) g base xs q err := by
 obtain ⟨A, c, hb, hbg, hlc, hrd, ha, hx, _, _, hn⟩ := hR
 exact ⟨A, c, by simpa using blk_set hb 2 (.int .i64 q), hbg, hlc, reads_grown hrd (grown_set W g 2 _) (fun a e er => Nat.ne_of_lt (ha a e).2 (by simpa using er)), ha, hx, h0, h1, hn⟩
theorem Rdr.setErr {W : World} {g base : Nat} {xs : List Int} {p err : Int} (hR : Rdr W g base xs p err) (q : Int) : Rdr (W.setCell ⟨g, 3, none⟩ (.int .i64 q)) g base xs p q := by
 obtain ⟨A, c, hb, hbg, hlc, hrd, ha, hx, h0, h1, hn⟩ := hR
 exact ⟨A, c, by simpa using blk_set hb 3 (.int .i64 q), hbg, hlc, reads_grown hrd (grown_set W g 3 _) (fun a e er => Nat.ne_of_lt (ha a e).2 (by simpa using er)), ha, hx, h0, h1, hn⟩
theorem Rdr.lt {W : World} {g base : Nat} {xs : List Int} {p err : Int} (hR : Rdr W g base xs p err) : base ≤ g ∧ g < W.heap.size := by
 obtain ⟨A, c, hb, hbg, _⟩ := hR
 exact ⟨hbg, blk_lt hb⟩
/-- The reader lies in its block and below it. -/
theorem Rdr.keep {W W1 : World} {g base : Nat} {xs : List Int} {p err : Int} (hR : Rdr W g base xs p err) (h : ∀ i, i ≤ g → W1.heap[i]? = W.heap[i]?) : Rdr W1 g base xs p err := by
 obtain ⟨A, c, hb, hbg, hlc, hrd, ha, r⟩ := hR
 refine ⟨A, c, (h g (Nat.le_refl _)).trans hb, hbg, hlc, ⟨hrd.1, hrd.2.1, fun hn => ?_⟩, ha, r⟩
 obtain ⟨ad, e, hc⟩ := hrd.2.2 hn
 refine ⟨ad, e, fun j hj => ?_⟩
 have hbk : (ad.add j).block = ad.block := by unfold Addr.add; split <;> rfl
 exact (World.cell?_of_block (w := W) (h _ (by rw [hbk]; have := (ha ad e).2; omega))).trans (hc j hj)
/-- What a read of k bytes tells, where the reader then stands, its error. -/
def takeF (xs : List Int) (p err : Int) (k : Nat) : Int × Int × Int :=
 if err = 0 then (if p + k ≤ xs.length then (wrap64 (num ((xs.drop p.toNat).take k)), p + k, 0) else (0, p, 3)) else (0, p, err)
def RdInt (W : World) (g base : Nat) (xs : List Int) (r : Int × Int × Int) (e : Ending) (w' : World) : Prop :=
 e = .returned (.int .i64 r.1) ∧ Rdr w' g base xs r.2.1 r.2.2 ∧ W.grownBy w' (some g)
set_option maxHeartbeats 400000 in
theorem u8_any (W : World) (g base : Nat) (xs : List Int) (p err : Int) (hR : Rdr W g base xs p err) :
  Calls Try.prog 26 #[.pointer (some ⟨g, 0, none⟩)] W (RdInt W g base xs (takeF xs p err 1)) := by
 have hR0 := Lib.hid hR
 by_cases he : err = 0
 ·subst he
  by_cases h1 : p + (1 : Nat) ≤ xs.length
  ·have hf : Hid (takeF xs p 0 1 = (wrap64 (num ((xs.drop p.toNat).take 1)), p + 1, 0)) := by unfold takeF; rw [if_pos rfl, if_pos h1]; rfl
   have h34 := Lib.hid (ready_yes W g base xs p hR)
   have h35 := Lib.hid (number_yes W g base xs p 0 1 hR (by omega) h1 (by omega))
   obtain ⟨A, c, hg, hbg, hlc, hr, ha, hb, h0, hp, hn⟩ := hR
   have c0 := (blk_cell hg 0).trans rfl
   have c2 := (blk_cell hg 2).trans rfl
   have c3 := (blk_cell hg 3).trans rfl
   have f2 := blk_frozen hg 2
   have f3 := blk_frozen hg 3
   clear hg ha hb hr
   go_enter Try.func26, Try.ntmps26
   go_wp2_with (first | (go_at_call 105; refine h34.out.mono ?_; rintro e w' ⟨rfl, rfl⟩) | (go_at_call 106; refine h35.out.mono ?_; rintro e w' ⟨rfl, rfl⟩) | go_in)
   go_ret
   rw [hf.out]
   exact ⟨rfl, hR0.out.setAt _ (by omega) (by omega), grown_set W g 2 _⟩
  ·have hf : Hid (takeF xs p 0 1 = (0, p, 3)) := by unfold takeF; rw [if_pos rfl, if_neg h1]; rfl
   have h34 := Lib.hid (ready_yes W g base xs p hR)
   have h35 := Lib.hid (number_no W g base xs p 0 1 hR (by omega) h1 (by omega))
   obtain ⟨A, c, hg, hbg, hlc, hr, ha, hb, h0, hp, hn⟩ := hR
   have c0 := (blk_cell hg 0).trans rfl
   have c2 := (blk_cell hg 2).trans rfl
   have c3 := (blk_cell hg 3).trans rfl
   have f2 := blk_frozen hg 2
   have f3 := blk_frozen hg 3
   clear hg ha hb hr
   go_enter Try.func26, Try.ntmps26
   go_wp2_with (first | (go_at_call 105; refine h34.out.mono ?_; rintro e w' ⟨rfl, rfl⟩) | (go_at_call 106; refine h35.out.mono ?_; rintro e w' ⟨rfl, rfl⟩) | go_in)
   go_ret
   rw [hf.out]
   exact ⟨rfl, hR0.out.setErr _, grown_set W g 3 _⟩
 ·have hf : Hid (takeF xs p err 1 = (0, p, err)) := by unfold takeF; rw [if_neg he]; rfl
  have h34 := Lib.hid (ready_no W g base xs p err hR he)
  clear he hR
  go_enter Try.func26, Try.ntmps26
  go_wp2_with (first | (go_at_call 105; refine h34.out.mono ?_; rintro e w' ⟨rfl, rfl⟩) | go_in)
  go_ret
  rw [hf.out]
  exact ⟨rfl, hR0.out, grown_refl W _⟩
set_option maxHeartbeats 400000 in
theorem u16_any (W : World) (g base : Nat) (xs : List Int) (p err : Int) (hR : Rdr W g base xs p err) :
  Calls Try.prog 51 #[.pointer (some ⟨g, 0, none⟩)] W (RdInt W g base xs (takeF xs p err 2)) := by
 have hR0 := Lib.hid hR
 by_cases he : err = 0
 ·subst he
  by_cases h1 : p + (2 : Nat) ≤ xs.length
  ·have hf : Hid (takeF xs p 0 2 = (wrap64 (num ((xs.drop p.toNat).take 2)), p + 2, 0)) := by unfold takeF; rw [if_pos rfl, if_pos h1]; rfl
   have h34 := Lib.hid (ready_yes W g base xs p hR)
   have h35 := Lib.hid (number_yes W g base xs p 0 2 hR (by omega) h1 (by omega))
   obtain ⟨A, c, hg, hbg, hlc, hr, ha, hb, h0, hp, hn⟩ := hR
   have c0 := (blk_cell hg 0).trans rfl
   have c2 := (blk_cell hg 2).trans rfl
   have c3 := (blk_cell hg 3).trans rfl
   have f2 := blk_frozen hg 2
   have f3 := blk_frozen hg 3
   clear hg ha hb hr
   go_enter Try.func51, Try.ntmps51
   go_wp2_with (first | (go_at_call 105; refine h34.out.mono ?_; rintro e w' ⟨rfl, rfl⟩) | (go_at_call 106; refine h35.out.mono ?_; rintro e w' ⟨rfl, rfl⟩) | go_in)
   go_ret
   rw [hf.out]
   exact ⟨rfl, hR0.out.setAt _ (by omega) (by omega), grown_set W g 2 _⟩
  ·have hf : Hid (takeF xs p 0 2 = (0, p, 3)) := by unfold takeF; rw [if_pos rfl, if_neg h1]; rfl
   have h34 := Lib.hid (ready_yes W g base xs p hR)
   have h35 := Lib.hid (number_no W g base xs p 0 2 hR (by omega) h1 (by omega))
   obtain ⟨A, c, hg, hbg, hlc, hr, ha, hb, h0, hp, hn⟩ := hR
   have c0 := (blk_cell hg 0).trans rfl
   have c2 := (blk_cell hg 2).trans rfl
   have c3 := (blk_cell hg 3).trans rfl
   have f2 := blk_frozen hg 2
   have f3 := blk_frozen hg 3
   clear hg ha hb hr
   go_enter Try.func51, Try.ntmps51
   go_wp2_with (first | (go_at_call 105; refine h34.out.mono ?_; rintro e w' ⟨rfl, rfl⟩) | (go_at_call 106; refine h35.out.mono ?_; rintro e w' ⟨rfl, rfl⟩) | go_in)
   go_ret
   rw [hf.out]
   exact ⟨rfl, hR0.out.setErr _, grown_set W g 3 _⟩
 ·have hf : Hid (takeF xs p err 2 = (0, p, err)) := by unfold takeF; rw [if_neg he]; rfl
  have h34 := Lib.hid (ready_no W g base xs p err hR he)
  clear he hR
  go_enter Try.func51, Try.ntmps51
  go_wp2_with (first | (go_at_call 105; refine h34.out.mono ?_; rintro e w' ⟨rfl, rfl⟩) | go_in)
  go_ret
  rw [hf.out]
  exact ⟨rfl, hR0.out, grown_refl W _⟩
set_option maxHeartbeats 400000 in
theorem u32_any (W : World) (g base : Nat) (xs : List Int) (p err : Int) (hR : Rdr W g base xs p err) :
  Calls Try.prog 90 #[.pointer (some ⟨g, 0, none⟩)] W (RdInt W g base xs (takeF xs p err 4)) := by
 have hR0 := Lib.hid hR
 by_cases he : err = 0
 ·subst he
  by_cases h1 : p + (4 : Nat) ≤ xs.length
  ·have hf : Hid (takeF xs p 0 4 = (wrap64 (num ((xs.drop p.toNat).take 4)), p + 4, 0)) := by unfold takeF; rw [if_pos rfl, if_pos h1]; rfl
   have h34 := Lib.hid (ready_yes W g base xs p hR)
   have h35 := Lib.hid (number_yes W g base xs p 0 4 hR (by omega) h1 (by omega))
   obtain ⟨A, c, hg, hbg, hlc, hr, ha, hb, h0, hp, hn⟩ := hR
   have c0 := (blk_cell hg 0).trans rfl
   have c2 := (blk_cell hg 2).trans rfl
   have c3 := (blk_cell hg 3).trans rfl
   have f2 := blk_frozen hg 2
   have f3 := blk_frozen hg 3
   clear hg ha hb hr
   go_enter Try.func90, Try.ntmps90
   go_wp2_with (first | (go_at_call 105; refine h34.out.mono ?_; rintro e w' ⟨rfl, rfl⟩) | (go_at_call 106; refine h35.out.mono ?_; rintro e w' ⟨rfl, rfl⟩) | go_in)
   go_ret
   rw [hf.out]
   exact ⟨rfl, hR0.out.setAt _ (by omega) (by omega), grown_set W g 2 _⟩
  ·have hf : Hid (takeF xs p 0 4 = (0, p, 3)) := by unfold takeF; rw [if_pos rfl, if_neg h1]; rfl
   have h34 := Lib.hid (ready_yes W g base xs p hR)
   have h35 := Lib.hid (number_no W g base xs p 0 4 hR (by omega) h1 (by omega))
   obtain ⟨A, c, hg, hbg, hlc, hr, ha, hb, h0, hp, hn⟩ := hR
   have c0 := (blk_cell hg 0).trans rfl
   have c2 := (blk_cell hg 2).trans rfl
   have c3 := (blk_cell hg 3).trans rfl
   have f2 := blk_frozen hg 2
   have f3 := blk_frozen hg 3
   clear hg ha hb hr
   go_enter Try.func90, Try.ntmps90
   go_wp2_with (first | (go_at_call 105; refine h34.out.mono ?_; rintro e w' ⟨rfl, rfl⟩) | (go_at_call 106; refine h35.out.mono ?_; rintro e w' ⟨rfl, rfl⟩) | go_in)
   go_ret
   rw [hf.out]
   exact ⟨rfl, hR0.out.setErr _, grown_set W g 3 _⟩
 ·have hf : Hid (takeF xs p err 4 = (0, p, err)) := by unfold takeF; rw [if_neg he]; rfl
  have h34 := Lib.hid (ready_no W g base xs p err hR he)
  clear he hR
  go_enter Try.func90, Try.ntmps90
  go_wp2_with (first | (go_at_call 105; refine h34.out.mono ?_; rintro e w' ⟨rfl, rfl⟩) | go_in)
  go_ret
  rw [hf.out]
  exact ⟨rfl, hR0.out, grown_refl W _⟩
set_option maxHeartbeats 400000 in
theorem i64_any (W : World) (g base : Nat) (xs : List Int) (p err : Int) (hR : Rdr W g base xs p err) :
  Calls Try.prog 41 #[.pointer (some ⟨g, 0, none⟩)] W (RdInt W g base xs (takeF xs p err 8)) := by
 have hR0 := Lib.hid hR
 by_cases he : err = 0
 ·subst he
  by_cases h1 : p + (8 : Nat) ≤ xs.length
  ·have hf : Hid (takeF xs p 0 8 = (wrap64 (num ((xs.drop p.toNat).take 8)), p + 8, 0)) := by unfold takeF; rw [if_pos rfl, if_pos h1]; rfl
   have h34 := Lib.hid (ready_yes W g base xs p hR)
   have h35 := Lib.hid (number_yes W g base xs p 0 8 hR (by omega) h1 (by omega))
   obtain ⟨A, c, hg, hbg, hlc, hr, ha, hb, h0, hp, hn⟩ := hR
   have c0 := (blk_cell hg 0).trans rfl
   have c2 := (blk_cell hg 2).trans rfl
   have c3 := (blk_cell hg 3).trans rfl
   have f2 := blk_frozen hg 2
   have f3 := blk_frozen hg 3
   clear hg ha hb hr
   go_enter Try.func41, Try.ntmps41
   go_wp2_with (first | (go_at_call 105; refine h34.out.mono ?_; rintro e w' ⟨rfl, rfl⟩) | (go_at_call 106; refine h35.out.mono ?_; rintro e w' ⟨rfl, rfl⟩) | go_in)
   go_ret
   rw [hf.out]
   exact ⟨rfl, hR0.out.setAt _ (by omega) (by omega), grown_set W g 2 _⟩
  ·have hf : Hid (takeF xs p 0 8 = (0, p, 3)) := by unfold takeF; rw [if_pos rfl, if_neg h1]; rfl
   have h34 := Lib.hid (ready_yes W g base xs p hR)
   have h35 := Lib.hid (number_no W g base xs p 0 8 hR (by omega) h1 (by omega))
   obtain ⟨A, c, hg, hbg, hlc, hr, ha, hb, h0, hp, hn⟩ := hR
   have c0 := (blk_cell hg 0).trans rfl
   have c2 := (blk_cell hg 2).trans rfl
   have c3 := (blk_cell hg 3).trans rfl
   have f2 := blk_frozen hg 2
   have f3 := blk_frozen hg 3
   clear hg ha hb hr
   go_enter Try.func41, Try.ntmps41
   go_wp2_with (first | (go_at_call 105; refine h34.out.mono ?_; rintro e w' ⟨rfl, rfl⟩) | (go_at_call 106; refine h35.out.mono ?_; rintro e w' ⟨rfl, rfl⟩) | go_in)
   go_ret
   rw [hf.out]
   exact ⟨rfl, hR0.out.setErr _, grown_set W g 3 _⟩
 ·have hf : Hid (takeF xs p err 8 = (0, p, err)) := by unfold takeF; rw [if_neg he]; rfl
  have h34 := Lib.hid (ready_no W g base xs p err hR he)
  clear he hR
  go_enter Try.func41, Try.ntmps41
  go_wp2_with (first | (go_at_call 105; refine h34.out.mono ?_; rintro e w' ⟨rfl, rfl⟩) | go_in)
  go_ret
  rw [hf.out]
  exact ⟨rfl, hR0.out, grown_refl W _⟩
end Go.Proofs.Ytmdgdndidfcapaa.Rd
