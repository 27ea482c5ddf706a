import Derived.Test.YtmdgdndidfcapaaKRdText
import Derived.Lib.SliceRun
namespace Go.Proofs.Ytmdgdndidfcapaa.Rd
open Go.RowKit Go.Proofs.YtmdgdndidfcapaaW.PrintWords Go.Proofs.YtmdgdndidfcapaaW.PrintLast Go.Proofs.YtmdgdndidfcapaaW.PrintMore
theorem info5w : (Try.prog.info? 5).map (fun i => (i.zero, i.size, i.bytes)) = some (some (.int .u8 0), 1, 1) := by kernel_rfl
set_option maxHeartbeats 400000 in
theorem clone_nil (W : World) (c : Nat) :
  Calls Try.prog 66 #[.slice none 0 c] W fun e w' => e = .returned (.slice none 0 0) ∧ W = w' := by
 have heq := fun w : World => Lib.run_eql_slice_nil (P := Try.prog) w 31 5 none 0 c 0 0 Try.underlying31
 go_enter Try.func66, Try.ntmps66
 go_wp2
 go_ret
 exact ⟨rfl, rfl⟩
set_option maxHeartbeats 400000 in
theorem clone_some (W : World) (a : Addr) (n c : Nat) (xs : List Int) (hr : ReadsInt W .u8 (some a) n xs) (hn : n ≤ 140737488351232) :
  Calls Try.prog 66 #[.slice (some a) n c] W fun e w' => ∃ v, e = .returned v ∧ w'.ownsRow W.heap.size 5 1 v n (nums .u8 xs) ∧ Below W.heap.size W w' := by
 have heq := fun w : World => Lib.run_eql_slice_nil (P := Try.prog) w 31 5 (some a) n c 0 0 Try.underlying31
 have hr' := Lib.hid hr
 have hxl := hr.1
 have hxn := Lib.hid hxl
 have HO := Lib.hid (own_lit W W.heap.size 5 .u8 [] (Nat.le_refl _) (by simp))
 clear hr hxl
 go_enter Try.func66, Try.ntmps66
 go_wp2_with (first | (at_builtin; refine print_append_row (w0 := W) W.heap.size rfl (.tmp 5) (.tmp 6) 31 5 .u8 1 rfl Try.underlying31 info5w (by decide) (.slice (some ⟨W.heap.size, 0, none⟩) 0 0) [] xs (some a) n c rfl rfl HO.out (hr'.out.allocS _) (below_alloc (Below.refl _ _) _) (by simp) (by simp; omega) ?_; intro v1 w1 ho hb hg hat))
 go_ret
 rw [List.nil_append, hxn.out] at ho
 exact ⟨v1, rfl, ho, hb⟩
theorem clone_any (W : World) (A : Option Addr) (n c : Nat) (xs : List Int) (hr : ReadsInt W .u8 A n xs) (hn : n ≤ 140737488351232) :
  Calls Try.prog 66 #[.slice A n c] W fun e w' => ∃ v, e = .returned v ∧ w'.ownsRow W.heap.size 5 1 v n (nums .u8 xs) ∧ Below W.heap.size W w' := by
 rcases A with _ | a
 ·have h0 : n = 0 := by
   rcases Nat.eq_zero_or_pos n with h0 | h0
   ·exact h0
   ·obtain ⟨ad, h', _⟩ := hr.2.2 h0
    cases h'
  subst h0
  obtain rfl : xs = [] := List.eq_nil_of_length_eq_zero hr.1
  refine (clone_nil W c).mono ?_
  rintro e w' ⟨rfl, rfl⟩
  exact ⟨_, rfl, own_nil _ _ _ _, Below.refl _ _⟩
 ·exact clone_some W a n c xs hr hn
set_option maxHeartbeats 400000 in
theorem new_any (W : World) (A : Option Addr) (n c : Nat) (xs : List Int) (hr : ReadsInt W .u8 A n xs) (hn : n ≤ 140737488351232) (hb : ∀ x ∈ xs, 0 ≤ x ∧ x ≤ 255) :
  Calls Try.prog 25 #[.slice A n c] W fun e w' => ∃ g, e = .returned (.pointer (some ⟨g, 0, none⟩)) ∧ Rdr w' g W.heap.size xs 0 0 ∧ Below W.heap.size W w' := by
 have hc := Lib.hid (clone_any W A n c xs hr hn)
 have hr' := Lib.hid hr
 have hb' := Lib.hid hb
 clear hr hb
 go_enter Try.func25, Try.ntmps25
 go_wp2_with (first | (go_at_call 66; refine hc.out.mono ?_; rintro e w' ⟨v, rfl, ho, hB⟩; obtain ⟨A', c', rfl, hr2⟩ := own_reads ho))
 go_ret
 refine ⟨_, rfl, ?_, below_alloc hB _⟩
 have hxl : xs.length = n := hr'.out.1
 have hle := own_le ho
 subst hxl
 refine ⟨A', c', blk_new w' _, hB.size, hle, hr2.allocS _, fun a ha => ?_, hb'.out, by omega, by omega, hn⟩
 have h1 := own_base ho a.block (by rw [ha]; rfl)
 have h2 := own_lt ho a.block (by rw [ha]; rfl)
 exact ⟨h1, by omega⟩
end Go.Proofs.Ytmdgdndidfcapaa.Rd
