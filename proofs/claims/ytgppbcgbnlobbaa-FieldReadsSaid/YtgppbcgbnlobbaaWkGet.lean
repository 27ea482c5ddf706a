/- The law's get and put, each a contract: a number of a width read, a number's field put behind a row of the call's own. -/
import Derived.Test.YtgppbcgbnlobbaaQFx2
import Derived.Test.YtgppbcgbnlobbaaOrd
namespace Go.Proofs.Ytgppbcgbnlobbaa.Wk
open Go.RowKit Go.Proofs.YtgppbcgbnlobbaaW.PrintWords Go.Proofs.YtgppbcgbnlobbaaW.PrintLast Go.Proofs.YtgppbcgbnlobbaaW.PrintMore
theorem lives (w : World) : Calls Try.prog 13 #[] w fun e w' => e = .returned (.bool true) ∧ Below w.heap.size w w' := QF.ambrylaw01_lives.calls true w rfl
/-- The same, hidden from the walk's rules: what a reading call ends in. -/
def RdPost (W : World) (g base : Nat) (xs : List Int) (r : Int × Int × Int) (e : Ending) (w' : World) : Prop := Rd.RdInt W g base xs r e w'
set_option maxHeartbeats 1000000 in
theorem get_0 (W : World) (g base : Nat) (xs : List Int) (p err : Int) (hR : Rd.Rdr W g base xs p err) : Calls Try.prog 16 #[.pointer (some ⟨g, 0, none⟩), .int .i64 0] W (Rd.RdInt W g base xs (Rd.takeF xs p err 1)) := by
  have h := Lib.hid (Rd.u8_any W g base xs p err hR)
  generalize Rd.takeF xs p err 1 = r at *
  go_enter Try.func16, Try.ntmps16
  go_wp2_with (first | (go_at_call 23; refine h.out.mono ?_; rintro e w' ⟨rfl, hR1, hG1⟩))
  go_ret
  exact ⟨rfl, hR1, hG1⟩
set_option maxHeartbeats 1000000 in
theorem get_1 (W : World) (g base : Nat) (xs : List Int) (p err : Int) (hR : Rd.Rdr W g base xs p err) : Calls Try.prog 16 #[.pointer (some ⟨g, 0, none⟩), .int .i64 1] W (Rd.RdInt W g base xs (Rd.takeF xs p err 2)) := by
  have h := Lib.hid (Rd.u16_any W g base xs p err hR)
  generalize Rd.takeF xs p err 2 = r at *
  go_enter Try.func16, Try.ntmps16
  go_wp2_with (first | (go_at_call 24; refine h.out.mono ?_; rintro e w' ⟨rfl, hR1, hG1⟩))
  go_ret
  exact ⟨rfl, hR1, hG1⟩
set_option maxHeartbeats 1000000 in
theorem get_2 (W : World) (g base : Nat) (xs : List Int) (p err : Int) (hR : Rd.Rdr W g base xs p err) : Calls Try.prog 16 #[.pointer (some ⟨g, 0, none⟩), .int .i64 2] W (Rd.RdInt W g base xs (Rd.takeF xs p err 4)) := by
  have h := Lib.hid (Rd.u32_any W g base xs p err hR)
  generalize Rd.takeF xs p err 4 = r at *
  go_enter Try.func16, Try.ntmps16
  go_wp2_with (first | (go_at_call 25; refine h.out.mono ?_; rintro e w' ⟨rfl, hR1, hG1⟩))
  go_ret
  exact ⟨rfl, hR1, hG1⟩
set_option maxHeartbeats 1000000 in
theorem get_3 (W : World) (g base : Nat) (xs : List Int) (p err : Int) (hR : Rd.Rdr W g base xs p err) : Calls Try.prog 16 #[.pointer (some ⟨g, 0, none⟩), .int .i64 3] W (Rd.RdInt W g base xs (Rd.takeF xs p err 8)) := by
  have h := Lib.hid (Rd.i64_any W g base xs p err hR)
  generalize Rd.takeF xs p err 8 = r at *
  go_enter Try.func16, Try.ntmps16
  go_wp2_with (first | (go_at_call 26; refine h.out.mono ?_; rintro e w' ⟨rfl, hR1, hG1⟩))
  go_ret
  exact ⟨rfl, hR1, hG1⟩
theorem get_any (W : World) (g base : Nat) (xs : List Int) (p err : Int) (hR : Rd.Rdr W g base xs p err) (w : Nat) (hw : w ≤ 3) : Calls Try.prog 16 #[.pointer (some ⟨g, 0, none⟩), .int .i64 (w : Int)] W (Rd.RdInt W g base xs (Rd.takeF xs p err (2 ^ w))) := by
  rcases (by omega : w = 0 ∨ w = 1 ∨ w = 2 ∨ w = 3) with h | h | h | h <;> subst h
  · exact get_0 W g base xs p err hR
  · exact get_1 W g base xs p err hR
  · exact get_2 W g base xs p err hR
  · exact get_3 W g base xs p err hR
/-- A row of bytes of the call's own: its value, and what it reads. -/
theorem own_of (W : World) (base : Nat) (ok : Nat → Prop) (v : Value) (xs : List Int) (h : Kd.R (Kd.int .u8) 5 W base ok v xs) : W.ownsRow base 5 1 v xs.length (nums .u8 xs) := Kd.own_of_R h
theorem put_own (W0 W : World) (v : Value) (l : List Int) (w : Nat) (hw : w ≤ 3) (x : Int) (hl : l.length + 8 ≤ 140737488355328) (hB : Below W0.heap.size W0 W) (ho : W.ownsRow W0.heap.size 5 1 v l.length (nums .u8 l)) :
    Calls Try.prog 9 #[v, .int .i64 (w : Int), .int .i64 x] W fun e w' => ∃ v', e = .returned v' ∧ w'.ownsRow W0.heap.size 5 1 v' (l ++ Be.be (2 ^ w) x).length (nums .u8 (l ++ Be.be (2 ^ w) x)) ∧ Below W0.heap.size W0 w' := by
  refine (QF.ambrylaw01_put.calls 9 (fun _ => True) v l (w : Int) x _ W0 W hB (Kd.R_of_own (h1 := fun _ => rfl) ho fun _ _ => trivial) (Be.put 9 w l x hw (by omega) hl)).mono ?_
  rintro e w' ⟨v', rfl, ho', hb, _⟩
  exact ⟨v', rfl, own_of _ _ _ _ _ ho', hb⟩
theorem text_own (W0 W : World) (v : Value) (l : List Int) (s : ByteArray) (hl : l.length + 4 + s.size < 140737488355328) (hB : Below W0.heap.size W0 W) (ho : W.ownsRow W0.heap.size 5 1 v l.length (nums .u8 l)) :
    Calls Try.prog 11 #[v, .string s] W fun e w' => ∃ v', e = .returned v' ∧ w'.ownsRow W0.heap.size 5 1 v' (l ++ Be.be 4 s.size ++ bytesOf s).length (nums .u8 (l ++ Be.be 4 s.size ++ bytesOf s)) ∧ Below W0.heap.size W0 w' := by
  refine (QF.field_PutText.calls 5 (fun _ => True) v l s _ W0 W hB (Kd.R_of_own (h1 := fun _ => rfl) ho fun _ _ => trivial) (Be.PutText 5 l s (by omega) hl)).mono ?_
  rintro e w' ⟨v', rfl, ho', hb, _⟩
  exact ⟨v', rfl, own_of _ _ _ _ _ ho', hb⟩
end Go.Proofs.Ytgppbcgbnlobbaa.Wk
