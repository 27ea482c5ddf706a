/- FieldPuts over plain numbers and lists, where bytes and text are of at most 1048576 each: any number has, of each width, the bytes that the document says, and any text, behind whatever stood there. -/
import Derived.Test.YtgppbcgbnlobbaaQFx3
import Derived.Test.YtgppbcgbnlobbaaOrd
namespace Go.Proofs.Ytgppbcgbnlobbaa.Pure
open Go.RowKit Go.Proofs.Ytgppbcgbnlobbaa.QF Go.Proofs.YtgppbcgbnlobbaaW.PrintWords Go.Proofs.YtgppbcgbnlobbaaW.PrintLast Go.Proofs.YtgppbcgbnlobbaaW.PrintMore
open Go.Proofs.Ytgppbcgbnlobbaa.Be (be be_length be_1 be_2 be_4 be_8 wrap_u64_mod strOfNums_append strOfNums_bytesOf)

theorem be_wrap (w : Nat) (hw : w ≤ 3) (x : Int) : be (2 ^ w) (IntKind.u64.wrap x) = be (2 ^ w) x := by
  rw [wrap_u64_mod]
  rcases (by omega : w = 0 ∨ w = 1 ∨ w = 2 ∨ w = 3) with h | h | h | h <;> subst h
  · exact be_1 _ _ (by omega)
  · exact be_2 _ _ (by omega)
  · exact be_4 _ _ (by omega)
  · exact be_8 _ _ (by omega)
theorem shl_one (m : Nat) (hm : m ≤ 3) : shl .i64 1 (m : Int) = ((2 ^ m : Nat) : Int) := (by decide : ∀ m : Fin 4, shl .i64 1 ((m.val : Nat) : Int) = ((2 ^ m.val : Nat) : Int)) ⟨m, by omega⟩
theorem pow_le (m : Nat) (hm : m ≤ 3) : 2 ^ m ≤ 8 := (by decide : ∀ m : Fin 4, 2 ^ m.val ≤ 8) ⟨m, by omega⟩
theorem puts_round (K w : Nat) (hw : w ≤ 3) (hK : 9 < K) (l0 : List Int) (a1 : Int) (a2 : ByteArray) (hl : l0.length ≤ 1048576) :
    ambrylaw01_FieldPuts.l0 (K + 1) l0 a1 a2 (strOfNums l0) w = ambrylaw01_FieldPuts.l0 K l0 a1 a2 (strOfNums l0) ((w + 1 : Nat) : Int) := by
  have hp := pow_le w hw
  simp only [ambrylaw01_FieldPuts.l0]
  have e1 : IntKind.u64.wrap (w : Int) = w := by rw [wrap_u64_mod]; omega
  rw [if_pos (by omega)]
  simp only [Option.bind_some, List.nil_append, List.length_nil, Nat.zero_add]
  rw [if_pos (by omega), Be.put K w l0 a1 hw (by omega) (by omega)]
  simp only [Option.bind_some]
  rw [e1, if_pos (by omega), shl_one w hw, Be.Field K (2 ^ w) a1 hp (by omega)]
  simp only [Option.bind_some]
  rw [be_wrap w hw, if_pos (by rw [strOfNums_size, strOfNums_size, be_length]; omega), if_pos (by rw [strOfNums_append]), Be.w64 _ (by omega) (by omega)]
  rfl
theorem FieldPuts (l0 : List Int) (a1 : Int) (a2 : ByteArray) (hl : l0.length ≤ 1048576) (hs : a2.size ≤ 1048576) : ambrylaw01_FieldPuts.f 20 l0 a1 a2 = some true := by
  unfold ambrylaw01_FieldPuts.f
  have h0 := puts_round 19 0 (by omega) (by omega) l0 a1 a2 hl
  have h1 := puts_round 18 1 (by omega) (by omega) l0 a1 a2 hl
  have h2 := puts_round 17 2 (by omega) (by omega) l0 a1 a2 hl
  have h3 := puts_round 16 3 (by omega) (by omega) l0 a1 a2 hl
  refine h0.trans (h1.trans (h2.trans (h3.trans ?_)))
  show ambrylaw01_FieldPuts.l0 (15 + 1) l0 a1 a2 (strOfNums l0) ((4 : Nat) : Int) = some true
  simp only [ambrylaw01_FieldPuts.l0]
  rw [if_neg (by omega)]
  simp only [Option.bind_some, List.nil_append, List.length_nil, Nat.zero_add]
  rw [if_pos (by omega), Be.PutText 15 l0 a2 (by omega) (by omega)]
  simp only [Option.bind_some]
  unfold ambryref01_Text.f
  have hF := Be.Field 15 4 (a2.size : Int) (by omega) (by omega)
  have hw := be_wrap 2 (by omega) (a2.size : Int)
  rw [show ((4 : Nat) : Int) = 4 from rfl] at hF
  rw [hF, show be 4 (IntKind.u64.wrap (a2.size : Int)) = be 4 (a2.size : Int) from hw]
  simp only [Option.bind_some]
  rw [if_pos (by rw [strOfNums_size, be_length]; omega)]
  simp only [Option.bind_some]
  rw [if_pos (by rw [ByteArray.size_append, strOfNums_size, strOfNums_size, be_length]; omega), if_pos (by rw [strOfNums_append, strOfNums_append, strOfNums_bytesOf, ByteArray.append_assoc])]
  rfl
end Go.Proofs.Ytgppbcgbnlobbaa.Pure
