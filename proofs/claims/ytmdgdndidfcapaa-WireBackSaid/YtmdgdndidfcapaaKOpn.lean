import Derived.Test.YtmdgdndidfcapaaKQBx0
import Derived.Deep.Fields
import Derived.Deep.Strs
import Derived.ChangeSame
import Derived.ChangeOld
namespace Go.Proofs.Ytmdgdndidfcapaa.Opn
open Go.ChangeShapes Go.WideShapes Go.Deep Go.RowKit Go.Proofs.Ytmdgdndidfcapaa.QB Go.Proofs.YtmdgdndidfcapaaW.PrintWords
set_option linter.unusedVariables false
section
variable {H : Type} {enc : TypeId × Value → H} {P : Program} {w : World} {base : Nat} {spare : Nat → Bool} {held : Bool}
/-- Cells that are read as a type's. -/
def Fld (enc : TypeId × Value → H) (P : Program) (w : World) (base : Nat) (spare : Nat → Bool) (held : Bool) (t : TypeId) (cs : List Value) : Prop := ∃ n y, DataW.trod enc P w base spare held n t cs = some y
theorem fld_struct {t : TypeId} {fs : Array Field} {cs : List Value} (ht : P.underlying t = some (.struct fs)) (h : Fld enc P w base spare held t cs) : cs.length = P.cellsOf t ∧ ∀ (i : Nat) (f : Field), fs[i]? = some f → Fld enc P w base spare held f.type ((cs.drop f.offset).take (P.cellsOf f.type)) := by
 obtain ⟨n, y, h⟩ := h
 obtain ⟨xs, n', _, _, hl, hx, hf⟩ := DataW.trod_struct ht h
 refine ⟨hl, fun i f hi => ?_⟩
 have hlt : i < xs.length := by rw [hx]; exact (Array.getElem?_eq_some_iff.1 hi).1
 exact ⟨n', xs[i], (hf i f hi).trans (List.getElem?_eq_getElem hlt)⟩
theorem fld_int {t : TypeId} {cs : List Value} (ht : P.underlying t = some (.int .i64)) (h : Fld enc P w base spare held t cs) : ∃ n : Int, cs = [.int .i64 n] ∧ -9223372036854775808 ≤ n ∧ n ≤ 9223372036854775807 := by
 obtain ⟨m, y, h⟩ := h
 obtain ⟨n, e, _, hw⟩ := DataW.trod_int ht h
 refine ⟨n, e, ?_⟩
 simp [Lit.wf, IntKind.min, IntKind.max, IntKind.bits, IntKind.signed] at hw
 omega
theorem fld_string {t : TypeId} {cs : List Value} (ht : P.underlying t = some .string) (h : Fld enc P w base spare held t cs) : ∃ s : ByteArray, cs = [.string s] := by
 obtain ⟨m, y, h⟩ := h
 obtain ⟨n, e, _⟩ := DataW.trod_string ht h
 exact ⟨n, e⟩
theorem fld_row {α : Type} (k : Kd α) (Pr : α → Prop) (z : α) {t e : TypeId} {cs : List Value} (ht : P.underlying t = some (.slice e)) (hC : P.cellsOf e = k.sz) (each : ∀ cs', Fld enc P w base spare held e cs' → ∃ x, k.K w x cs' ∧ Pr x) (h : Fld enc P w base spare held t cs) :
  ∃ (A : Option Addr) (cap : Nat) (l : List α), cs = [.slice A l.length cap] ∧ l.length ≤ cap ∧ Kd.C k w A l.length l ∧ ∀ x ∈ l, Pr x := by
 obtain ⟨fuel, y, h⟩ := h
 rcases open_slice ht h with ⟨hcs, _⟩ | ⟨a, len, cap, m, n, D, Pl, hcs, hb, hl, hm, hmm, hx, hi⟩
 ·exact ⟨none, 0, [], hcs, Nat.le_refl _, ⟨rfl, by simp, fun h => absurd h (by simp)⟩, fun _ h => by cases h⟩
 ·have hlm : len ≤ m := by
   rw [hmm]
   split
   ·exact hl
   ·exact Nat.le_refl _
  have each2 : ∀ j, ∃ x : α, j < len → Pr x ∧ ∃ c : List Value, c.length = k.sz ∧ k.K w x c ∧ ∀ i u, c[i]? = some u → w.cell? (a.add (j * k.sz + i)) = some u := by
   intro j
   by_cases hj : j < len
   ·obtain ⟨cs', hc, ht'⟩ := hi j (by omega)
    rw [hC] at hc
    obtain ⟨x, hx, hp⟩ := each cs' ⟨n, _, ht'⟩
    obtain ⟨_, hcl, hat⟩ := World.cells?_some hc
    refine ⟨x, fun _ => ⟨hp, cs', hcl, hx, fun i u hu => ?_⟩⟩
    have hil : i < k.sz := by rw [← hcl]; exact (List.getElem?_eq_some_iff.1 hu).1
    rw [← Go.Deep.add_add, hat i hil, hu]
   ·exact ⟨z, fun h => absurd h hj⟩
  have hmx : len ≤ 9223372036854775807 := by unfold maxLen at hm; omega
  have hlen : ((List.range len).map fun j => Classical.choose (each2 j)).length = len := by simp
  refine ⟨some a, cap, (List.range len).map fun j => Classical.choose (each2 j), by rw [hlen]; exact hcs, by rw [hlen]; exact hl, ⟨rfl, by rw [hlen]; exact hmx, fun _ => ⟨a, rfl, fun j p hp => ?_⟩⟩, ?_⟩
  ·obtain ⟨hj, rfl⟩ : j < len ∧ Classical.choose (each2 j) = p := by
    rw [List.getElem?_map] at hp
    by_cases hj : j < len
    ·rw [List.getElem?_range hj] at hp
     exact ⟨hj, by simpa using hp⟩
    ·rw [List.getElem?_eq_none (by simpa using hj)] at hp
     simp at hp
   exact (Classical.choose_spec (each2 j) hj).2
  ·intro x hx
   obtain ⟨j, hj, rfl⟩ := List.mem_map.1 hx
   exact (Classical.choose_spec (each2 j) (List.mem_range.1 hj)).1
end
def I64 (n : Int) : Prop := -9223372036854775808 ≤ n ∧ n ≤ 9223372036854775807
set_option maxRecDepth 100000 in
/-- A request that came in. -/
theorem request {H : Type} {enc : TypeId × Value → H} {w : World} {base : Nat} {spare : Nat → Bool} {held : Bool} {cs : List Value} (h : Fld enc Try.prog w base spare held 30 cs) :
  ∃ (x0 : Int) (x1 : Int) (x2 : ByteArray) (x3 : ByteArray) (x4 : ByteArray) (x5 : ByteArray) (x6 : ByteArray) (x7 : ByteArray) (x8 : Int) (x9 : Int) (x10 : Int) (x11 : Int) (x12 : Int) (A13 : Option Addr) (c13_ : Nat) (x13 : List Int), cs = [.int .i64 x0, .int .i64 x1, .string x2, .string x3, .string x4, .string x5, .string x6, .string x7, .int .i64 x8, .int .i64 x9, .int .i64 x10, .int .i64 x11, .int .i64 x12, .slice A13 x13.length c13_] ∧ I64 x0 ∧ I64 x1 ∧ I64 x8 ∧ I64 x9 ∧ I64 x10 ∧ I64 x11 ∧ I64 x12 ∧ (x13.length ≤ c13_ ∧ Kd.C (Kd.int .i64) w A13 x13.length x13 ∧ ∀ x ∈ x13, (fun _ => True) x) := by
 have hl := (fld_struct Try.underlying30 h).1
 have ct : Try.prog.cellsOf 30 = 14 := by kernel_rfl
 rw [ct] at hl
 have c3 : Try.prog.cellsOf 3 = 1 := by kernel_rfl
 have c9 : Try.prog.cellsOf 9 = 1 := by kernel_rfl
 have c22 : Try.prog.cellsOf 22 = 1 := by kernel_rfl
 have c23 : Try.prog.cellsOf 23 = 1 := by kernel_rfl
 have c25 : Try.prog.cellsOf 25 = 2 := by kernel_rfl
 have c27 : Try.prog.cellsOf 27 = 3 := by kernel_rfl
 have c28 : Try.prog.cellsOf 28 = 1 := by kernel_rfl
 match cs, hl with
 | [u0, u1, u2, u3, u4, u5, u6, u7, u8, u9, u10, u11, u12, u13], _ =>
  obtain ⟨_, g0⟩ := fld_struct Try.underlying30 h
  have f1 : Fld enc Try.prog w base spare held 22 (([u0, u1, u2, u3, u4, u5, u6, u7, u8, u9, u10, u11, u12, u13].drop 0).take (Try.prog.cellsOf 22)) := g0 0 _ rfl
  rw [c22] at f1
  replace f1 : Fld enc Try.prog w base spare held 22 [u0] := f1
  obtain ⟨x0, e0, w0⟩ := fld_int Try.underlying22 f1
  have f2 : Fld enc Try.prog w base spare held 3 (([u0, u1, u2, u3, u4, u5, u6, u7, u8, u9, u10, u11, u12, u13].drop 1).take (Try.prog.cellsOf 3)) := g0 1 _ rfl
  rw [c3] at f2
  replace f2 : Fld enc Try.prog w base spare held 3 [u1] := f2
  obtain ⟨x1, e1, w1⟩ := fld_int Try.underlying3 f2
  have f3 : Fld enc Try.prog w base spare held 9 (([u0, u1, u2, u3, u4, u5, u6, u7, u8, u9, u10, u11, u12, u13].drop 2).take (Try.prog.cellsOf 9)) := g0 2 _ rfl
  rw [c9] at f3
  replace f3 : Fld enc Try.prog w base spare held 9 [u2] := f3
  obtain ⟨x2, e2⟩ := fld_string Try.underlying9 f3
  have f4 : Fld enc Try.prog w base spare held 9 (([u0, u1, u2, u3, u4, u5, u6, u7, u8, u9, u10, u11, u12, u13].drop 3).take (Try.prog.cellsOf 9)) := g0 3 _ rfl
  rw [c9] at f4
  replace f4 : Fld enc Try.prog w base spare held 9 [u3] := f4
  obtain ⟨x3, e3⟩ := fld_string Try.underlying9 f4
  have f5 : Fld enc Try.prog w base spare held 9 (([u0, u1, u2, u3, u4, u5, u6, u7, u8, u9, u10, u11, u12, u13].drop 4).take (Try.prog.cellsOf 9)) := g0 4 _ rfl
  rw [c9] at f5
  replace f5 : Fld enc Try.prog w base spare held 9 [u4] := f5
  obtain ⟨x4, e4⟩ := fld_string Try.underlying9 f5
  have f6 : Fld enc Try.prog w base spare held 9 (([u0, u1, u2, u3, u4, u5, u6, u7, u8, u9, u10, u11, u12, u13].drop 5).take (Try.prog.cellsOf 9)) := g0 5 _ rfl
  rw [c9] at f6
  replace f6 : Fld enc Try.prog w base spare held 9 [u5] := f6
  obtain ⟨x5, e5⟩ := fld_string Try.underlying9 f6
  have f7 : Fld enc Try.prog w base spare held 9 (([u0, u1, u2, u3, u4, u5, u6, u7, u8, u9, u10, u11, u12, u13].drop 6).take (Try.prog.cellsOf 9)) := g0 6 _ rfl
  rw [c9] at f7
  replace f7 : Fld enc Try.prog w base spare held 9 [u6] := f7
  obtain ⟨x6, e6⟩ := fld_string Try.underlying9 f7
  have f8 : Fld enc Try.prog w base spare held 9 (([u0, u1, u2, u3, u4, u5, u6, u7, u8, u9, u10, u11, u12, u13].drop 7).take (Try.prog.cellsOf 9)) := g0 7 _ rfl
  rw [c9] at f8
  replace f8 : Fld enc Try.prog w base spare held 9 [u7] := f8
  obtain ⟨x7, e7⟩ := fld_string Try.underlying9 f8
  have f9 : Fld enc Try.prog w base spare held 27 (([u0, u1, u2, u3, u4, u5, u6, u7, u8, u9, u10, u11, u12, u13].drop 8).take (Try.prog.cellsOf 27)) := g0 8 _ rfl
  rw [c27] at f9
  replace f9 : Fld enc Try.prog w base spare held 27 [u8, u9, u10] := f9
  obtain ⟨_, g10⟩ := fld_struct Try.underlying27 f9
  have f11 : Fld enc Try.prog w base spare held 23 (([u8, u9, u10].drop 0).take (Try.prog.cellsOf 23)) := g10 0 _ rfl
  rw [c23] at f11
  replace f11 : Fld enc Try.prog w base spare held 23 [u8] := f11
  obtain ⟨x8, e8, w8⟩ := fld_int Try.underlying23 f11
  have f12 : Fld enc Try.prog w base spare held 25 (([u8, u9, u10].drop 1).take (Try.prog.cellsOf 25)) := g10 1 _ rfl
  rw [c25] at f12
  replace f12 : Fld enc Try.prog w base spare held 25 [u9, u10] := f12
  obtain ⟨_, g13⟩ := fld_struct Try.underlying25 f12
  have f14 : Fld enc Try.prog w base spare held 3 (([u9, u10].drop 0).take (Try.prog.cellsOf 3)) := g13 0 _ rfl
  rw [c3] at f14
  replace f14 : Fld enc Try.prog w base spare held 3 [u9] := f14
  obtain ⟨x9, e9, w9⟩ := fld_int Try.underlying3 f14
  have f15 : Fld enc Try.prog w base spare held 3 (([u9, u10].drop 1).take (Try.prog.cellsOf 3)) := g13 1 _ rfl
  rw [c3] at f15
  replace f15 : Fld enc Try.prog w base spare held 3 [u10] := f15
  obtain ⟨x10, e10, w10⟩ := fld_int Try.underlying3 f15
  have f16 : Fld enc Try.prog w base spare held 3 (([u0, u1, u2, u3, u4, u5, u6, u7, u8, u9, u10, u11, u12, u13].drop 11).take (Try.prog.cellsOf 3)) := g0 9 _ rfl
  rw [c3] at f16
  replace f16 : Fld enc Try.prog w base spare held 3 [u11] := f16
  obtain ⟨x11, e11, w11⟩ := fld_int Try.underlying3 f16
  have f17 : Fld enc Try.prog w base spare held 3 (([u0, u1, u2, u3, u4, u5, u6, u7, u8, u9, u10, u11, u12, u13].drop 12).take (Try.prog.cellsOf 3)) := g0 10 _ rfl
  rw [c3] at f17
  replace f17 : Fld enc Try.prog w base spare held 3 [u12] := f17
  obtain ⟨x12, e12, w12⟩ := fld_int Try.underlying3 f17
  have f18 : Fld enc Try.prog w base spare held 28 (([u0, u1, u2, u3, u4, u5, u6, u7, u8, u9, u10, u11, u12, u13].drop 13).take (Try.prog.cellsOf 28)) := g0 11 _ rfl
  rw [c28] at f18
  replace f18 : Fld enc Try.prog w base spare held 28 [u13] := f18
  obtain ⟨A13, c13_, x13, e13, hc13, hC13, hp13⟩ := fld_row (Kd.int .i64) (fun _ => True) 0 Try.underlying28 (by kernel_rfl) (fun cs_ h_ => by obtain ⟨x, hx, _⟩ := fld_int Try.underlying3 h_; exact ⟨x, hx ▸ rfl, trivial⟩) f18
  obtain rfl : u0 = .int .i64 x0 := by simpa using e0
  obtain rfl : u1 = .int .i64 x1 := by simpa using e1
  obtain rfl : u2 = .string x2 := by simpa using e2
  obtain rfl : u3 = .string x3 := by simpa using e3
  obtain rfl : u4 = .string x4 := by simpa using e4
  obtain rfl : u5 = .string x5 := by simpa using e5
  obtain rfl : u6 = .string x6 := by simpa using e6
  obtain rfl : u7 = .string x7 := by simpa using e7
  obtain rfl : u8 = .int .i64 x8 := by simpa using e8
  obtain rfl : u9 = .int .i64 x9 := by simpa using e9
  obtain rfl : u10 = .int .i64 x10 := by simpa using e10
  obtain rfl : u11 = .int .i64 x11 := by simpa using e11
  obtain rfl : u12 = .int .i64 x12 := by simpa using e12
  obtain rfl : u13 = .slice A13 x13.length c13_ := by simpa using e13
  exact ⟨x0, x1, x2, x3, x4, x5, x6, x7, x8, x9, x10, x11, x12, A13, c13_, x13, rfl, w0, w1, w8, w9, w10, w11, w12, ⟨hc13, hC13, hp13⟩⟩
end Go.Proofs.Ytmdgdndidfcapaa.Opn
