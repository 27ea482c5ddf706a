import Derived.Test.YtmdgdndidfcapaaKTwansparts
import Derived.Test.YtmdgdndidfcapaaKQBx18
import Derived.Test.YtmdgdndidfcapaaKSt
namespace Go.Proofs.Ytmdgdndidfcapaa.QB
open Go.RowKit Go.Proofs.YtmdgdndidfcapaaW.PrintWords Go.Proofs.YtmdgdndidfcapaaW.PrintLast Go.Proofs.YtmdgdndidfcapaaW.PrintMore
attribute [local go_sem] max2_int min2_int max_two min_two max_three min_three max_four min_four
set_option linter.unusedVariables false
set_option linter.unusedSimpArgs false
def wire_ReadAnswer.T2 : Bool × List (List Nat × List Nat) := (true, [([], []), ([0], [0]), ([1], [1]), ([], []), ([3], [3]), ([4, 2], [4]), ([], []), ([6], [6]), ([7, 5], [7]), ([], []), ([9, 8], [9]), ([], []), ([11, 10], [11]), ([2, 5, 8, 10, 12], [2, 5, 8, 10, 12]), ([], []), ([14, 13, 12, 0, 1, 2, 3, 4, 5, 6, 7, 8, 9, 10, 11, 12, 13, 14], [13, 14])])
def wire_ReadAnswer.B2 : List Nat := [0, 1, 3, 0, 8, 31, 0, 64, 255, 0, 1023, 0, 4095, 8191, 0, 32767]
theorem wire_ReadAnswer.tab2 : rtab .any (opsOf Try.f15 2) = wire_ReadAnswer.T2 := by kernel_rfl
theorem wire_ReadAnswer.bits2 : waitsOk wire_ReadAnswer.T2.2 wire_ReadAnswer.B2 = true := by kernel_rfl
def wire_ReadAnswer.T3 : Bool × List (List Nat × List Nat) := (true, [([], []), ([0], [0]), ([], []), ([2, 1], [2]), ([], []), ([4, 3], [4]), ([0, 1], []), ([6, 0, 1], [6]), ([7, 1, 5, 0, 1], [1, 7]), ([0, 1, 2, 3, 6, 7, 8], []), ([9, 0, 1, 2, 3, 6, 7, 8], [9]), ([10, 3, 8, 0, 1, 2, 3, 6, 7, 8], [3, 10]), ([0, 1, 2, 3, 4, 5, 6, 7, 8, 9, 10, 11], []), ([12, 0, 1, 2, 3, 4, 5, 6, 7, 8, 9, 10, 11], [12]), ([13, 5, 11, 0, 1, 2, 3, 4, 5, 6, 7, 8, 9, 10, 11], [5, 13])])
def wire_ReadAnswer.B3 : List Nat := [0, 1, 0, 7, 0, 31, 3, 67, 255, 511, 1023, 2047, 4095, 8191, 16383]
theorem wire_ReadAnswer.tab3 : rtab .any (opsOf Try.f15 3) = wire_ReadAnswer.T3 := by kernel_rfl
theorem wire_ReadAnswer.bits3 : waitsOk wire_ReadAnswer.T3.2 wire_ReadAnswer.B3 = true := by kernel_rfl
def wire_ReadAnswer.T4 : Bool × List (List Nat × List Nat) := (true, [([], []), ([0], [0]), ([], []), ([2, 1], [2]), ([], []), ([4, 3], [4]), ([0, 1], []), ([6, 1, 5, 0, 1], [1, 6]), ([0, 1, 2, 3, 6, 7], []), ([8, 0, 1, 2, 3, 6, 7], [8]), ([9, 3, 7, 0, 1, 2, 3, 6, 7], [3, 9]), ([0, 1, 2, 3, 4, 5, 6, 7, 8, 9, 10], []), ([11, 0, 1, 2, 3, 4, 5, 6, 7, 8, 9, 10], [11]), ([12, 5, 10, 0, 1, 2, 3, 4, 5, 6, 7, 8, 9, 10], [5, 12])])
def wire_ReadAnswer.B4 : List Nat := [0, 1, 0, 7, 0, 31, 3, 127, 255, 511, 1023, 2047, 4095, 8191]
theorem wire_ReadAnswer.tab4 : rtab .any (opsOf Try.f15 4) = wire_ReadAnswer.T4 := by kernel_rfl
theorem wire_ReadAnswer.bits4 : waitsOk wire_ReadAnswer.T4.2 wire_ReadAnswer.B4 = true := by kernel_rfl
def wire_ReadAnswer.T5 : Bool × List (List Nat × List Nat) := (true, [([], []), ([0], [0]), ([], []), ([2, 1], [2]), ([0, 1], []), ([4, 0, 1], [4]), ([5, 1, 3, 0, 1], [1, 5]), ([0, 1, 2, 3, 4, 5, 6], []), ([7, 0, 1, 2, 3, 4, 5, 6], [7]), ([8, 3, 6, 0, 1, 2, 3, 4, 5, 6], [3, 8])])
def wire_ReadAnswer.B5 : List Nat := [0, 1, 0, 7, 3, 19, 63, 127, 255, 511]
theorem wire_ReadAnswer.tab5 : rtab .any (opsOf Try.f15 5) = wire_ReadAnswer.T5 := by kernel_rfl
theorem wire_ReadAnswer.bits5 : waitsOk wire_ReadAnswer.T5.2 wire_ReadAnswer.B5 = true := by kernel_rfl
/-- The world in which ReadAnswer is under way: the reader, the reader's variable, the result's variable; what is elder is as it was. -/
def AnP (w : World) (g rb gb : Nat) (xs : List Int) (W : World) (p err : Int) : Prop := Rd.Rdr W g (rb + 1) xs p err ∧ W.heap[gb]? = some (.cells #[.pointer (some ⟨g, 0, none⟩)] 75 (0, 0)) ∧ W.heap[rb]? = some (.cells #[.int .i64 0, .int .i64 0, .int .i64 0, .string ⟨#[]⟩, .int .i64 0, .int .i64 0, .string ⟨#[]⟩, .int .i64 0, .int .i64 0, .int .i64 0, .bool false, .bool false, .string ⟨#[]⟩, .slice none 0 0, .slice none 0 0, .slice none 0 0, .string ⟨#[]⟩, .bool false, .slice none 0 0, .string ⟨#[]⟩, .int .i64 0, .bool false, .slice none 0 0, .slice none 0 0] 54 (0, 0)) ∧ Below rb w W ∧ (rb < g ∧ g < gb)
theorem AnP.move {w : World} {g rb gb : Nat} {xs : List Int} {W W2 : World} {p err p2 err2 : Int} (h : AnP w g rb gb xs W p err) (hr : Rd.Rdr W2 g (rb + 1) xs p2 err2) (hg : W.grownBy W2 (some g)) : AnP w g rb gb xs W2 p2 err2 := by
 obtain ⟨hR, hK, hZ, hB, hl⟩ := h
 exact ⟨hr, blk_grown hK hg qn, blk_grown hZ hg qn, hB.grown hg (by have := hR.lt; omega) (fun k hk => by injection hk with hk; omega), hl⟩
theorem AnP.alloc {w : World} {g rb gb : Nat} {xs : List Int} {W : World} {p err : Int} (h : AnP w g rb gb xs W p err) (o : Obj) : AnP w g rb gb xs (W.alloc o) p err :=
 h.move (Rd.Rdr.below (W := W) h.1 (below_alloc (Below.refl _ _) o)) (grown_of_below (below_alloc (Below.refl W.heap.size W) o) _)
theorem AnP.chg {w : World} {g rb gb bx : Nat} {xs : List Int} {W W2 : World} {p err p2 err2 : Int} {cs : Array Value} (h : AnP w g rb gb xs W p err) (hX : W.heap[bx]? = some (.cells cs 54 (0, 0))) (hb : rb < bx) (hr : Rd.Rdr W2 g (rb + 1) xs p2 err2) (hG : G2 W W2 g bx) : AnP w g rb gb xs W2 p2 err2 := by
 obtain ⟨hR, hK, hZ, hB, hl⟩ := h
 exact ⟨hr, (hG.2.2.2.2 gb (blk_lt hK) (by omega) (blk_ne hK hX (by decide))).trans hK, (hG.2.2.2.2 rb (blk_lt hZ) (by omega) (by omega)).trans hZ, ⟨hG.1.trans hB.os, hG.2.1.trans hB.tape, hG.2.2.1.trans hB.output, Nat.le_trans hB.size hG.2.2.2.1, fun i hi => (hG.2.2.2.2 i (by have := hR.lt; omega) (by omega) (by omega)).trans (hB.block i hi)⟩, hl⟩
/-- And the answer's variable, and the rows that it tells. -/
def AnS (w : World) (g rb gb bx : Nat) (xs : List Int) (cs : Array Value) (v1 : Value) (l1 : List ByteArray) (v2 : Value) (l2 : List ByteArray) (v3 : Value) (l3 : List ByteArray) (v4 : Value) (l4 : List S123) (v5 : Value) (l5 : List S87) (v6 : Value) (l6 : List S89) (W : World) (p err : Int) : Prop := AnP w g rb gb xs W p err ∧ W.heap[bx]? = some (.cells cs 54 (0, 0)) ∧ (Kd.R Kd.string 9 W (g + 1) (fun _ => True) v1 l1 ∧ Kd.R Kd.string 9 W (g + 1) (fun _ => True) v2 l2 ∧ Kd.R Kd.string 9 W (g + 1) (fun _ => True) v3 l3 ∧ Kd.R k123 123 W (g + 1) (fun _ => True) v4 l4 ∧ Kd.R k87 87 W (g + 1) (fun _ => True) v5 l5 ∧ Kd.R k89 89 W (g + 1) (fun _ => True) v6 l6) ∧ (g < bx)
theorem row_chg {α : Type} {k : Kd α} (hE : k.E = []) {e : TypeId} {W W2 : World} {g bx : Nat} {v : Value} {l : List α} {cs : Array Value} (h : Kd.R k e W (g + 1) (fun _ => True) v l) (hX : W.heap[bx]? = some (.cells cs 54 (0, 0))) (h54 : e ≠ 54) (hG : G2 W W2 g bx) : Kd.R k e W2 (g + 1) (fun _ => True) v l :=
 Kd.R_mono (Kd.R_step (Kd.R_tight hE h) (fun k_ hk hlt => hG.2.2.2.2 k_ hlt (fun e_ => by obtain ⟨_, ho⟩ := Kd.R_own h; have := own_base ho k_ hk.symm; omega) (fun e_ => (Kd.R_ne h hX h54) (by rw [← e_]; exact hk)))) (fun _ _ => trivial)
theorem AnS.chg {w : World} {g rb gb bx : Nat} {xs : List Int} {cs : Array Value} {v1 : Value} {l1 : List ByteArray} {v2 : Value} {l2 : List ByteArray} {v3 : Value} {l3 : List ByteArray} {v4 : Value} {l4 : List S123} {v5 : Value} {l5 : List S87} {v6 : Value} {l6 : List S89} {W : World} {p err : Int} {W2 : World} {p2 err2 : Int} {cs2 : Array Value} (h : AnS w g rb gb bx xs cs v1 l1 v2 l2 v3 l3 v4 l4 v5 l5 v6 l6 W p err) (hr : Rd.Rdr W2 g (rb + 1) xs p2 err2) (hX2 : W2.heap[bx]? = some (.cells cs2 54 (0, 0))) (hG : G2 W W2 g bx) : AnS w g rb gb bx xs cs2 v1 l1 v2 l2 v3 l3 v4 l4 v5 l5 v6 l6 W2 p2 err2 := by
 obtain ⟨hP, hX, ⟨h1, h2, h3, h4, h5, h6⟩, hl⟩ := h
 exact ⟨hP.chg hX (by have := hP.2.2.2.2; omega) hr hG, hX2, ⟨row_chg rfl h1 hX (by decide) hG, row_chg rfl h2 hX (by decide) hG, row_chg rfl h3 hX (by decide) hG, row_chg rfl h4 hX (by decide) hG, row_chg rfl h5 hX (by decide) hG, row_chg rfl h6 hX (by decide) hG⟩, hl⟩
theorem G2.of {W W2 : World} {g bx k : Nat} (hg : W.grownBy W2 (some k)) (hk : k = g ∨ k = bx) : G2 W W2 g bx := ⟨hg.os, hg.tape, hg.output, hg.size, fun i hi h1 h2 => hg.block i hi (fun e => by injection e with e; omega)⟩
theorem AnS.move {w : World} {g rb gb bx : Nat} {xs : List Int} {cs : Array Value} {v1 : Value} {l1 : List ByteArray} {v2 : Value} {l2 : List ByteArray} {v3 : Value} {l3 : List ByteArray} {v4 : Value} {l4 : List S123} {v5 : Value} {l5 : List S87} {v6 : Value} {l6 : List S89} {W : World} {p err : Int} {W2 : World} {p2 err2 : Int} (h : AnS w g rb gb bx xs cs v1 l1 v2 l2 v3 l3 v4 l4 v5 l5 v6 l6 W p err) (hr : Rd.Rdr W2 g (rb + 1) xs p2 err2) (hg : W.grownBy W2 (some g)) : AnS w g rb gb bx xs cs v1 l1 v2 l2 v3 l3 v4 l4 v5 l5 v6 l6 W2 p2 err2 :=
 h.chg hr (blk_grown h.2.1 hg (by intro e; injection e with e; have := h.2.2.2; omega)) (G2.of hg (Or.inl rfl))
theorem AnS.set {w : World} {g rb gb bx : Nat} {xs : List Int} {cs : Array Value} {v1 : Value} {l1 : List ByteArray} {v2 : Value} {l2 : List ByteArray} {v3 : Value} {l3 : List ByteArray} {v4 : Value} {l4 : List S123} {v5 : Value} {l5 : List S87} {v6 : Value} {l6 : List S89} {W : World} {p err : Int} {W2 : World} {cs2 : Array Value} (h : AnS w g rb gb bx xs cs v1 l1 v2 l2 v3 l3 v4 l4 v5 l5 v6 l6 W p err) (hX : W2.heap[bx]? = some (.cells cs2 54 (0, 0))) (hg : W.grownBy W2 (some bx)) : AnS w g rb gb bx xs cs2 v1 l1 v2 l2 v3 l3 v4 l4 v5 l5 v6 l6 W2 p err :=
 h.chg (h.1.1.keep (fun i hi => hg.block i (by have := h.1.1.lt; omega) (by intro e; injection e with e; have := h.2.2.2; omega))) hX (G2.of hg (Or.inr rfl))
theorem AnS.quiet {w : World} {g rb gb bx : Nat} {xs : List Int} {cs : Array Value} {v1 : Value} {l1 : List ByteArray} {v2 : Value} {l2 : List ByteArray} {v3 : Value} {l3 : List ByteArray} {v4 : Value} {l4 : List S123} {v5 : Value} {l5 : List S87} {v6 : Value} {l6 : List S89} {W : World} {p err : Int} {W2 : World} (h : AnS w g rb gb bx xs cs v1 l1 v2 l2 v3 l3 v4 l4 v5 l5 v6 l6 W p err) (hg : W.grownBy W2 none) : AnS w g rb gb bx xs cs v1 l1 v2 l2 v3 l3 v4 l4 v5 l5 v6 l6 W2 p err :=
 h.move (h.1.1.keep (fun i hi => hg.block i (by have := h.1.1.lt; omega) (by simp))) (grown_wide hg (some g))
theorem AnS.row1 {w : World} {g rb gb bx : Nat} {xs : List Int} {cs : Array Value} {v1 : Value} {l1 : List ByteArray} {v2 : Value} {l2 : List ByteArray} {v3 : Value} {l3 : List ByteArray} {v4 : Value} {l4 : List S123} {v5 : Value} {l5 : List S87} {v6 : Value} {l6 : List S89} {W : World} {p err : Int} {W2 : World} {p2 err2 : Int} {v : Value} {l : List ByteArray} (h : AnS w g rb gb bx xs cs v1 l1 v2 l2 v3 l3 v4 l4 v5 l5 v6 l6 W p err) (hr : Rd.Rdr W2 g (rb + 1) xs p2 err2) (hO : Kd.R Kd.string 9 W2 W.heap.size (fun _ => True) v l) (hg : W.grownBy W2 (some g)) : AnS w g rb gb bx xs cs v l v2 l2 v3 l3 v4 l4 v5 l5 v6 l6 W2 p2 err2 := by
 have hm := h.move hr hg
 have hlt := h.1.1.lt
 have hO2 : Kd.R Kd.string 9 W2 (g + 1) (fun _ => True) v l := Kd.R_lower hO (by omega)
 exact ⟨hm.1, hm.2.1, ⟨hO2, hm.2.2.1.2.1, hm.2.2.1.2.2.1, hm.2.2.1.2.2.2.1, hm.2.2.1.2.2.2.2.1, hm.2.2.1.2.2.2.2.2⟩, hm.2.2.2⟩
theorem AnS.row2 {w : World} {g rb gb bx : Nat} {xs : List Int} {cs : Array Value} {v1 : Value} {l1 : List ByteArray} {v2 : Value} {l2 : List ByteArray} {v3 : Value} {l3 : List ByteArray} {v4 : Value} {l4 : List S123} {v5 : Value} {l5 : List S87} {v6 : Value} {l6 : List S89} {W : World} {p err : Int} {W2 : World} {p2 err2 : Int} {v : Value} {l : List ByteArray} (h : AnS w g rb gb bx xs cs v1 l1 v2 l2 v3 l3 v4 l4 v5 l5 v6 l6 W p err) (hr : Rd.Rdr W2 g (rb + 1) xs p2 err2) (hO : Kd.R Kd.string 9 W2 W.heap.size (fun _ => True) v l) (hg : W.grownBy W2 (some g)) : AnS w g rb gb bx xs cs v1 l1 v l v3 l3 v4 l4 v5 l5 v6 l6 W2 p2 err2 := by
 have hm := h.move hr hg
 have hlt := h.1.1.lt
 have hO2 : Kd.R Kd.string 9 W2 (g + 1) (fun _ => True) v l := Kd.R_lower hO (by omega)
 exact ⟨hm.1, hm.2.1, ⟨hm.2.2.1.1, hO2, hm.2.2.1.2.2.1, hm.2.2.1.2.2.2.1, hm.2.2.1.2.2.2.2.1, hm.2.2.1.2.2.2.2.2⟩, hm.2.2.2⟩
theorem AnS.row3 {w : World} {g rb gb bx : Nat} {xs : List Int} {cs : Array Value} {v1 : Value} {l1 : List ByteArray} {v2 : Value} {l2 : List ByteArray} {v3 : Value} {l3 : List ByteArray} {v4 : Value} {l4 : List S123} {v5 : Value} {l5 : List S87} {v6 : Value} {l6 : List S89} {W : World} {p err : Int} {W2 : World} {p2 err2 : Int} {v : Value} {l : List ByteArray} (h : AnS w g rb gb bx xs cs v1 l1 v2 l2 v3 l3 v4 l4 v5 l5 v6 l6 W p err) (hr : Rd.Rdr W2 g (rb + 1) xs p2 err2) (hO : Kd.R Kd.string 9 W2 W.heap.size (fun _ => True) v l) (hg : W.grownBy W2 (some g)) : AnS w g rb gb bx xs cs v1 l1 v2 l2 v l v4 l4 v5 l5 v6 l6 W2 p2 err2 := by
 have hm := h.move hr hg
 have hlt := h.1.1.lt
 have hO2 : Kd.R Kd.string 9 W2 (g + 1) (fun _ => True) v l := Kd.R_lower hO (by omega)
 exact ⟨hm.1, hm.2.1, ⟨hm.2.2.1.1, hm.2.2.1.2.1, hO2, hm.2.2.1.2.2.2.1, hm.2.2.1.2.2.2.2.1, hm.2.2.1.2.2.2.2.2⟩, hm.2.2.2⟩
theorem AnS.row4 {w : World} {g rb gb bx : Nat} {xs : List Int} {cs : Array Value} {v1 : Value} {l1 : List ByteArray} {v2 : Value} {l2 : List ByteArray} {v3 : Value} {l3 : List ByteArray} {v4 : Value} {l4 : List S123} {v5 : Value} {l5 : List S87} {v6 : Value} {l6 : List S89} {W : World} {p err : Int} {W2 : World} {p2 err2 : Int} {v : Value} {l : List S123} (h : AnS w g rb gb bx xs cs v1 l1 v2 l2 v3 l3 v4 l4 v5 l5 v6 l6 W p err) (hr : Rd.Rdr W2 g (rb + 1) xs p2 err2) (hO : Kd.R k123 123 W2 W.heap.size (fun _ => True) v l) (hg : W.grownBy W2 (some g)) : AnS w g rb gb bx xs cs v1 l1 v2 l2 v3 l3 v l v5 l5 v6 l6 W2 p2 err2 := by
 have hm := h.move hr hg
 have hlt := h.1.1.lt
 have hO2 : Kd.R k123 123 W2 (g + 1) (fun _ => True) v l := Kd.R_lower hO (by omega)
 exact ⟨hm.1, hm.2.1, ⟨hm.2.2.1.1, hm.2.2.1.2.1, hm.2.2.1.2.2.1, hO2, hm.2.2.1.2.2.2.2.1, hm.2.2.1.2.2.2.2.2⟩, hm.2.2.2⟩
theorem AnS.many5 {w : World} {g rb gb bx : Nat} {xs : List Int} {cs : Array Value} {v1 : Value} {l1 : List ByteArray} {v2 : Value} {l2 : List ByteArray} {v3 : Value} {l3 : List ByteArray} {v4 : Value} {l4 : List S123} {v5 : Value} {l5 : List S87} {v6 : Value} {l6 : List S89} {W : World} {p err : Int} {W2 : World} {p2 err2 : Int} {v : Value} {l : List S87} (h : AnS w g rb gb bx xs cs v1 l1 v2 l2 v3 l3 v4 l4 v5 l5 v6 l6 W p err) (hr : Rd.Rdr W2 g (rb + 1) xs p2 err2) (hX : W2.heap[bx]? = some (.cells (cs.set! 22 v) 54 (0, 0))) (hO : Kd.R k87 87 W2 W.heap.size (fun _ => True) v l) (hG : An0 W W2 g bx W.heap.size) : AnS w g rb gb bx xs (cs.set! 22 v) v1 l1 v2 l2 v3 l3 v4 l4 v l v6 l6 W2 p2 err2 := by
 have hm := h.chg hr hX ⟨hG.1, hG.2.1, hG.2.2.1, hG.2.2.2.1, hG.2.2.2.2⟩
 have hlt := h.1.1.lt
 have hO2 : Kd.R k87 87 W2 (g + 1) (fun _ => True) v l := Kd.R_lower hO (by omega)
 exact ⟨hm.1, hm.2.1, ⟨hm.2.2.1.1, hm.2.2.1.2.1, hm.2.2.1.2.2.1, hm.2.2.1.2.2.2.1, hO2, hm.2.2.1.2.2.2.2.2⟩, hm.2.2.2⟩
theorem AnS.many6 {w : World} {g rb gb bx : Nat} {xs : List Int} {cs : Array Value} {v1 : Value} {l1 : List ByteArray} {v2 : Value} {l2 : List ByteArray} {v3 : Value} {l3 : List ByteArray} {v4 : Value} {l4 : List S123} {v5 : Value} {l5 : List S87} {v6 : Value} {l6 : List S89} {W : World} {p err : Int} {W2 : World} {p2 err2 : Int} {v : Value} {l : List S89} (h : AnS w g rb gb bx xs cs v1 l1 v2 l2 v3 l3 v4 l4 v5 l5 v6 l6 W p err) (hr : Rd.Rdr W2 g (rb + 1) xs p2 err2) (hX : W2.heap[bx]? = some (.cells (cs.set! 23 v) 54 (0, 0))) (hO : Kd.R k89 89 W2 W.heap.size (fun _ => True) v l) (hG : An0 W W2 g bx W.heap.size) : AnS w g rb gb bx xs (cs.set! 23 v) v1 l1 v2 l2 v3 l3 v4 l4 v5 l5 v l W2 p2 err2 := by
 have hm := h.chg hr hX ⟨hG.1, hG.2.1, hG.2.2.1, hG.2.2.2.1, hG.2.2.2.2⟩
 have hlt := h.1.1.lt
 have hO2 : Kd.R k89 89 W2 (g + 1) (fun _ => True) v l := Kd.R_lower hO (by omega)
 exact ⟨hm.1, hm.2.1, ⟨hm.2.2.1.1, hm.2.2.1.2.1, hm.2.2.1.2.2.1, hm.2.2.1.2.2.2.1, hm.2.2.1.2.2.2.2.1, hO2⟩, hm.2.2.2⟩
theorem AnS.as {w : World} {g rb gb bx : Nat} {xs : List Int} {cs : Array Value} {v1 : Value} {l1 : List ByteArray} {v2 : Value} {l2 : List ByteArray} {v3 : Value} {l3 : List ByteArray} {v4 : Value} {l4 : List S123} {v5 : Value} {l5 : List S87} {v6 : Value} {l6 : List S89} {W : World} {p err : Int} {cs2 : Array Value} (h : AnS w g rb gb bx xs cs v1 l1 v2 l2 v3 l3 v4 l4 v5 l5 v6 l6 W p err) (e : cs = cs2) : AnS w g rb gb bx xs cs2 v1 l1 v2 l2 v3 l3 v4 l4 v5 l5 v6 l6 W p err := e ▸ h
theorem blk_as {W : World} {b t : Nat} {cs cs2 : Array Value} (h : W.heap[b]? = some (.cells cs t (0, 0))) (e : cs = cs2) : W.heap[b]? = some (.cells cs2 t (0, 0)) := e ▸ h
theorem row_fin {α : Type} {k : Kd α} (hE : k.E = []) {e : TypeId} {W W2 : World} {g rb : Nat} {v : Value} {l : List α} (h : Kd.R k e W (g + 1) (fun _ => True) v l) (hg : W.grownBy W2 (some rb)) (hb : rb < g) : Kd.R k e W2 rb (fun _ => True) v l :=
 Kd.R_lower (Kd.R_grown2 h hE hg (fun k_ hk e_ => by injection hk with hk; obtain ⟨_, ho⟩ := Kd.R_own h; have := own_base ho k_ e_.symm; omega)) (by omega)
theorem AnS.fin {w : World} {g rb gb bx : Nat} {xs : List Int} {cs : Array Value} {v1 : Value} {l1 : List ByteArray} {v2 : Value} {l2 : List ByteArray} {v3 : Value} {l3 : List ByteArray} {v4 : Value} {l4 : List S123} {v5 : Value} {l5 : List S87} {v6 : Value} {l6 : List S89} {W : World} {p err : Int} {W2 : World} (h : AnS w g rb gb bx xs cs v1 l1 v2 l2 v3 l3 v4 l4 v5 l5 v6 l6 W p err) (hg : W.grownBy W2 (some rb)) : (Kd.R Kd.string 9 W2 rb (fun _ => True) v1 l1 ∧ Kd.R Kd.string 9 W2 rb (fun _ => True) v2 l2 ∧ Kd.R Kd.string 9 W2 rb (fun _ => True) v3 l3 ∧ Kd.R k123 123 W2 rb (fun _ => True) v4 l4 ∧ Kd.R k87 87 W2 rb (fun _ => True) v5 l5 ∧ Kd.R k89 89 W2 rb (fun _ => True) v6 l6) ∧ Below rb w W2 := by
 obtain ⟨hP, hX, ⟨h1, h2, h3, h4, h5, h6⟩, hl⟩ := h
 have hb := hP.2.2.2.2.1
 exact ⟨⟨row_fin rfl h1 hg hb, row_fin rfl h2 hg hb, row_fin rfl h3 hg hb, row_fin rfl h4 hg hb, row_fin rfl h5 hg hb, row_fin rfl h6 hg hb⟩, hP.2.2.2.1.grown hg (by have := hP.1.lt; omega) (fun k hk => by injection hk with hk; omega)⟩
/-- A response. -/
structure Rp where
 er : Int
 id : Int
 tm : Int
 tx : ByteArray
 re : Int
 im : Int
 ve : ByteArray
 sz : Int
 hr : Int
 hi : Int
 go : Bool
 nu : Bool
 bo : ByteArray
 na : List ByteArray
 ln : List ByteArray
 lp : List ByteArray
 nx : ByteArray
 mo : Bool
 ll : List S123
 lo : ByteArray
 li : Int
 lm : Bool
 up : List S87
 pa : List S89
/-- What is read of bytes, part by part. -/
def ansF (xs : List Int) : Rp × Int × Int :=
 let t0 := Rd.takeF xs 0 0 1
 let t1 := Rd.takeF xs t0.2.1 t0.2.2 8
 let t2 := Rd.takeF xs t1.2.1 t1.2.2 8
 let t3 := Rd.textF xs t2.2.1 t2.2.2 1048576
 let t4 := tagF xs t3.2.1 t3.2.2
 let t5 := Rd.textF xs t4.2.1 t4.2.2 1048576
 let t6 := headF xs t5.2.1 t5.2.2
 let t7 := Rd.textF xs t6.2.1 t6.2.2 1048576
 let t8 := textsF xs t7.2.1 t7.2.2
 let t9 := textsF xs t8.2.1 t8.2.2
 let t10 := textsF xs t9.2.1 t9.2.2
 let t11 := Rd.textF xs t10.2.1 t10.2.2 1048576
 let t12 := Rd.takeF xs t11.2.1 t11.2.2 1
 let t13 := linesF xs t12.2.1 t12.2.2
 let n14 := Rd.takeF xs t13.2.1 t13.2.2 2
 let t14 := manyF (an1Step xs) n14.1.toNat [] n14.2.1 n14.2.2
 let n15 := Rd.takeF xs t14.2.1 t14.2.2 2
 let t15 := manyF (an2Step xs) n15.1.toNat [] n15.2.1 n15.2.2
 (⟨t0.1, t1.1, t2.1, strOfNums t3.1, t4.1.1, t4.1.2, strOfNums t5.1, t6.1.1, t6.1.2.1, t6.1.2.2.1, t6.1.2.2.2.1, t6.1.2.2.2.2, strOfNums t7.1, t8.1, t9.1, t10.1, strOfNums t11.1, t12.1 == 1, t13.1.1, t13.1.2.1, t13.1.2.2.1, t13.1.2.2.2, t14.1, t15.1⟩, t15.2)
def Rp.zero : Rp := ⟨0, 0, 0, ⟨#[]⟩, 0, 0, ⟨#[]⟩, 0, 0, 0, false, false, ⟨#[]⟩, [], [], [], ⟨#[]⟩, false, [], ⟨#[]⟩, 0, false, [], []⟩
def Rp.val (r : Rp) (v1 v2 v3 v4 v5 v6 : Value) : Value := .agg #[.int .i64 r.er, .int .i64 r.id, .int .i64 r.tm, .string r.tx, .int .i64 r.re, .int .i64 r.im, .string r.ve, .int .i64 r.sz, .int .i64 r.hr, .int .i64 r.hi, .bool r.go, .bool r.nu, .string r.bo, v1, v2, v3, .string r.nx, .bool r.mo, v4, .string r.lo, .int .i64 r.li, .bool r.lm, v5, v6]
def Rp.R (r : Rp) (W : World) (b : Nat) (v1 v2 v3 v4 v5 v6 : Value) : Prop := Kd.R Kd.string 9 W b (fun _ => True) v1 r.na ∧ Kd.R Kd.string 9 W b (fun _ => True) v2 r.ln ∧ Kd.R Kd.string 9 W b (fun _ => True) v3 r.lp ∧ Kd.R k123 123 W b (fun _ => True) v4 r.ll ∧ Kd.R k87 87 W b (fun _ => True) v5 r.up ∧ Kd.R k89 89 W b (fun _ => True) v6 r.pa
/-- What ReadAnswer tells in the end. -/
def wire_ReadAnswer.out (l0 : List Int) (fin : Rp × Int × Int) (ag : List Int) (ec : Int) : Rp × Int := if Rd.endF l0 fin.2.1 fin.2.2 = 0 ∧ ec = 0 ∧ (strOfNums ag).toList = (strOfNums l0).toList then (fin.1, 0) else (Rp.zero, 4)
theorem wire_ReadAnswer.res (tmps : Array Value) (W : World) (rb : Nat) (cs : List Value) (ec : Int) (hl : cs.length = 24) (h2 : tmps.getD 2 undef = .pointer (some ⟨rb, 0, none⟩)) (h3 : tmps.getD 3 undef = .int .i64 ec) (h : W.heap[rb]? = some (.cells cs.toArray 54 (0, 0))) : (results Try.f15 tmps).run Try.prog W = .ok (.tuple #[.agg cs.toArray, .int .i64 ec]) W := by
 have hla := load_all (P := Try.prog) W rb 24 54 cs hl h
 have hld : (loadVar 54 (⟨rb, 0, none⟩ : Addr)).run Try.prog W = .ok (.agg cs.toArray) W := by
  simp only [loadVar, Sem.run_bind, Sem.run_pure, Result.andThen, Try.isAgg54, Try.sizeOf54, loadCells, hla, if_true]
 have g2 : tmps[2]?.getD undef = .pointer (some ⟨rb, 0, none⟩) := by rw [← h2]; simp
 have g3 : tmps[3]?.getD undef = .int .i64 ec := by rw [← h3]; simp
 simp [results, Try.results15, g2, g3, asAddr, Sem.run_bind, Sem.run_pure, Result.andThen, hld]
set_option maxHeartbeats 16000000 in
set_option maxRecDepth 100000 in
theorem wire_ReadAnswer.walk (A0 : Option Addr) (c0_ : Nat) (l0 : List Int) (w : World) (hr0 : Kd.C (Kd.int .u8) w A0 l0.length l0) (hlen : l0.length ≤ 140737488351232) (hby : ∀ x ∈ l0, 0 ≤ x ∧ x ≤ 255) (k : Nat) (r : Rp) (p err : Int) (hfin : ansF l0 = (r, p, err)) (ag : List Int) (ec : Int) (hans : wire_Answer.f k r.er r.id r.tm r.tx r.re r.im r.ve r.sz r.hr r.hi r.go r.nu r.bo r.na r.ln r.lp r.nx r.mo r.ll r.lo r.li r.lm r.up r.pa = some (ag, ec)) :
  Calls Try.prog 15 #[.slice A0 l0.length c0_] w fun e w' => ∃ v1 v2 v3 v4 v5 v6, e = .returned (.tuple #[(wire_ReadAnswer.out l0 (r, p, err) ag ec).1.val v1 v2 v3 v4 v5 v6, .int .i64 (wire_ReadAnswer.out l0 (r, p, err) ag ec).2]) ∧ (wire_ReadAnswer.out l0 (r, p, err) ag ec).1.R w' w.heap.size v1 v2 v3 v4 v5 v6 ∧ Below w.heap.size w w' := by
 obtain ⟨t0, ht0⟩ : ∃ t, Rd.takeF l0 0 0 1 = t := ⟨_, rfl⟩
 obtain ⟨t1, ht1⟩ : ∃ t, Rd.takeF l0 t0.2.1 t0.2.2 8 = t := ⟨_, rfl⟩
 obtain ⟨t2, ht2⟩ : ∃ t, Rd.takeF l0 t1.2.1 t1.2.2 8 = t := ⟨_, rfl⟩
 obtain ⟨t3, ht3⟩ : ∃ t, Rd.textF l0 t2.2.1 t2.2.2 1048576 = t := ⟨_, rfl⟩
 obtain ⟨t4, ht4⟩ : ∃ t, tagF l0 t3.2.1 t3.2.2 = t := ⟨_, rfl⟩
 obtain ⟨t5, ht5⟩ : ∃ t, Rd.textF l0 t4.2.1 t4.2.2 1048576 = t := ⟨_, rfl⟩
 obtain ⟨t6, ht6⟩ : ∃ t, headF l0 t5.2.1 t5.2.2 = t := ⟨_, rfl⟩
 obtain ⟨t7, ht7⟩ : ∃ t, Rd.textF l0 t6.2.1 t6.2.2 1048576 = t := ⟨_, rfl⟩
 obtain ⟨t8, ht8⟩ : ∃ t, textsF l0 t7.2.1 t7.2.2 = t := ⟨_, rfl⟩
 obtain ⟨t9, ht9⟩ : ∃ t, textsF l0 t8.2.1 t8.2.2 = t := ⟨_, rfl⟩
 obtain ⟨t10, ht10⟩ : ∃ t, textsF l0 t9.2.1 t9.2.2 = t := ⟨_, rfl⟩
 obtain ⟨t11, ht11⟩ : ∃ t, Rd.textF l0 t10.2.1 t10.2.2 1048576 = t := ⟨_, rfl⟩
 obtain ⟨t12, ht12⟩ : ∃ t, Rd.takeF l0 t11.2.1 t11.2.2 1 = t := ⟨_, rfl⟩
 obtain ⟨t13, ht13⟩ : ∃ t, linesF l0 t12.2.1 t12.2.2 = t := ⟨_, rfl⟩
 obtain ⟨t14, ht14⟩ : ∃ t, manyF (an1Step l0) (Rd.takeF l0 t13.2.1 t13.2.2 2).1.toNat [] (Rd.takeF l0 t13.2.1 t13.2.2 2).2.1 (Rd.takeF l0 t13.2.1 t13.2.2 2).2.2 = t := ⟨_, rfl⟩
 obtain ⟨t15, ht15⟩ : ∃ t, manyF (an2Step l0) (Rd.takeF l0 t14.2.1 t14.2.2 2).1.toNat [] (Rd.takeF l0 t14.2.1 t14.2.2 2).2.1 (Rd.takeF l0 t14.2.1 t14.2.2 2).2.2 = t := ⟨_, rfl⟩
 obtain ⟨b12, hb12⟩ : ∃ b, (t12.1 == 1) = b := ⟨_, rfl⟩
 have hres : ansF l0 = ((⟨t0.1, t1.1, t2.1, strOfNums t3.1, t4.1.1, t4.1.2, strOfNums t5.1, t6.1.1, t6.1.2.1, t6.1.2.2.1, t6.1.2.2.2.1, t6.1.2.2.2.2, strOfNums t7.1, t8.1, t9.1, t10.1, strOfNums t11.1, b12, t13.1.1, t13.1.2.1, t13.1.2.2.1, t13.1.2.2.2, t14.1, t15.1⟩ : Rp), t15.2) := by unfold ansF; simp only [ht0, ht1, ht2, ht3, ht4, ht5, ht6, ht7, ht8, ht9, ht10, ht11, ht12, ht13, ht14, ht15, hb12]
 have HT0 := Aside0.mk ht0
 have HT1 := Aside0.mk ht1
 have HT2 := Aside0.mk ht2
 have HT3 := Aside0.mk ht3
 have HT4 := Aside0.mk ht4
 have HT5 := Aside0.mk ht5
 have HT6 := Aside0.mk ht6
 have HT7 := Aside0.mk ht7
 have HT8 := Aside0.mk ht8
 have HT9 := Aside0.mk ht9
 have HT10 := Aside0.mk ht10
 have HT11 := Aside0.mk ht11
 have HT13 := Aside0.mk ht13
 have HT14 := Aside0.mk ht14
 have HT15 := Aside0.mk ht15
 have HT12 : Aside0 ((((Rd.takeF l0 t11.2.1 t11.2.2 1).1 == 1, (Rd.takeF l0 t11.2.1 t11.2.2 1).2) : Bool × Int × Int) = (b12, t12.2)) := ⟨by rw [ht12, hb12]⟩
 rw [hfin] at hres
 obtain ⟨rfl, hpe⟩ := Prod.mk.inj hres
 have hp : p = t15.2.1 := by rw [← hpe]
 have he : err = t15.2.2 := by rw [← hpe]
 subst hp he
 clear hpe hres hfin ht0 ht1 ht2 ht3 ht4 ht5 ht6 ht7 ht8 ht9 ht10 ht11 ht12 ht13 ht14 ht15 hb12
 have HA := Aside0.mk hans
 dsimp only at HA
 have HR0 := Aside0.mk hr0
 have HBY := Aside0.mk hby
 have HLEN := Aside0.mk hlen
 clear hr0 hby hlen hans
 go_enter Try.func15, Try.ntmps15
 go_wp2_with fail
 refine (Rd.new_any _ A0 l0.length c0_ l0 ((show ReadsInt w .u8 A0 l0.length l0 from Kd.reads_of_C (enc := Value.int .u8) (d := (0 : Int)) (h1 := fun _ => rfl) HR0.out).allocS _) HLEN.out HBY.out).mono ?_
 rintro e w1 ⟨g, rfl, hr1, hb1⟩
 rw [World.size_alloc] at hr1
 have hl1 := hr1.lt
 have hP : AnP w g w.heap.size w1.heap.size l0 (w1.alloc (.cells #[.pointer (some ⟨g, 0, none⟩)] 75)) 0 0 := ⟨Rd.Rdr.below (W := w1) hr1 (below_alloc (Below.refl _ _) _), blk_new w1 (.cells #[.pointer (some ⟨g, 0, none⟩)] 75), blk_alloc (blk_below (blk_new w (.cells #[.int .i64 0, .int .i64 0, .int .i64 0, .string ⟨#[]⟩, .int .i64 0, .int .i64 0, .string ⟨#[]⟩, .int .i64 0, .int .i64 0, .int .i64 0, .bool false, .bool false, .string ⟨#[]⟩, .slice none 0 0, .slice none 0 0, .slice none 0 0, .string ⟨#[]⟩, .bool false, .slice none 0 0, .string ⟨#[]⟩, .int .i64 0, .bool false, .slice none 0 0, .slice none 0 0] 54)) hb1) (.cells #[.pointer (some ⟨g, 0, none⟩)] 75), (below_step (below_alloc (Below.refl w.heap.size w) _) hb1).alloc (below_step (below_alloc (Below.refl w.heap.size w) _) hb1).size (.cells #[.pointer (some ⟨g, 0, none⟩)] 75), by omega, by omega⟩
 have HF : Aside0 (AnP w g w.heap.size w1.heap.size l0 (w1.alloc (.cells #[.pointer (some ⟨g, 0, none⟩)] 75)).drew 0 0) := ⟨hP.move (Rd.Rdr.below (W := w1.alloc (.cells #[.pointer (some ⟨g, 0, none⟩)] 75)) hP.1 (below_drew1 (Below.refl _ _))) (grown_wide (grown_of_below (below_drew1 (Below.refl (w1.alloc (.cells #[.pointer (some ⟨g, 0, none⟩)] 75)).heap.size (w1.alloc (.cells #[.pointer (some ⟨g, 0, none⟩)] 75)))) none) (some g))⟩
 clear hr1 hb1 hl1 hP HBY HLEN
 obtain ⟨rb, hrb⟩ : ∃ b, w.heap.size = b := ⟨_, rfl⟩
 obtain ⟨gb, hgb⟩ : ∃ b, w1.heap.size = b := ⟨_, rfl⟩
 have HRB := Aside0.mk hrb
 rw [hgb] at HF
 rw [hrb] at HF
 go_wp2_with fail
 try rw [hgb]
 try rw [hrb]
 clear hgb hrb
 refine start_ (n := 16) (S := fun w' => w'.cell? ⟨gb, 0, none⟩ = some (.pointer (some ⟨g, 0, none⟩))) (ds := [15]) (fl 16 0) (by kernel_rfl) rfl rfl ((blk_cell HF.out.2.1 0).trans rfl) (fun hHeld => ?_)
 refine with_tabW wire_ReadAnswer.tab2 wire_ReadAnswer.bits2 (fun HT_ HW_ => ?_)
 generalize (w1.alloc (.cells #[.pointer (some ⟨g, 0, none⟩)] 75)).drew = W20 at HF hHeld ⊢
 refine pu_ 0 11 (fl 16 1) ?_
 refine tk_1 1 12 (fl 16 3) hHeld ?_
 refine pu_ 3 14 (fl 16 11) ?_
 refine tk_1 4 15 (fl 16 27) hHeld ?_
 refine pu_ 6 17 (fl 16 91) ?_
 refine tk_1 7 18 (fl 16 219) hHeld ?_
 refine tk_1 9 20 (fl 16 731) hHeld ?_
 refine tk_1 11 22 (fl 16 2779) hHeld ?_
 refine join_ (σ := Nat) 1 (fl 16 32767) (fun bx => [(13, .int .i64 t0.1), (16, .int .i64 t1.1), (19, .int .i64 t2.1), (21, .string (strOfNums t3.1)), (23, .agg #[.int .i64 t4.1.1, .int .i64 t4.1.2]), (5, .pointer (some ⟨bx, 0, none⟩)), (24, .agg #[.int .i64 t0.1, .int .i64 t1.1, .int .i64 t2.1, .string (strOfNums t3.1), .int .i64 t4.1.1, .int .i64 t4.1.2, .string ⟨#[]⟩, .int .i64 0, .int .i64 0, .int .i64 0, .bool false, .bool false, .string ⟨#[]⟩, .slice none 0 0, .slice none 0 0, .slice none 0 0, .string ⟨#[]⟩, .bool false, .slice none 0 0, .string ⟨#[]⟩, .int .i64 0, .bool false, .slice none 0 0, .slice none 0 0])]) (fun bx w' => AnP w g rb gb l0 w' t4.2.1 t4.2.2 ∧ w'.heap[bx]? = some (.cells #[.int .i64 0, .int .i64 0, .int .i64 0, .string ⟨#[]⟩, .int .i64 0, .int .i64 0, .string ⟨#[]⟩, .int .i64 0, .int .i64 0, .int .i64 0, .bool false, .bool false, .string ⟨#[]⟩, .slice none 0 0, .slice none 0 0, .slice none 0 0, .string ⟨#[]⟩, .bool false, .slice none 0 0, .string ⟨#[]⟩, .int .i64 0, .bool false, .slice none 0 0, .slice none 0 0] 54 (0, 0)) ∧ g < bx) ?cont (fun HC => ?_)
 rotate_left
 ·skip
  refine two_ (i := 2) (j := 14) (Ni := some 13) (Nj := some 5) (fl 16 2783) (fl 16 19163) rfl rfl rfl rfl (two_of HT_.out (by kernel_rfl)) (by decide) (by decide) (fun K hK => ?_) (fun K hK => ?_)
  rotate_left
  ·skip
   refine Go.Proofs.Ytmdgdndidfcapaa.Str.ev_ (v := .pointer (some ⟨W20.heap.size, 0, none⟩)) (w1 := W20.alloc (.cells #[.int .i64 0, .int .i64 0, .int .i64 0, .string ⟨#[]⟩, .int .i64 0, .int .i64 0, .string ⟨#[]⟩, .int .i64 0, .int .i64 0, .int .i64 0, .bool false, .bool false, .string ⟨#[]⟩, .slice none 0 0, .slice none 0 0, .slice none 0 0, .string ⟨#[]⟩, .bool false, .slice none 0 0, .string ⟨#[]⟩, .int .i64 0, .bool false, .slice none 0 0, .slice none 0 0] 54)) (by rfl) rfl qq ?_
   have HN := Aside0.mk (blk_new W20 (.cells #[.int .i64 0, .int .i64 0, .int .i64 0, .string ⟨#[]⟩, .int .i64 0, .int .i64 0, .string ⟨#[]⟩, .int .i64 0, .int .i64 0, .int .i64 0, .bool false, .bool false, .string ⟨#[]⟩, .slice none 0 0, .slice none 0 0, .slice none 0 0, .string ⟨#[]⟩, .bool false, .slice none 0 0, .string ⟨#[]⟩, .int .i64 0, .bool false, .slice none 0 0, .slice none 0 0] 54))
   have HNG : Aside0 (g < W20.heap.size) := ⟨(Rd.Rdr.lt HF.out.1).2⟩
   have HF_1 := Aside0.mk (HF.out.alloc (.cells #[.int .i64 0, .int .i64 0, .int .i64 0, .string ⟨#[]⟩, .int .i64 0, .int .i64 0, .string ⟨#[]⟩, .int .i64 0, .int .i64 0, .int .i64 0, .bool false, .bool false, .string ⟨#[]⟩, .slice none 0 0, .slice none 0 0, .slice none 0 0, .string ⟨#[]⟩, .bool false, .slice none 0 0, .string ⟨#[]⟩, .int .i64 0, .bool false, .slice none 0 0, .slice none 0 0] 54))
   refine nm_ hK ((blk_cell HF_1.out.2.1 0).trans rfl) fun hHeld => ?_
   clear hK K
   refine on_ 2 (some 13) (fl 16 19167) fun K hK => ?_
   refine go_ Try.func26 #[.pointer (some ⟨g, 0, none⟩)] ?_
   refine (Rd.u8_any _ g _ l0 0 0 HF_1.out.1).mono ?_
   rw [HT0.out]
   rintro e W21 ⟨rfl, hr, hg⟩
   have HF_2 := Aside0.mk (HF_1.out.move hr hg)
   try (have HN_ := Aside0.mk (blk_grown HN.out hg qm); clear HN; have HN := HN_; clear HN_)
   clear hr hg
   refine nx_ hK ((blk_cell HF_2.out.2.1 0).trans rfl) fun hHeld => ?_
   clear hK K
   refine on_ 5 (some 16) (fl 16 19199) fun K hK => ?_
   refine go_ Try.func41 #[.pointer (some ⟨g, 0, none⟩)] ?_
   refine (Rd.i64_any _ g _ l0 _ _ HF_2.out.1).mono ?_
   rw [HT1.out]
   rintro e W22 ⟨rfl, hr, hg⟩
   have HF_3 := Aside0.mk (HF_2.out.move hr hg)
   try (have HN_ := Aside0.mk (blk_grown HN.out hg qm); clear HN; have HN := HN_; clear HN_)
   clear hr hg
   refine nx_ hK ((blk_cell HF_3.out.2.1 0).trans rfl) fun hHeld => ?_
   clear hK K
   refine on_ 8 (some 19) (fl 16 19455) fun K hK => ?_
   refine go_ Try.func41 #[.pointer (some ⟨g, 0, none⟩)] ?_
   refine (Rd.i64_any _ g _ l0 _ _ HF_3.out.1).mono ?_
   rw [HT2.out]
   rintro e W23 ⟨rfl, hr, hg⟩
   have HF_4 := Aside0.mk (HF_3.out.move hr hg)
   try (have HN_ := Aside0.mk (blk_grown HN.out hg qm); clear HN; have HN := HN_; clear HN_)
   clear hr hg
   refine nx_ hK ((blk_cell HF_4.out.2.1 0).trans rfl) fun hHeld => ?_
   clear hK K
   refine on_ 10 (some 21) (fl 16 20479) fun K hK => ?_
   refine go_ Try.func42 #[.agg #[.pointer (some ⟨g, 0, none⟩)]] ?_
   refine (wire_reader_many.text _ g _ l0 _ _ HF_4.out.1).mono ?_
   rw [HT3.out]
   rintro e W24 ⟨rfl, hr, hg⟩
   have HF_5 := Aside0.mk (HF_4.out.move hr hg)
   try (have HN_ := Aside0.mk (blk_grown HN.out hg qm); clear HN; have HN := HN_; clear HN_)
   clear hr hg
   refine nx_ hK ((blk_cell HF_5.out.2.1 0).trans rfl) fun hHeld => ?_
   clear hK K
   refine on_ 12 (some 23) (fl 16 24575) fun K hK => ?_
   refine go_ Try.func43 #[.agg #[.pointer (some ⟨g, 0, none⟩)]] ?_
   refine (wire_reader_tag.tag _ g _ l0 _ _ HF_5.out.1).mono ?_
   rw [HT4.out]
   rintro e W25 ⟨rfl, hr, hg⟩
   have HF_6 := Aside0.mk (HF_5.out.move hr hg)
   try (have HN_ := Aside0.mk (blk_grown HN.out hg qm); clear HN; have HN := HN_; clear HN_)
   clear hr hg
   refine nx_ hK ((blk_cell HF_6.out.2.1 0).trans rfl) fun hHeld => ?_
   clear hK K
   refine pu_ 13 24 (fl 16 32767) ?_
   refine norm_ ?_ (HC _ _ ⟨HF_6.out, HN.out, HNG.out⟩)
   simp only [putAll, Act.put, List.setIfInBounds_toArray, List.set_cons_zero, List.set_cons_succ]
  refine go_ Try.func26 #[.pointer (some ⟨g, 0, none⟩)] ?_
  refine (Rd.u8_any _ g _ l0 0 0 HF.out.1).mono ?_
  rw [HT0.out]
  rintro e W21 ⟨rfl, hr, hg⟩
  have HF_7 := Aside0.mk (HF.out.move hr hg)
  try (have HN_ := Aside0.mk (blk_grown HN.out hg qm); clear HN; have HN := HN_; clear HN_)
  clear hr hg
  refine nx_ hK ((blk_cell HF_7.out.2.1 0).trans rfl) fun hHeld => ?_
  clear hK K
  refine two_ (i := 5) (j := 14) (Ni := some 16) (Nj := some 5) (fl 16 2815) (fl 16 19167) rfl rfl rfl rfl (two_of HT_.out (by kernel_rfl)) (by decide) (by decide) (fun K hK => ?_) (fun K hK => ?_)
  rotate_left
  ·skip
   refine Go.Proofs.Ytmdgdndidfcapaa.Str.ev_ (v := .pointer (some ⟨W21.heap.size, 0, none⟩)) (w1 := W21.alloc (.cells #[.int .i64 0, .int .i64 0, .int .i64 0, .string ⟨#[]⟩, .int .i64 0, .int .i64 0, .string ⟨#[]⟩, .int .i64 0, .int .i64 0, .int .i64 0, .bool false, .bool false, .string ⟨#[]⟩, .slice none 0 0, .slice none 0 0, .slice none 0 0, .string ⟨#[]⟩, .bool false, .slice none 0 0, .string ⟨#[]⟩, .int .i64 0, .bool false, .slice none 0 0, .slice none 0 0] 54)) (by rfl) rfl qq ?_
   have HN := Aside0.mk (blk_new W21 (.cells #[.int .i64 0, .int .i64 0, .int .i64 0, .string ⟨#[]⟩, .int .i64 0, .int .i64 0, .string ⟨#[]⟩, .int .i64 0, .int .i64 0, .int .i64 0, .bool false, .bool false, .string ⟨#[]⟩, .slice none 0 0, .slice none 0 0, .slice none 0 0, .string ⟨#[]⟩, .bool false, .slice none 0 0, .string ⟨#[]⟩, .int .i64 0, .bool false, .slice none 0 0, .slice none 0 0] 54))
   have HNG : Aside0 (g < W21.heap.size) := ⟨(Rd.Rdr.lt HF_7.out.1).2⟩
   have HF_8 := Aside0.mk (HF_7.out.alloc (.cells #[.int .i64 0, .int .i64 0, .int .i64 0, .string ⟨#[]⟩, .int .i64 0, .int .i64 0, .string ⟨#[]⟩, .int .i64 0, .int .i64 0, .int .i64 0, .bool false, .bool false, .string ⟨#[]⟩, .slice none 0 0, .slice none 0 0, .slice none 0 0, .string ⟨#[]⟩, .bool false, .slice none 0 0, .string ⟨#[]⟩, .int .i64 0, .bool false, .slice none 0 0, .slice none 0 0] 54))
   refine nm_ hK ((blk_cell HF_8.out.2.1 0).trans rfl) fun hHeld => ?_
   clear hK K
   refine on_ 5 (some 16) (fl 16 19199) fun K hK => ?_
   refine go_ Try.func41 #[.pointer (some ⟨g, 0, none⟩)] ?_
   refine (Rd.i64_any _ g _ l0 _ _ HF_8.out.1).mono ?_
   rw [HT1.out]
   rintro e W22 ⟨rfl, hr, hg⟩
   have HF_9 := Aside0.mk (HF_8.out.move hr hg)
   try (have HN_ := Aside0.mk (blk_grown HN.out hg qm); clear HN; have HN := HN_; clear HN_)
   clear hr hg
   refine nx_ hK ((blk_cell HF_9.out.2.1 0).trans rfl) fun hHeld => ?_
   clear hK K
   refine on_ 8 (some 19) (fl 16 19455) fun K hK => ?_
   refine go_ Try.func41 #[.pointer (some ⟨g, 0, none⟩)] ?_
   refine (Rd.i64_any _ g _ l0 _ _ HF_9.out.1).mono ?_
   rw [HT2.out]
   rintro e W23 ⟨rfl, hr, hg⟩
   have HF_10 := Aside0.mk (HF_9.out.move hr hg)
   try (have HN_ := Aside0.mk (blk_grown HN.out hg qm); clear HN; have HN := HN_; clear HN_)
   clear hr hg
   refine nx_ hK ((blk_cell HF_10.out.2.1 0).trans rfl) fun hHeld => ?_
   clear hK K
   refine on_ 10 (some 21) (fl 16 20479) fun K hK => ?_
   refine go_ Try.func42 #[.agg #[.pointer (some ⟨g, 0, none⟩)]] ?_
   refine (wire_reader_many.text _ g _ l0 _ _ HF_10.out.1).mono ?_
   rw [HT3.out]
   rintro e W24 ⟨rfl, hr, hg⟩
   have HF_11 := Aside0.mk (HF_10.out.move hr hg)
   try (have HN_ := Aside0.mk (blk_grown HN.out hg qm); clear HN; have HN := HN_; clear HN_)
   clear hr hg
   refine nx_ hK ((blk_cell HF_11.out.2.1 0).trans rfl) fun hHeld => ?_
   clear hK K
   refine on_ 12 (some 23) (fl 16 24575) fun K hK => ?_
   refine go_ Try.func43 #[.agg #[.pointer (some ⟨g, 0, none⟩)]] ?_
   refine (wire_reader_tag.tag _ g _ l0 _ _ HF_11.out.1).mono ?_
   rw [HT4.out]
   rintro e W25 ⟨rfl, hr, hg⟩
   have HF_12 := Aside0.mk (HF_11.out.move hr hg)
   try (have HN_ := Aside0.mk (blk_grown HN.out hg qm); clear HN; have HN := HN_; clear HN_)
   clear hr hg
   refine nx_ hK ((blk_cell HF_12.out.2.1 0).trans rfl) fun hHeld => ?_
   clear hK K
   refine pu_ 13 24 (fl 16 32767) ?_
   refine norm_ ?_ (HC _ _ ⟨HF_12.out, HN.out, HNG.out⟩)
   simp only [putAll, Act.put, List.setIfInBounds_toArray, List.set_cons_zero, List.set_cons_succ]
  refine go_ Try.func41 #[.pointer (some ⟨g, 0, none⟩)] ?_
  refine (Rd.i64_any _ g _ l0 _ _ HF_7.out.1).mono ?_
  rw [HT1.out]
  rintro e W22 ⟨rfl, hr, hg⟩
  have HF_13 := Aside0.mk (HF_7.out.move hr hg)
  try (have HN_ := Aside0.mk (blk_grown HN.out hg qm); clear HN; have HN := HN_; clear HN_)
  clear hr hg
  refine nx_ hK ((blk_cell HF_13.out.2.1 0).trans rfl) fun hHeld => ?_
  clear hK K
  refine two_ (i := 8) (j := 14) (Ni := some 19) (Nj := some 5) (fl 16 3071) (fl 16 19199) rfl rfl rfl rfl (two_of HT_.out (by kernel_rfl)) (by decide) (by decide) (fun K hK => ?_) (fun K hK => ?_)
  rotate_left
  ·skip
   refine Go.Proofs.Ytmdgdndidfcapaa.Str.ev_ (v := .pointer (some ⟨W22.heap.size, 0, none⟩)) (w1 := W22.alloc (.cells #[.int .i64 0, .int .i64 0, .int .i64 0, .string ⟨#[]⟩, .int .i64 0, .int .i64 0, .string ⟨#[]⟩, .int .i64 0, .int .i64 0, .int .i64 0, .bool false, .bool false, .string ⟨#[]⟩, .slice none 0 0, .slice none 0 0, .slice none 0 0, .string ⟨#[]⟩, .bool false, .slice none 0 0, .string ⟨#[]⟩, .int .i64 0, .bool false, .slice none 0 0, .slice none 0 0] 54)) (by rfl) rfl qq ?_
   have HN := Aside0.mk (blk_new W22 (.cells #[.int .i64 0, .int .i64 0, .int .i64 0, .string ⟨#[]⟩, .int .i64 0, .int .i64 0, .string ⟨#[]⟩, .int .i64 0, .int .i64 0, .int .i64 0, .bool false, .bool false, .string ⟨#[]⟩, .slice none 0 0, .slice none 0 0, .slice none 0 0, .string ⟨#[]⟩, .bool false, .slice none 0 0, .string ⟨#[]⟩, .int .i64 0, .bool false, .slice none 0 0, .slice none 0 0] 54))
   have HNG : Aside0 (g < W22.heap.size) := ⟨(Rd.Rdr.lt HF_13.out.1).2⟩
   have HF_14 := Aside0.mk (HF_13.out.alloc (.cells #[.int .i64 0, .int .i64 0, .int .i64 0, .string ⟨#[]⟩, .int .i64 0, .int .i64 0, .string ⟨#[]⟩, .int .i64 0, .int .i64 0, .int .i64 0, .bool false, .bool false, .string ⟨#[]⟩, .slice none 0 0, .slice none 0 0, .slice none 0 0, .string ⟨#[]⟩, .bool false, .slice none 0 0, .string ⟨#[]⟩, .int .i64 0, .bool false, .slice none 0 0, .slice none 0 0] 54))
   refine nm_ hK ((blk_cell HF_14.out.2.1 0).trans rfl) fun hHeld => ?_
   clear hK K
   refine on_ 8 (some 19) (fl 16 19455) fun K hK => ?_
   refine go_ Try.func41 #[.pointer (some ⟨g, 0, none⟩)] ?_
   refine (Rd.i64_any _ g _ l0 _ _ HF_14.out.1).mono ?_
   rw [HT2.out]
   rintro e W23 ⟨rfl, hr, hg⟩
   have HF_15 := Aside0.mk (HF_14.out.move hr hg)
   try (have HN_ := Aside0.mk (blk_grown HN.out hg qm); clear HN; have HN := HN_; clear HN_)
   clear hr hg
   refine nx_ hK ((blk_cell HF_15.out.2.1 0).trans rfl) fun hHeld => ?_
   clear hK K
   refine on_ 10 (some 21) (fl 16 20479) fun K hK => ?_
   refine go_ Try.func42 #[.agg #[.pointer (some ⟨g, 0, none⟩)]] ?_
   refine (wire_reader_many.text _ g _ l0 _ _ HF_15.out.1).mono ?_
   rw [HT3.out]
   rintro e W24 ⟨rfl, hr, hg⟩
   have HF_16 := Aside0.mk (HF_15.out.move hr hg)
   try (have HN_ := Aside0.mk (blk_grown HN.out hg qm); clear HN; have HN := HN_; clear HN_)
   clear hr hg
   refine nx_ hK ((blk_cell HF_16.out.2.1 0).trans rfl) fun hHeld => ?_
   clear hK K
   refine on_ 12 (some 23) (fl 16 24575) fun K hK => ?_
   refine go_ Try.func43 #[.agg #[.pointer (some ⟨g, 0, none⟩)]] ?_
   refine (wire_reader_tag.tag _ g _ l0 _ _ HF_16.out.1).mono ?_
   rw [HT4.out]
   rintro e W25 ⟨rfl, hr, hg⟩
   have HF_17 := Aside0.mk (HF_16.out.move hr hg)
   try (have HN_ := Aside0.mk (blk_grown HN.out hg qm); clear HN; have HN := HN_; clear HN_)
   clear hr hg
   refine nx_ hK ((blk_cell HF_17.out.2.1 0).trans rfl) fun hHeld => ?_
   clear hK K
   refine pu_ 13 24 (fl 16 32767) ?_
   refine norm_ ?_ (HC _ _ ⟨HF_17.out, HN.out, HNG.out⟩)
   simp only [putAll, Act.put, List.setIfInBounds_toArray, List.set_cons_zero, List.set_cons_succ]
  refine go_ Try.func41 #[.pointer (some ⟨g, 0, none⟩)] ?_
  refine (Rd.i64_any _ g _ l0 _ _ HF_13.out.1).mono ?_
  rw [HT2.out]
  rintro e W23 ⟨rfl, hr, hg⟩
  have HF_18 := Aside0.mk (HF_13.out.move hr hg)
  try (have HN_ := Aside0.mk (blk_grown HN.out hg qm); clear HN; have HN := HN_; clear HN_)
  clear hr hg
  refine nx_ hK ((blk_cell HF_18.out.2.1 0).trans rfl) fun hHeld => ?_
  clear hK K
  refine two_ (i := 10) (j := 14) (Ni := some 21) (Nj := some 5) (fl 16 4095) (fl 16 19455) rfl rfl rfl rfl (two_of HT_.out (by kernel_rfl)) (by decide) (by decide) (fun K hK => ?_) (fun K hK => ?_)
  rotate_left
  ·skip
   refine Go.Proofs.Ytmdgdndidfcapaa.Str.ev_ (v := .pointer (some ⟨W23.heap.size, 0, none⟩)) (w1 := W23.alloc (.cells #[.int .i64 0, .int .i64 0, .int .i64 0, .string ⟨#[]⟩, .int .i64 0, .int .i64 0, .string ⟨#[]⟩, .int .i64 0, .int .i64 0, .int .i64 0, .bool false, .bool false, .string ⟨#[]⟩, .slice none 0 0, .slice none 0 0, .slice none 0 0, .string ⟨#[]⟩, .bool false, .slice none 0 0, .string ⟨#[]⟩, .int .i64 0, .bool false, .slice none 0 0, .slice none 0 0] 54)) (by rfl) rfl qq ?_
   have HN := Aside0.mk (blk_new W23 (.cells #[.int .i64 0, .int .i64 0, .int .i64 0, .string ⟨#[]⟩, .int .i64 0, .int .i64 0, .string ⟨#[]⟩, .int .i64 0, .int .i64 0, .int .i64 0, .bool false, .bool false, .string ⟨#[]⟩, .slice none 0 0, .slice none 0 0, .slice none 0 0, .string ⟨#[]⟩, .bool false, .slice none 0 0, .string ⟨#[]⟩, .int .i64 0, .bool false, .slice none 0 0, .slice none 0 0] 54))
   have HNG : Aside0 (g < W23.heap.size) := ⟨(Rd.Rdr.lt HF_18.out.1).2⟩
   have HF_19 := Aside0.mk (HF_18.out.alloc (.cells #[.int .i64 0, .int .i64 0, .int .i64 0, .string ⟨#[]⟩, .int .i64 0, .int .i64 0, .string ⟨#[]⟩, .int .i64 0, .int .i64 0, .int .i64 0, .bool false, .bool false, .string ⟨#[]⟩, .slice none 0 0, .slice none 0 0, .slice none 0 0, .string ⟨#[]⟩, .bool false, .slice none 0 0, .string ⟨#[]⟩, .int .i64 0, .bool false, .slice none 0 0, .slice none 0 0] 54))
   refine nm_ hK ((blk_cell HF_19.out.2.1 0).trans rfl) fun hHeld => ?_
   clear hK K
   refine on_ 10 (some 21) (fl 16 20479) fun K hK => ?_
   refine go_ Try.func42 #[.agg #[.pointer (some ⟨g, 0, none⟩)]] ?_
   refine (wire_reader_many.text _ g _ l0 _ _ HF_19.out.1).mono ?_
   rw [HT3.out]
   rintro e W24 ⟨rfl, hr, hg⟩
   have HF_20 := Aside0.mk (HF_19.out.move hr hg)
   try (have HN_ := Aside0.mk (blk_grown HN.out hg qm); clear HN; have HN := HN_; clear HN_)
   clear hr hg
   refine nx_ hK ((blk_cell HF_20.out.2.1 0).trans rfl) fun hHeld => ?_
   clear hK K
   refine on_ 12 (some 23) (fl 16 24575) fun K hK => ?_
   refine go_ Try.func43 #[.agg #[.pointer (some ⟨g, 0, none⟩)]] ?_
   refine (wire_reader_tag.tag _ g _ l0 _ _ HF_20.out.1).mono ?_
   rw [HT4.out]
   rintro e W25 ⟨rfl, hr, hg⟩
   have HF_21 := Aside0.mk (HF_20.out.move hr hg)
   try (have HN_ := Aside0.mk (blk_grown HN.out hg qm); clear HN; have HN := HN_; clear HN_)
   clear hr hg
   refine nx_ hK ((blk_cell HF_21.out.2.1 0).trans rfl) fun hHeld => ?_
   clear hK K
   refine pu_ 13 24 (fl 16 32767) ?_
   refine norm_ ?_ (HC _ _ ⟨HF_21.out, HN.out, HNG.out⟩)
   simp only [putAll, Act.put, List.setIfInBounds_toArray, List.set_cons_zero, List.set_cons_succ]
  refine go_ Try.func42 #[.agg #[.pointer (some ⟨g, 0, none⟩)]] ?_
  refine (wire_reader_many.text _ g _ l0 _ _ HF_18.out.1).mono ?_
  rw [HT3.out]
  rintro e W24 ⟨rfl, hr, hg⟩
  have HF_22 := Aside0.mk (HF_18.out.move hr hg)
  try (have HN_ := Aside0.mk (blk_grown HN.out hg qm); clear HN; have HN := HN_; clear HN_)
  clear hr hg
  refine nx_ hK ((blk_cell HF_22.out.2.1 0).trans rfl) fun hHeld => ?_
  clear hK K
  refine two_ (i := 12) (j := 14) (Ni := some 23) (Nj := some 5) (fl 16 8191) (fl 16 20479) rfl rfl rfl rfl (two_of HT_.out (by kernel_rfl)) (by decide) (by decide) (fun K hK => ?_) (fun K hK => ?_)
  rotate_left
  ·skip
   refine Go.Proofs.Ytmdgdndidfcapaa.Str.ev_ (v := .pointer (some ⟨W24.heap.size, 0, none⟩)) (w1 := W24.alloc (.cells #[.int .i64 0, .int .i64 0, .int .i64 0, .string ⟨#[]⟩, .int .i64 0, .int .i64 0, .string ⟨#[]⟩, .int .i64 0, .int .i64 0, .int .i64 0, .bool false, .bool false, .string ⟨#[]⟩, .slice none 0 0, .slice none 0 0, .slice none 0 0, .string ⟨#[]⟩, .bool false, .slice none 0 0, .string ⟨#[]⟩, .int .i64 0, .bool false, .slice none 0 0, .slice none 0 0] 54)) (by rfl) rfl qq ?_
   have HN := Aside0.mk (blk_new W24 (.cells #[.int .i64 0, .int .i64 0, .int .i64 0, .string ⟨#[]⟩, .int .i64 0, .int .i64 0, .string ⟨#[]⟩, .int .i64 0, .int .i64 0, .int .i64 0, .bool false, .bool false, .string ⟨#[]⟩, .slice none 0 0, .slice none 0 0, .slice none 0 0, .string ⟨#[]⟩, .bool false, .slice none 0 0, .string ⟨#[]⟩, .int .i64 0, .bool false, .slice none 0 0, .slice none 0 0] 54))
   have HNG : Aside0 (g < W24.heap.size) := ⟨(Rd.Rdr.lt HF_22.out.1).2⟩
   have HF_23 := Aside0.mk (HF_22.out.alloc (.cells #[.int .i64 0, .int .i64 0, .int .i64 0, .string ⟨#[]⟩, .int .i64 0, .int .i64 0, .string ⟨#[]⟩, .int .i64 0, .int .i64 0, .int .i64 0, .bool false, .bool false, .string ⟨#[]⟩, .slice none 0 0, .slice none 0 0, .slice none 0 0, .string ⟨#[]⟩, .bool false, .slice none 0 0, .string ⟨#[]⟩, .int .i64 0, .bool false, .slice none 0 0, .slice none 0 0] 54))
   refine nm_ hK ((blk_cell HF_23.out.2.1 0).trans rfl) fun hHeld => ?_
   clear hK K
   refine on_ 12 (some 23) (fl 16 24575) fun K hK => ?_
   refine go_ Try.func43 #[.agg #[.pointer (some ⟨g, 0, none⟩)]] ?_
   refine (wire_reader_tag.tag _ g _ l0 _ _ HF_23.out.1).mono ?_
   rw [HT4.out]
   rintro e W25 ⟨rfl, hr, hg⟩
   have HF_24 := Aside0.mk (HF_23.out.move hr hg)
   try (have HN_ := Aside0.mk (blk_grown HN.out hg qm); clear HN; have HN := HN_; clear HN_)
   clear hr hg
   refine nx_ hK ((blk_cell HF_24.out.2.1 0).trans rfl) fun hHeld => ?_
   clear hK K
   refine pu_ 13 24 (fl 16 32767) ?_
   refine norm_ ?_ (HC _ _ ⟨HF_24.out, HN.out, HNG.out⟩)
   simp only [putAll, Act.put, List.setIfInBounds_toArray, List.set_cons_zero, List.set_cons_succ]
  refine go_ Try.func43 #[.agg #[.pointer (some ⟨g, 0, none⟩)]] ?_
  refine (wire_reader_tag.tag _ g _ l0 _ _ HF_22.out.1).mono ?_
  rw [HT4.out]
  rintro e W25 ⟨rfl, hr, hg⟩
  have HF_25 := Aside0.mk (HF_22.out.move hr hg)
  try (have HN_ := Aside0.mk (blk_grown HN.out hg qm); clear HN; have HN := HN_; clear HN_)
  clear hr hg
  refine nx_ hK ((blk_cell HF_25.out.2.1 0).trans rfl) fun hHeld => ?_
  clear hK K
  refine pu_ 13 24 (fl 16 16383) ?_
  refine on_ 14 (some 5) (fl 16 32767) fun K hK => ?_
  refine Go.Proofs.Ytmdgdndidfcapaa.Str.ev_ (v := .pointer (some ⟨W25.heap.size, 0, none⟩)) (w1 := W25.alloc (.cells #[.int .i64 0, .int .i64 0, .int .i64 0, .string ⟨#[]⟩, .int .i64 0, .int .i64 0, .string ⟨#[]⟩, .int .i64 0, .int .i64 0, .int .i64 0, .bool false, .bool false, .string ⟨#[]⟩, .slice none 0 0, .slice none 0 0, .slice none 0 0, .string ⟨#[]⟩, .bool false, .slice none 0 0, .string ⟨#[]⟩, .int .i64 0, .bool false, .slice none 0 0, .slice none 0 0] 54)) (by rfl) rfl qq ?_
  have HN := Aside0.mk (blk_new W25 (.cells #[.int .i64 0, .int .i64 0, .int .i64 0, .string ⟨#[]⟩, .int .i64 0, .int .i64 0, .string ⟨#[]⟩, .int .i64 0, .int .i64 0, .int .i64 0, .bool false, .bool false, .string ⟨#[]⟩, .slice none 0 0, .slice none 0 0, .slice none 0 0, .string ⟨#[]⟩, .bool false, .slice none 0 0, .string ⟨#[]⟩, .int .i64 0, .bool false, .slice none 0 0, .slice none 0 0] 54))
  have HNG : Aside0 (g < W25.heap.size) := ⟨(Rd.Rdr.lt HF_25.out.1).2⟩
  have HF_26 := Aside0.mk (HF_25.out.alloc (.cells #[.int .i64 0, .int .i64 0, .int .i64 0, .string ⟨#[]⟩, .int .i64 0, .int .i64 0, .string ⟨#[]⟩, .int .i64 0, .int .i64 0, .int .i64 0, .bool false, .bool false, .string ⟨#[]⟩, .slice none 0 0, .slice none 0 0, .slice none 0 0, .string ⟨#[]⟩, .bool false, .slice none 0 0, .string ⟨#[]⟩, .int .i64 0, .bool false, .slice none 0 0, .slice none 0 0] 54))
  refine nm_ hK ((blk_cell HF_26.out.2.1 0).trans rfl) fun hHeld => ?_
  clear hK K
  refine norm_ ?_ (HC _ _ ⟨HF_26.out, HN.out, HNG.out⟩)
  simp only [putAll, Act.put, List.setIfInBounds_toArray, List.set_cons_zero, List.set_cons_succ]
 case cont =>
  rintro bx w2 ⟨hF, hN, hgn⟩
  clear HF hHeld
  have HF2 : Aside0 (AnS w g rb gb bx l0 #[.int .i64 0, .int .i64 0, .int .i64 0, .string ⟨#[]⟩, .int .i64 0, .int .i64 0, .string ⟨#[]⟩, .int .i64 0, .int .i64 0, .int .i64 0, .bool false, .bool false, .string ⟨#[]⟩, .slice none 0 0, .slice none 0 0, .slice none 0 0, .string ⟨#[]⟩, .bool false, .slice none 0 0, .string ⟨#[]⟩, .int .i64 0, .bool false, .slice none 0 0, .slice none 0 0] (.slice none 0 0) [] (.slice none 0 0) [] (.slice none 0 0) [] (.slice none 0 0) [] (.slice none 0 0) [] (.slice none 0 0) [] w2 t4.2.1 t4.2.2) := ⟨hF, hN, ⟨Kd.R_nil _ _ _ _ _, Kd.R_nil _ _ _ _ _, Kd.R_nil _ _ _ _ _, Kd.R_nil _ _ _ _ _, Kd.R_nil _ _ _ _ _, Kd.R_nil _ _ _ _ _⟩, hgn⟩
  clear hF hN hgn
  simp only [putAll, Act.put, List.setIfInBounds_toArray, List.set_cons_zero, List.set_cons_succ]
  refine la_ 15 none (fl 16 65535) fun K hK => ?_
  refine skip_store (F := fun w1 => w1.heap[bx]? = some (.cells #[.int .i64 t0.1, .int .i64 t1.1, .int .i64 t2.1, .string (strOfNums t3.1), .int .i64 t4.1.1, .int .i64 t4.1.2, .string ⟨#[]⟩, .int .i64 0, .int .i64 0, .int .i64 0, .bool false, .bool false, .string ⟨#[]⟩, .slice none 0 0, .slice none 0 0, .slice none 0 0, .string ⟨#[]⟩, .bool false, .slice none 0 0, .string ⟨#[]⟩, .int .i64 0, .bool false, .slice none 0 0, .slice none 0 0] 54 (0, 0)) ∧ World.grownBy _ w1 (some bx)) (by rfl) rfl (store_step (cs2 := #[.int .i64 t0.1, .int .i64 t1.1, .int .i64 t2.1, .string (strOfNums t3.1), .int .i64 t4.1.1, .int .i64 t4.1.2, .string ⟨#[]⟩, .int .i64 0, .int .i64 0, .int .i64 0, .bool false, .bool false, .string ⟨#[]⟩, .slice none 0 0, .slice none 0 0, .slice none 0 0, .string ⟨#[]⟩, .bool false, .slice none 0 0, .string ⟨#[]⟩, .int .i64 0, .bool false, .slice none 0 0, .slice none 0 0]) [.int .i64 t0.1, .int .i64 t1.1, .int .i64 t2.1, .string (strOfNums t3.1), .int .i64 t4.1.1, .int .i64 t4.1.2, .string ⟨#[]⟩, .int .i64 0, .int .i64 0, .int .i64 0, .bool false, .bool false, .string ⟨#[]⟩, .slice none 0 0, .slice none 0 0, .slice none 0 0, .string ⟨#[]⟩, .bool false, .slice none 0 0, .string ⟨#[]⟩, .int .i64 0, .bool false, .slice none 0 0, .slice none 0 0] rfl rfl rfl rfl Try.sizeOf54 rfl (Nat.le_of_ble_eq_true rfl) HF2.out.2.1 (by kernel_rfl)) ?_
  rintro w3 ⟨hX, hg⟩
  have HF3_ := Aside0.mk (HF2.out.set hX hg)
  have HF3 := Aside0.mk (HF3_.out.quiet (grown_of_below (below_drew1 (Below.refl w3.heap.size w3)) none))
  clear hX hg HF2 HF3_
  refine hK.out _ _ ?_
  clear hK K
  refine dn_ ?_
  clear HT_ HW_
  go_wp2_with fail
  refine start_ (n := 15) (S := fun w' => w'.cell? ⟨gb, 0, none⟩ = some (.pointer (some ⟨g, 0, none⟩))) (ds := [14]) (fl 15 0) (by kernel_rfl) rfl rfl ((blk_cell HF3.out.1.2.1 0).trans rfl) (fun hHeld => ?_)
  refine with_tabW wire_ReadAnswer.tab3 wire_ReadAnswer.bits3 (fun HT_ HW_ => ?_)
  generalize (World.drew _) = wd at HF3 hHeld ⊢
  refine tk_1 0 25 (fl 15 1) hHeld ?_
  refine tk_1 2 27 (fl 15 5) hHeld ?_
  refine tk_1 4 29 (fl 15 21) hHeld ?_
  refine on_ 1 (some 26) (fl 15 23) fun K hK => ?_
  refine go_ Try.func42 #[.agg #[.pointer (some ⟨g, 0, none⟩)]] ?_
  refine (wire_reader_many.text _ g _ l0 _ _ HF3.out.1.1).mono ?_
  rw [HT5.out]
  rintro e w101 ⟨rfl, hr, hg⟩
  have H3_1 := Aside0.mk (HF3.out.move hr hg)
  clear hr hg HF3
  refine nx_ hK ((blk_cell H3_1.out.1.2.1 0).trans rfl) fun hHeld => ?_
  clear hK K
  refine pu_ 6 31 (fl 15 87) ?_
  refine pu_ 7 32 (fl 15 215) ?_
  refine on_ 3 (some 28) (fl 15 223) fun K hK => ?_
  refine go_ Try.func44 #[.agg #[.pointer (some ⟨g, 0, none⟩)]] ?_
  refine (wire_reader_head.head _ g _ l0 _ _ H3_1.out.1.1).mono ?_
  rw [HT6.out]
  rintro e w102 ⟨rfl, hr, hg⟩
  have H3_2 := Aside0.mk (H3_1.out.move hr hg)
  clear hr hg H3_1
  refine nx_ hK ((blk_cell H3_2.out.1.2.1 0).trans rfl) fun hHeld => ?_
  clear hK K
  refine on_ 5 (some 30) (fl 15 255) fun K hK => ?_
  refine go_ Try.func42 #[.agg #[.pointer (some ⟨g, 0, none⟩)]] ?_
  refine (wire_reader_many.text _ g _ l0 _ _ H3_2.out.1.1).mono ?_
  rw [HT7.out]
  rintro e w103 ⟨rfl, hr, hg⟩
  have H3_3 := Aside0.mk (H3_2.out.move hr hg)
  clear hr hg H3_2
  refine nx_ hK ((blk_cell H3_3.out.1.2.1 0).trans rfl) fun hHeld => ?_
  clear hK K
  refine on_ 8 none (fl 15 511) fun K hK => ?_
  refine skip_store (F := fun w1 => w1.heap[bx]? = some (.cells #[.int .i64 t0.1, .int .i64 t1.1, .int .i64 t2.1, .string (strOfNums t3.1), .int .i64 t4.1.1, .int .i64 t4.1.2, .string (strOfNums t5.1), .int .i64 0, .int .i64 0, .int .i64 0, .bool false, .bool false, .string ⟨#[]⟩, .slice none 0 0, .slice none 0 0, .slice none 0 0, .string ⟨#[]⟩, .bool false, .slice none 0 0, .string ⟨#[]⟩, .int .i64 0, .bool false, .slice none 0 0, .slice none 0 0] 54 (0, 0)) ∧ World.grownBy _ w1 (some bx)) (by rfl) rfl (store_step (cs2 := #[.int .i64 t0.1, .int .i64 t1.1, .int .i64 t2.1, .string (strOfNums t3.1), .int .i64 t4.1.1, .int .i64 t4.1.2, .string (strOfNums t5.1), .int .i64 0, .int .i64 0, .int .i64 0, .bool false, .bool false, .string ⟨#[]⟩, .slice none 0 0, .slice none 0 0, .slice none 0 0, .string ⟨#[]⟩, .bool false, .slice none 0 0, .string ⟨#[]⟩, .int .i64 0, .bool false, .slice none 0 0, .slice none 0 0]) [.string (strOfNums t5.1)] rfl rfl rfl rfl Try.sizeOf9 rfl (Nat.le_of_ble_eq_true rfl) H3_3.out.2.1 (by kernel_rfl)) ?_
  rintro w104 ⟨hX, hg⟩
  have H3_4 := Aside0.mk (H3_3.out.set hX hg)
  clear hX hg H3_3
  refine hK.out _ _ ((blk_cell H3_4.out.1.2.1 0).trans rfl) (fun hHeld => ?_)
  clear hK K
  refine pu_ 9 33 (fl 15 1023) ?_
  refine pu_ 10 34 (fl 15 2047) ?_
  refine on_ 11 none (fl 15 4095) fun K hK => ?_
  refine skip_store (F := fun w1 => w1.heap[bx]? = some (.cells #[.int .i64 t0.1, .int .i64 t1.1, .int .i64 t2.1, .string (strOfNums t3.1), .int .i64 t4.1.1, .int .i64 t4.1.2, .string (strOfNums t5.1), .int .i64 t6.1.1, .int .i64 t6.1.2.1, .int .i64 t6.1.2.2.1, .bool t6.1.2.2.2.1, .bool t6.1.2.2.2.2, .string ⟨#[]⟩, .slice none 0 0, .slice none 0 0, .slice none 0 0, .string ⟨#[]⟩, .bool false, .slice none 0 0, .string ⟨#[]⟩, .int .i64 0, .bool false, .slice none 0 0, .slice none 0 0] 54 (0, 0)) ∧ World.grownBy _ w1 (some bx)) (by rfl) rfl (store_step (cs2 := #[.int .i64 t0.1, .int .i64 t1.1, .int .i64 t2.1, .string (strOfNums t3.1), .int .i64 t4.1.1, .int .i64 t4.1.2, .string (strOfNums t5.1), .int .i64 t6.1.1, .int .i64 t6.1.2.1, .int .i64 t6.1.2.2.1, .bool t6.1.2.2.2.1, .bool t6.1.2.2.2.2, .string ⟨#[]⟩, .slice none 0 0, .slice none 0 0, .slice none 0 0, .string ⟨#[]⟩, .bool false, .slice none 0 0, .string ⟨#[]⟩, .int .i64 0, .bool false, .slice none 0 0, .slice none 0 0]) [.int .i64 t6.1.1, .int .i64 t6.1.2.1, .int .i64 t6.1.2.2.1, .bool t6.1.2.2.2.1, .bool t6.1.2.2.2.2] rfl rfl rfl rfl Try.sizeOf42 rfl (Nat.le_of_ble_eq_true rfl) H3_4.out.2.1 (by kernel_rfl)) ?_
  rintro w105 ⟨hX, hg⟩
  have H3_5 := Aside0.mk (H3_4.out.set hX hg)
  clear hX hg H3_4
  refine hK.out _ _ ((blk_cell H3_5.out.1.2.1 0).trans rfl) (fun hHeld => ?_)
  clear hK K
  refine pu_ 12 35 (fl 15 8191) ?_
  refine pu_ 13 36 (fl 15 16383) ?_
  refine la_ 14 none (fl 15 32767) fun K hK => ?_
  refine skip_store (F := fun w1 => w1.heap[bx]? = some (.cells #[.int .i64 t0.1, .int .i64 t1.1, .int .i64 t2.1, .string (strOfNums t3.1), .int .i64 t4.1.1, .int .i64 t4.1.2, .string (strOfNums t5.1), .int .i64 t6.1.1, .int .i64 t6.1.2.1, .int .i64 t6.1.2.2.1, .bool t6.1.2.2.2.1, .bool t6.1.2.2.2.2, .string (strOfNums t7.1), .slice none 0 0, .slice none 0 0, .slice none 0 0, .string ⟨#[]⟩, .bool false, .slice none 0 0, .string ⟨#[]⟩, .int .i64 0, .bool false, .slice none 0 0, .slice none 0 0] 54 (0, 0)) ∧ World.grownBy _ w1 (some bx)) (by rfl) rfl (store_step (cs2 := #[.int .i64 t0.1, .int .i64 t1.1, .int .i64 t2.1, .string (strOfNums t3.1), .int .i64 t4.1.1, .int .i64 t4.1.2, .string (strOfNums t5.1), .int .i64 t6.1.1, .int .i64 t6.1.2.1, .int .i64 t6.1.2.2.1, .bool t6.1.2.2.2.1, .bool t6.1.2.2.2.2, .string (strOfNums t7.1), .slice none 0 0, .slice none 0 0, .slice none 0 0, .string ⟨#[]⟩, .bool false, .slice none 0 0, .string ⟨#[]⟩, .int .i64 0, .bool false, .slice none 0 0, .slice none 0 0]) [.string (strOfNums t7.1)] rfl rfl rfl rfl Try.sizeOf9 rfl (Nat.le_of_ble_eq_true rfl) H3_5.out.2.1 (by kernel_rfl)) ?_
  rintro w106 ⟨hX, hg⟩
  have H3_6 := Aside0.mk (H3_5.out.set hX hg)
  clear hX hg H3_5
  refine hK.out _ _ ?_
  clear hK K
  refine dn_ ?_
  clear HT_ HW_ hHeld
  have HF4 := Aside0.mk (H3_6.out.quiet (grown_of_below (below_drew1 (Below.refl _ _)) none))
  clear H3_6
  go_wp2_with fail
  refine start_ (n := 14) (S := fun w' => w'.cell? ⟨gb, 0, none⟩ = some (.pointer (some ⟨g, 0, none⟩))) (ds := [13]) (fl 14 0) (by kernel_rfl) rfl rfl ((blk_cell HF4.out.1.2.1 0).trans rfl) (fun hHeld => ?_)
  refine with_tabW wire_ReadAnswer.tab4 wire_ReadAnswer.bits4 (fun HT_ HW_ => ?_)
  generalize (World.drew _) = wd at HF4 hHeld ⊢
  refine tk_1 0 37 (fl 14 1) hHeld ?_
  refine tk_1 2 39 (fl 14 5) hHeld ?_
  refine tk_1 4 41 (fl 14 21) hHeld ?_
  refine on_ 1 (some 38) (fl 14 23) fun K hK => ?_
  refine go_ Try.func45 #[.agg #[.pointer (some ⟨g, 0, none⟩)]] ?_
  refine (wire_reader_texts.texts _ g _ l0 _ _ HF4.out.1.1).mono ?_
  rw [HT8.out]
  rintro e w107 ⟨v8, rfl, hr, hO, hg, hl⟩
  obtain ⟨A8, c8, ev_⟩ := Kd.R_slice hO
  subst ev_
  have H4_1 := Aside0.mk (HF4.out.row1 hr hO hg)
  clear hr hO hg hl HF4
  refine nx_ hK ((blk_cell H4_1.out.1.2.1 0).trans rfl) fun hHeld => ?_
  clear hK K
  refine pu_ 6 43 (fl 14 87) ?_
  refine on_ 3 (some 40) (fl 14 95) fun K hK => ?_
  refine go_ Try.func45 #[.agg #[.pointer (some ⟨g, 0, none⟩)]] ?_
  refine (wire_reader_texts.texts _ g _ l0 _ _ H4_1.out.1.1).mono ?_
  rw [HT9.out]
  rintro e w108 ⟨v9, rfl, hr, hO, hg, hl⟩
  obtain ⟨A9, c9, ev_⟩ := Kd.R_slice hO
  subst ev_
  have H4_2 := Aside0.mk (H4_1.out.row2 hr hO hg)
  clear hr hO hg hl H4_1
  refine nx_ hK ((blk_cell H4_2.out.1.2.1 0).trans rfl) fun hHeld => ?_
  clear hK K
  refine on_ 5 (some 42) (fl 14 127) fun K hK => ?_
  refine go_ Try.func45 #[.agg #[.pointer (some ⟨g, 0, none⟩)]] ?_
  refine (wire_reader_texts.texts _ g _ l0 _ _ H4_2.out.1.1).mono ?_
  rw [HT10.out]
  rintro e w109 ⟨v10, rfl, hr, hO, hg, hl⟩
  obtain ⟨A10, c10, ev_⟩ := Kd.R_slice hO
  subst ev_
  have H4_3 := Aside0.mk (H4_2.out.row3 hr hO hg)
  clear hr hO hg hl H4_2
  refine nx_ hK ((blk_cell H4_3.out.1.2.1 0).trans rfl) fun hHeld => ?_
  clear hK K
  refine on_ 7 none (fl 14 255) fun K hK => ?_
  refine skip_store (F := fun w1 => w1.heap[bx]? = some (.cells #[.int .i64 t0.1, .int .i64 t1.1, .int .i64 t2.1, .string (strOfNums t3.1), .int .i64 t4.1.1, .int .i64 t4.1.2, .string (strOfNums t5.1), .int .i64 t6.1.1, .int .i64 t6.1.2.1, .int .i64 t6.1.2.2.1, .bool t6.1.2.2.2.1, .bool t6.1.2.2.2.2, .string (strOfNums t7.1), .slice A8 t8.1.length c8, .slice none 0 0, .slice none 0 0, .string ⟨#[]⟩, .bool false, .slice none 0 0, .string ⟨#[]⟩, .int .i64 0, .bool false, .slice none 0 0, .slice none 0 0] 54 (0, 0)) ∧ World.grownBy _ w1 (some bx)) (by rfl) rfl (store_step (cs2 := #[.int .i64 t0.1, .int .i64 t1.1, .int .i64 t2.1, .string (strOfNums t3.1), .int .i64 t4.1.1, .int .i64 t4.1.2, .string (strOfNums t5.1), .int .i64 t6.1.1, .int .i64 t6.1.2.1, .int .i64 t6.1.2.2.1, .bool t6.1.2.2.2.1, .bool t6.1.2.2.2.2, .string (strOfNums t7.1), .slice A8 t8.1.length c8, .slice none 0 0, .slice none 0 0, .string ⟨#[]⟩, .bool false, .slice none 0 0, .string ⟨#[]⟩, .int .i64 0, .bool false, .slice none 0 0, .slice none 0 0]) [.slice A8 t8.1.length c8] rfl rfl rfl rfl Try.sizeOf45 rfl (Nat.le_of_ble_eq_true rfl) H4_3.out.2.1 (by kernel_rfl)) ?_
  rintro w110 ⟨hX, hg⟩
  have H4_4 := Aside0.mk (H4_3.out.set hX hg)
  clear hX hg H4_3
  refine hK.out _ _ ((blk_cell H4_4.out.1.2.1 0).trans rfl) (fun hHeld => ?_)
  clear hK K
  refine pu_ 8 44 (fl 14 511) ?_
  refine pu_ 9 45 (fl 14 1023) ?_
  refine on_ 10 none (fl 14 2047) fun K hK => ?_
  refine skip_store (F := fun w1 => w1.heap[bx]? = some (.cells #[.int .i64 t0.1, .int .i64 t1.1, .int .i64 t2.1, .string (strOfNums t3.1), .int .i64 t4.1.1, .int .i64 t4.1.2, .string (strOfNums t5.1), .int .i64 t6.1.1, .int .i64 t6.1.2.1, .int .i64 t6.1.2.2.1, .bool t6.1.2.2.2.1, .bool t6.1.2.2.2.2, .string (strOfNums t7.1), .slice A8 t8.1.length c8, .slice A9 t9.1.length c9, .slice none 0 0, .string ⟨#[]⟩, .bool false, .slice none 0 0, .string ⟨#[]⟩, .int .i64 0, .bool false, .slice none 0 0, .slice none 0 0] 54 (0, 0)) ∧ World.grownBy _ w1 (some bx)) (by rfl) rfl (store_step (cs2 := #[.int .i64 t0.1, .int .i64 t1.1, .int .i64 t2.1, .string (strOfNums t3.1), .int .i64 t4.1.1, .int .i64 t4.1.2, .string (strOfNums t5.1), .int .i64 t6.1.1, .int .i64 t6.1.2.1, .int .i64 t6.1.2.2.1, .bool t6.1.2.2.2.1, .bool t6.1.2.2.2.2, .string (strOfNums t7.1), .slice A8 t8.1.length c8, .slice A9 t9.1.length c9, .slice none 0 0, .string ⟨#[]⟩, .bool false, .slice none 0 0, .string ⟨#[]⟩, .int .i64 0, .bool false, .slice none 0 0, .slice none 0 0]) [.slice A9 t9.1.length c9] rfl rfl rfl rfl Try.sizeOf45 rfl (Nat.le_of_ble_eq_true rfl) H4_4.out.2.1 (by kernel_rfl)) ?_
  rintro w111 ⟨hX, hg⟩
  have H4_5 := Aside0.mk (H4_4.out.set hX hg)
  clear hX hg H4_4
  refine hK.out _ _ ((blk_cell H4_5.out.1.2.1 0).trans rfl) (fun hHeld => ?_)
  clear hK K
  refine pu_ 11 46 (fl 14 4095) ?_
  refine pu_ 12 47 (fl 14 8191) ?_
  refine la_ 13 none (fl 14 16383) fun K hK => ?_
  refine skip_store (F := fun w1 => w1.heap[bx]? = some (.cells #[.int .i64 t0.1, .int .i64 t1.1, .int .i64 t2.1, .string (strOfNums t3.1), .int .i64 t4.1.1, .int .i64 t4.1.2, .string (strOfNums t5.1), .int .i64 t6.1.1, .int .i64 t6.1.2.1, .int .i64 t6.1.2.2.1, .bool t6.1.2.2.2.1, .bool t6.1.2.2.2.2, .string (strOfNums t7.1), .slice A8 t8.1.length c8, .slice A9 t9.1.length c9, .slice A10 t10.1.length c10, .string ⟨#[]⟩, .bool false, .slice none 0 0, .string ⟨#[]⟩, .int .i64 0, .bool false, .slice none 0 0, .slice none 0 0] 54 (0, 0)) ∧ World.grownBy _ w1 (some bx)) (by rfl) rfl (store_step (cs2 := #[.int .i64 t0.1, .int .i64 t1.1, .int .i64 t2.1, .string (strOfNums t3.1), .int .i64 t4.1.1, .int .i64 t4.1.2, .string (strOfNums t5.1), .int .i64 t6.1.1, .int .i64 t6.1.2.1, .int .i64 t6.1.2.2.1, .bool t6.1.2.2.2.1, .bool t6.1.2.2.2.2, .string (strOfNums t7.1), .slice A8 t8.1.length c8, .slice A9 t9.1.length c9, .slice A10 t10.1.length c10, .string ⟨#[]⟩, .bool false, .slice none 0 0, .string ⟨#[]⟩, .int .i64 0, .bool false, .slice none 0 0, .slice none 0 0]) [.slice A10 t10.1.length c10] rfl rfl rfl rfl Try.sizeOf45 rfl (Nat.le_of_ble_eq_true rfl) H4_5.out.2.1 (by kernel_rfl)) ?_
  rintro w112 ⟨hX, hg⟩
  have H4_6 := Aside0.mk (H4_5.out.set hX hg)
  clear hX hg H4_5
  refine hK.out _ _ ?_
  clear hK K
  refine dn_ ?_
  clear HT_ HW_ hHeld
  have HF5 := Aside0.mk (H4_6.out.quiet (grown_of_below (below_drew1 (Below.refl _ _)) none))
  clear H4_6
  go_wp2_with fail
  refine start_ (n := 10) (S := fun w' => w'.cell? ⟨gb, 0, none⟩ = some (.pointer (some ⟨g, 0, none⟩))) (ds := [9]) (fl 10 0) (by kernel_rfl) rfl rfl ((blk_cell HF5.out.1.2.1 0).trans rfl) (fun hHeld => ?_)
  refine with_tabW wire_ReadAnswer.tab5 wire_ReadAnswer.bits5 (fun HT_ HW_ => ?_)
  generalize (World.drew _) = wd at HF5 hHeld ⊢
  refine tk_1 0 48 (fl 10 1) hHeld ?_
  refine tk_1 2 50 (fl 10 5) hHeld ?_
  refine on_ 1 (some 49) (fl 10 7) fun K hK => ?_
  refine go_ Try.func42 #[.agg #[.pointer (some ⟨g, 0, none⟩)]] ?_
  refine (wire_reader_many.text _ g _ l0 _ _ HF5.out.1.1).mono ?_
  rw [HT11.out]
  rintro e w113 ⟨rfl, hr, hg⟩
  have H5_1 := Aside0.mk (HF5.out.move hr hg)
  clear hr hg HF5
  refine nx_ hK ((blk_cell H5_1.out.1.2.1 0).trans rfl) fun hHeld => ?_
  clear hK K
  refine pu_ 4 52 (fl 10 23) ?_
  refine pu_ 5 53 (fl 10 55) ?_
  refine on_ 3 (some 51) (fl 10 63) fun K hK => ?_
  refine go_ Try.func46 #[.agg #[.pointer (some ⟨g, 0, none⟩)]] ?_
  refine (wire_reader_many.truth _ g _ l0 _ _ H5_1.out.1.1).mono ?_
  rw [HT12.out]
  rintro e w114 ⟨rfl, hr, hg⟩
  have H5_2 := Aside0.mk (H5_1.out.move hr hg)
  clear hr hg H5_1
  refine nx_ hK ((blk_cell H5_2.out.1.2.1 0).trans rfl) fun hHeld => ?_
  clear hK K
  refine on_ 6 none (fl 10 127) fun K hK => ?_
  refine skip_store (F := fun w1 => w1.heap[bx]? = some (.cells #[.int .i64 t0.1, .int .i64 t1.1, .int .i64 t2.1, .string (strOfNums t3.1), .int .i64 t4.1.1, .int .i64 t4.1.2, .string (strOfNums t5.1), .int .i64 t6.1.1, .int .i64 t6.1.2.1, .int .i64 t6.1.2.2.1, .bool t6.1.2.2.2.1, .bool t6.1.2.2.2.2, .string (strOfNums t7.1), .slice A8 t8.1.length c8, .slice A9 t9.1.length c9, .slice A10 t10.1.length c10, .string (strOfNums t11.1), .bool false, .slice none 0 0, .string ⟨#[]⟩, .int .i64 0, .bool false, .slice none 0 0, .slice none 0 0] 54 (0, 0)) ∧ World.grownBy _ w1 (some bx)) (by rfl) rfl (store_step (cs2 := #[.int .i64 t0.1, .int .i64 t1.1, .int .i64 t2.1, .string (strOfNums t3.1), .int .i64 t4.1.1, .int .i64 t4.1.2, .string (strOfNums t5.1), .int .i64 t6.1.1, .int .i64 t6.1.2.1, .int .i64 t6.1.2.2.1, .bool t6.1.2.2.2.1, .bool t6.1.2.2.2.2, .string (strOfNums t7.1), .slice A8 t8.1.length c8, .slice A9 t9.1.length c9, .slice A10 t10.1.length c10, .string (strOfNums t11.1), .bool false, .slice none 0 0, .string ⟨#[]⟩, .int .i64 0, .bool false, .slice none 0 0, .slice none 0 0]) [.string (strOfNums t11.1)] rfl rfl rfl rfl Try.sizeOf9 rfl (Nat.le_of_ble_eq_true rfl) H5_2.out.2.1 (by kernel_rfl)) ?_
  rintro w115 ⟨hX, hg⟩
  have H5_3 := Aside0.mk (H5_2.out.set hX hg)
  clear hX hg H5_2
  refine hK.out _ _ ((blk_cell H5_3.out.1.2.1 0).trans rfl) (fun hHeld => ?_)
  clear hK K
  refine pu_ 7 54 (fl 10 255) ?_
  refine pu_ 8 55 (fl 10 511) ?_
  refine la_ 9 none (fl 10 1023) fun K hK => ?_
  refine skip_store (F := fun w1 => w1.heap[bx]? = some (.cells #[.int .i64 t0.1, .int .i64 t1.1, .int .i64 t2.1, .string (strOfNums t3.1), .int .i64 t4.1.1, .int .i64 t4.1.2, .string (strOfNums t5.1), .int .i64 t6.1.1, .int .i64 t6.1.2.1, .int .i64 t6.1.2.2.1, .bool t6.1.2.2.2.1, .bool t6.1.2.2.2.2, .string (strOfNums t7.1), .slice A8 t8.1.length c8, .slice A9 t9.1.length c9, .slice A10 t10.1.length c10, .string (strOfNums t11.1), .bool b12, .slice none 0 0, .string ⟨#[]⟩, .int .i64 0, .bool false, .slice none 0 0, .slice none 0 0] 54 (0, 0)) ∧ World.grownBy _ w1 (some bx)) (by rfl) rfl (store_step (cs2 := #[.int .i64 t0.1, .int .i64 t1.1, .int .i64 t2.1, .string (strOfNums t3.1), .int .i64 t4.1.1, .int .i64 t4.1.2, .string (strOfNums t5.1), .int .i64 t6.1.1, .int .i64 t6.1.2.1, .int .i64 t6.1.2.2.1, .bool t6.1.2.2.2.1, .bool t6.1.2.2.2.2, .string (strOfNums t7.1), .slice A8 t8.1.length c8, .slice A9 t9.1.length c9, .slice A10 t10.1.length c10, .string (strOfNums t11.1), .bool b12, .slice none 0 0, .string ⟨#[]⟩, .int .i64 0, .bool false, .slice none 0 0, .slice none 0 0]) [.bool b12] rfl rfl rfl rfl Try.sizeOf4 rfl (Nat.le_of_ble_eq_true rfl) H5_3.out.2.1 (by kernel_rfl)) ?_
  rintro w116 ⟨hX, hg⟩
  have H5_4 := Aside0.mk (H5_3.out.set hX hg)
  clear hX hg H5_3
  refine hK.out _ _ ?_
  clear hK K
  refine dn_ ?_
  clear HT_ HW_
  clear hHeld
  have c0 : w116.cell? ⟨gb, 0, none⟩ = some (.pointer (some ⟨g, 0, none⟩)) := (blk_cell H5_4.out.1.2.1 0).trans rfl
  go_wp2_with fail
  refine (wire_reader_lines.lines _ g _ l0 _ _ H5_4.out.1.1).mono ?_
  rw [HT13.out]
  rintro e w117 ⟨v13, rfl, hr, hO, hg, hl⟩
  obtain ⟨A13, c13, ev_⟩ := Kd.R_slice hO
  subst ev_
  have H6_1 := Aside0.mk (H5_4.out.row4 hr hO hg)
  clear hr hO hg hl c0 H5_4
  have c0 : w117.cell? ⟨gb, 0, none⟩ = some (.pointer (some ⟨g, 0, none⟩)) := (blk_cell H6_1.out.1.2.1 0).trans rfl
  go_wp2_with ((with_reducible refine gate_store (t := 50) (p := 58) (v := .tmp 57) rfl ?_); refine store_ev (F := fun w1 => w1.heap[bx]? = some (.cells #[.int .i64 t0.1, .int .i64 t1.1, .int .i64 t2.1, .string (strOfNums t3.1), .int .i64 t4.1.1, .int .i64 t4.1.2, .string (strOfNums t5.1), .int .i64 t6.1.1, .int .i64 t6.1.2.1, .int .i64 t6.1.2.2.1, .bool t6.1.2.2.2.1, .bool t6.1.2.2.2.2, .string (strOfNums t7.1), .slice A8 t8.1.length c8, .slice A9 t9.1.length c9, .slice A10 t10.1.length c10, .string (strOfNums t11.1), .bool b12, .slice A13 t13.1.1.length c13, .string t13.1.2.1, .int .i64 t13.1.2.2.1, .bool t13.1.2.2.2, .slice none 0 0, .slice none 0 0] 54 (0, 0)) ∧ World.grownBy _ w1 (some bx)) rfl rfl (store_step (cs2 := #[.int .i64 t0.1, .int .i64 t1.1, .int .i64 t2.1, .string (strOfNums t3.1), .int .i64 t4.1.1, .int .i64 t4.1.2, .string (strOfNums t5.1), .int .i64 t6.1.1, .int .i64 t6.1.2.1, .int .i64 t6.1.2.2.1, .bool t6.1.2.2.2.1, .bool t6.1.2.2.2.2, .string (strOfNums t7.1), .slice A8 t8.1.length c8, .slice A9 t9.1.length c9, .slice A10 t10.1.length c10, .string (strOfNums t11.1), .bool b12, .slice A13 t13.1.1.length c13, .string t13.1.2.1, .int .i64 t13.1.2.2.1, .bool t13.1.2.2.2, .slice none 0 0, .slice none 0 0]) [.slice A13 t13.1.1.length c13, .string t13.1.2.1, .int .i64 t13.1.2.2.1, .bool t13.1.2.2.2] rfl rfl rfl rfl Try.sizeOf50 rfl (Nat.le_of_ble_eq_true rfl) H6_1.out.2.1 (by kernel_rfl)) ?_; rintro w118 ⟨hX, hg⟩; have H6_2 := Aside0.mk (H6_1.out.set hX hg); clear hX hg c0 H6_1; have c0 : w118.cell? ⟨gb, 0, none⟩ = some (.pointer (some ⟨g, 0, none⟩)) := (blk_cell H6_2.out.1.2.1 0).trans rfl)
  have HJ : Aside0 (AnJ k87 87 22 w118 g gb bx w118.heap.size #[.int .i64 t0.1, .int .i64 t1.1, .int .i64 t2.1, .string (strOfNums t3.1), .int .i64 t4.1.1, .int .i64 t4.1.2, .string (strOfNums t5.1), .int .i64 t6.1.1, .int .i64 t6.1.2.1, .int .i64 t6.1.2.2.1, .bool t6.1.2.2.2.1, .bool t6.1.2.2.2.2, .string (strOfNums t7.1), .slice A8 t8.1.length c8, .slice A9 t9.1.length c9, .slice A10 t10.1.length c10, .string (strOfNums t11.1), .bool b12, .slice A13 t13.1.1.length c13, .string t13.1.2.1, .int .i64 t13.1.2.2.1, .bool t13.1.2.2.2, .slice none 0 0, .slice none 0 0] 0 w118 []) := ⟨.slice none 0 0, blk_as H6_2.out.2.1 (by kernel_rfl), H6_2.out.1.2.1, Kd.R_nil _ _ _ _ _, ⟨rfl, rfl, rfl, Nat.le_refl _, fun _ _ _ _ => rfl⟩, Nat.le_refl _, Nat.zero_le _⟩
  have HLW : Aside0 (g < gb ∧ g < bx ∧ g < w118.heap.size) := ⟨H6_2.out.1.2.2.2.2.2, H6_2.out.2.2.2, (Rd.Rdr.lt H6_2.out.1.1).2⟩
  refine (an1_many w118 w118 g (rb + 1) gb bx w118.heap.size l0 #[.int .i64 t0.1, .int .i64 t1.1, .int .i64 t2.1, .string (strOfNums t3.1), .int .i64 t4.1.1, .int .i64 t4.1.2, .string (strOfNums t5.1), .int .i64 t6.1.1, .int .i64 t6.1.2.1, .int .i64 t6.1.2.2.1, .bool t6.1.2.2.2.1, .bool t6.1.2.2.2.2, .string (strOfNums t7.1), .slice A8 t8.1.length c8, .slice A9 t9.1.length c9, .slice A10 t10.1.length c10, .string (strOfNums t11.1), .bool b12, .slice A13 t13.1.1.length c13, .string t13.1.2.1, .int .i64 t13.1.2.2.1, .bool t13.1.2.2.2, .slice none 0 0, .slice none 0 0] rfl HLW.out _ _ H6_2.out.1.1 HJ.out).mono ?_
  rw [HT14.out]
  rintro e w119 ⟨rfl, hr, j, hj, v14, hX, hK, hO, hG, hZ, hl⟩
  obtain ⟨A14, c14, ev_⟩ := Kd.R_slice hO
  subst ev_
  have H7_1_ := Aside0.mk (H6_2.out.many5 hr hX hO hG)
  have H7_1 := Aside0.mk (H7_1_.out.as (cs2 := #[.int .i64 t0.1, .int .i64 t1.1, .int .i64 t2.1, .string (strOfNums t3.1), .int .i64 t4.1.1, .int .i64 t4.1.2, .string (strOfNums t5.1), .int .i64 t6.1.1, .int .i64 t6.1.2.1, .int .i64 t6.1.2.2.1, .bool t6.1.2.2.2.1, .bool t6.1.2.2.2.2, .string (strOfNums t7.1), .slice A8 t8.1.length c8, .slice A9 t9.1.length c9, .slice A10 t10.1.length c10, .string (strOfNums t11.1), .bool b12, .slice A13 t13.1.1.length c13, .string t13.1.2.1, .int .i64 t13.1.2.2.1, .bool t13.1.2.2.2, .slice A14 t14.1.length c14, .slice none 0 0]) (by kernel_rfl))
  clear hr hj hX hK hO hG hZ hl c0 HJ HLW H6_2 H7_1_
  have c0 : w119.cell? ⟨gb, 0, none⟩ = some (.pointer (some ⟨g, 0, none⟩)) := (blk_cell H7_1.out.1.2.1 0).trans rfl
  go_wp2_with fail
  have HJ : Aside0 (AnJ k89 89 23 w119 g gb bx w119.heap.size #[.int .i64 t0.1, .int .i64 t1.1, .int .i64 t2.1, .string (strOfNums t3.1), .int .i64 t4.1.1, .int .i64 t4.1.2, .string (strOfNums t5.1), .int .i64 t6.1.1, .int .i64 t6.1.2.1, .int .i64 t6.1.2.2.1, .bool t6.1.2.2.2.1, .bool t6.1.2.2.2.2, .string (strOfNums t7.1), .slice A8 t8.1.length c8, .slice A9 t9.1.length c9, .slice A10 t10.1.length c10, .string (strOfNums t11.1), .bool b12, .slice A13 t13.1.1.length c13, .string t13.1.2.1, .int .i64 t13.1.2.2.1, .bool t13.1.2.2.2, .slice A14 t14.1.length c14, .slice none 0 0] 0 w119 []) := ⟨.slice none 0 0, blk_as H7_1.out.2.1 (by kernel_rfl), H7_1.out.1.2.1, Kd.R_nil _ _ _ _ _, ⟨rfl, rfl, rfl, Nat.le_refl _, fun _ _ _ _ => rfl⟩, Nat.le_refl _, Nat.zero_le _⟩
  have HLW : Aside0 (g < gb ∧ g < bx ∧ g < w119.heap.size) := ⟨H7_1.out.1.2.2.2.2.2, H7_1.out.2.2.2, (Rd.Rdr.lt H7_1.out.1.1).2⟩
  refine (an2_many w119 w119 g (rb + 1) gb bx w119.heap.size l0 #[.int .i64 t0.1, .int .i64 t1.1, .int .i64 t2.1, .string (strOfNums t3.1), .int .i64 t4.1.1, .int .i64 t4.1.2, .string (strOfNums t5.1), .int .i64 t6.1.1, .int .i64 t6.1.2.1, .int .i64 t6.1.2.2.1, .bool t6.1.2.2.2.1, .bool t6.1.2.2.2.2, .string (strOfNums t7.1), .slice A8 t8.1.length c8, .slice A9 t9.1.length c9, .slice A10 t10.1.length c10, .string (strOfNums t11.1), .bool b12, .slice A13 t13.1.1.length c13, .string t13.1.2.1, .int .i64 t13.1.2.2.1, .bool t13.1.2.2.2, .slice A14 t14.1.length c14, .slice none 0 0] rfl HLW.out _ _ H7_1.out.1.1 HJ.out).mono ?_
  rw [HT15.out]
  rintro e w120 ⟨rfl, hr, j, hj, v15, hX, hK, hO, hG, hZ, hl⟩
  obtain ⟨A15, c15, ev_⟩ := Kd.R_slice hO
  subst ev_
  have H8_1_ := Aside0.mk (H7_1.out.many6 hr hX hO hG)
  have H8_1 := Aside0.mk (H8_1_.out.as (cs2 := #[.int .i64 t0.1, .int .i64 t1.1, .int .i64 t2.1, .string (strOfNums t3.1), .int .i64 t4.1.1, .int .i64 t4.1.2, .string (strOfNums t5.1), .int .i64 t6.1.1, .int .i64 t6.1.2.1, .int .i64 t6.1.2.2.1, .bool t6.1.2.2.2.1, .bool t6.1.2.2.2.2, .string (strOfNums t7.1), .slice A8 t8.1.length c8, .slice A9 t9.1.length c9, .slice A10 t10.1.length c10, .string (strOfNums t11.1), .bool b12, .slice A13 t13.1.1.length c13, .string t13.1.2.1, .int .i64 t13.1.2.2.1, .bool t13.1.2.2.2, .slice A14 t14.1.length c14, .slice A15 t15.1.length c15]) (by kernel_rfl))
  clear hr hj hX hK hO hG hZ hl c0 HJ HLW H7_1 H8_1_
  have c0 : w120.cell? ⟨gb, 0, none⟩ = some (.pointer (some ⟨g, 0, none⟩)) := (blk_cell H8_1.out.1.2.1 0).trans rfl
  go_wp2_with ((with_reducible refine gate_dst (N := 66) rfl ?_); refine Kd.event_run rfl (load_step _ Try.isAgg54 Try.sizeOf54 rfl rfl rfl H8_1.out.2.1) ?_)
  refine (wire_Answer.calls k t0.1 t1.1 t2.1 (strOfNums t3.1) t4.1.1 t4.1.2 (strOfNums t5.1) t6.1.1 t6.1.2.1 t6.1.2.2.1 t6.1.2.2.2.1 t6.1.2.2.2.2 (strOfNums t7.1) A8 c8 t8.1 A9 c9 t9.1 A10 c10 t10.1 (strOfNums t11.1) b12 A13 c13 t13.1.1 t13.1.2.1 t13.1.2.2.1 t13.1.2.2.2 A14 c14 t14.1 A15 c15 t15.1 ag ec _ (Kd.R_reads' H8_1.out.2.2.1.1).2.2 (Kd.R_reads' H8_1.out.2.2.1.1).2.1 (Kd.R_reads' H8_1.out.2.2.1.2.1).2.2 (Kd.R_reads' H8_1.out.2.2.1.2.1).2.1 (Kd.R_reads' H8_1.out.2.2.1.2.2.1).2.2 (Kd.R_reads' H8_1.out.2.2.1.2.2.1).2.1 (Kd.R_reads' H8_1.out.2.2.1.2.2.2.1).2.2 (Kd.R_reads' H8_1.out.2.2.1.2.2.2.1).2.1 (Kd.R_reads' H8_1.out.2.2.1.2.2.2.2.1).2.2 (Kd.R_reads' H8_1.out.2.2.1.2.2.2.2.1).2.1 (Kd.R_reads' H8_1.out.2.2.1.2.2.2.2.2).2.2 (Kd.R_reads' H8_1.out.2.2.1.2.2.2.2.2).2.1 HA.out).mono ?_
  rintro e w121 ⟨va, rfl, ha, hb⟩
  have H9 := Aside0.mk (H8_1.out.quiet (grown_of_below hb none))
  have HAG := Aside0.mk ha
  clear ha hb c0 HA H8_1
  have c0 : w121.cell? ⟨gb, 0, none⟩ = some (.pointer (some ⟨g, 0, none⟩)) := (blk_cell H9.out.1.2.1 0).trans rfl
  go_wp2_with fail
  refine (Rd.end_any _ g _ l0 _ _ H9.out.1.1).mono ?_
  rintro e w122 ⟨rfl, hg⟩
  have H10 := Aside0.mk (H9.out.quiet hg)
  have HAG2 := Aside0.mk (Kd.R_grown2 HAG.out rfl hg (fun k_ hk_ => by cases hk_))
  clear hg HAG H9 c0
  obtain ⟨E, hE⟩ : ∃ E, Rd.endF l0 t15.2.1 t15.2.2 = E := ⟨_, rfl⟩
  rw [hE]
  have HEE := Aside0.mk hE
  clear hE
  have hcv1 : (convert 31 9 va).run Try.prog w122 = .ok (.string (strOfNums ag)) w122 := own_string Try.underlying31 Try.underlying5 Try.underlying9 (Kd.own_of_R HAG2.out)
  have hcv2 : (convert 31 9 (.slice A0 l0.length c0_)).run Try.prog w122 = .ok (.string (strOfNums l0)) w122 := Kd.C_string Try.underlying31 Try.underlying5 Try.underlying9 (Kd.C_below HR0.out (by rw [HRB.out]; exact H10.out.1.2.2.2.1))
  by_cases h0 : E = 0
  ·have e0 : (E != 0) = false := by simpa using h0
   have HE0 := Aside0.mk h0
   clear h0
   by_cases h1 : ec = 0
   ·have e1 : (ec != 0) = false := by simpa using h1
    have HC0 := Aside0.mk h1
    clear h1
    by_cases h2 : (strOfNums ag).toList = (strOfNums l0).toList
    ·have e2 : (!((strOfNums ag).toList == (strOfNums l0).toList)) = false := by rw [beq_iff_eq.mpr h2]; rfl
     have HST := Aside0.mk h2
     clear h2
     have HOUT : Aside0 (wire_ReadAnswer.out l0 ((⟨t0.1, t1.1, t2.1, strOfNums t3.1, t4.1.1, t4.1.2, strOfNums t5.1, t6.1.1, t6.1.2.1, t6.1.2.2.1, t6.1.2.2.2.1, t6.1.2.2.2.2, strOfNums t7.1, t8.1, t9.1, t10.1, strOfNums t11.1, b12, t13.1.1, t13.1.2.1, t13.1.2.2.1, t13.1.2.2.2, t14.1, t15.1⟩ : Rp), t15.2) ag ec = ((⟨t0.1, t1.1, t2.1, strOfNums t3.1, t4.1.1, t4.1.2, strOfNums t5.1, t6.1.1, t6.1.2.1, t6.1.2.2.1, t6.1.2.2.2.1, t6.1.2.2.2.2, strOfNums t7.1, t8.1, t9.1, t10.1, strOfNums t11.1, b12, t13.1.1, t13.1.2.1, t13.1.2.2.1, t13.1.2.2.2, t14.1, t15.1⟩ : Rp), 0)) := ⟨by unfold wire_ReadAnswer.out; rw [if_pos ⟨HEE.out.trans HE0.out, HC0.out, HST.out⟩]⟩
     go_wp2_with (first | ((with_reducible refine gate_dst (N := 86) rfl ?_); refine Kd.event_run rfl (load_step _ Try.isAgg54 Try.sizeOf54 rfl rfl rfl H10.out.2.1) ?_) | ((with_reducible refine gate_store (t := 54) (p := 2) (v := .tmp 86) rfl ?_); refine store_ev (F := fun w1 => w1.heap[rb]? = some (.cells #[.int .i64 t0.1, .int .i64 t1.1, .int .i64 t2.1, .string (strOfNums t3.1), .int .i64 t4.1.1, .int .i64 t4.1.2, .string (strOfNums t5.1), .int .i64 t6.1.1, .int .i64 t6.1.2.1, .int .i64 t6.1.2.2.1, .bool t6.1.2.2.2.1, .bool t6.1.2.2.2.2, .string (strOfNums t7.1), .slice A8 t8.1.length c8, .slice A9 t9.1.length c9, .slice A10 t10.1.length c10, .string (strOfNums t11.1), .bool b12, .slice A13 t13.1.1.length c13, .string t13.1.2.1, .int .i64 t13.1.2.2.1, .bool t13.1.2.2.2, .slice A14 t14.1.length c14, .slice A15 t15.1.length c15] 54 (0, 0)) ∧ World.grownBy _ w1 (some rb)) rfl rfl (store_step (cs2 := #[.int .i64 t0.1, .int .i64 t1.1, .int .i64 t2.1, .string (strOfNums t3.1), .int .i64 t4.1.1, .int .i64 t4.1.2, .string (strOfNums t5.1), .int .i64 t6.1.1, .int .i64 t6.1.2.1, .int .i64 t6.1.2.2.1, .bool t6.1.2.2.2.1, .bool t6.1.2.2.2.2, .string (strOfNums t7.1), .slice A8 t8.1.length c8, .slice A9 t9.1.length c9, .slice A10 t10.1.length c10, .string (strOfNums t11.1), .bool b12, .slice A13 t13.1.1.length c13, .string t13.1.2.1, .int .i64 t13.1.2.2.1, .bool t13.1.2.2.2, .slice A14 t14.1.length c14, .slice A15 t15.1.length c15]) [.int .i64 t0.1, .int .i64 t1.1, .int .i64 t2.1, .string (strOfNums t3.1), .int .i64 t4.1.1, .int .i64 t4.1.2, .string (strOfNums t5.1), .int .i64 t6.1.1, .int .i64 t6.1.2.1, .int .i64 t6.1.2.2.1, .bool t6.1.2.2.2.1, .bool t6.1.2.2.2.2, .string (strOfNums t7.1), .slice A8 t8.1.length c8, .slice A9 t9.1.length c9, .slice A10 t10.1.length c10, .string (strOfNums t11.1), .bool b12, .slice A13 t13.1.1.length c13, .string t13.1.2.1, .int .i64 t13.1.2.2.1, .bool t13.1.2.2.2, .slice A14 t14.1.length c14, .slice A15 t15.1.length c15] rfl rfl rfl rfl Try.sizeOf54 rfl (Nat.le_of_ble_eq_true rfl) H10.out.1.2.2.1 (by kernel_rfl)) ?_; rintro w122x ⟨hX, hg⟩; have HZ := Aside0.mk hX; have HFI := Aside0.mk (H10.out.fin hg); clear hX hg H10))
     refine bodyPost_ret (wire_ReadAnswer.res _ _ rb _ 0 rfl rfl rfl HZ.out) rfl ?_
     rw [HOUT.out]
     exact ⟨_, _, _, _, _, _, rfl, by rw [HRB.out]; exact HFI.out.1, by rw [HRB.out]; exact HFI.out.2⟩
    ·have e2 : (!((strOfNums ag).toList == (strOfNums l0).toList)) = true := by rw [beq_eq_false_iff_ne.mpr h2]; rfl
     have HST := Aside0.mk h2
     clear h2
     have HOUT : Aside0 (wire_ReadAnswer.out l0 ((⟨t0.1, t1.1, t2.1, strOfNums t3.1, t4.1.1, t4.1.2, strOfNums t5.1, t6.1.1, t6.1.2.1, t6.1.2.2.1, t6.1.2.2.2.1, t6.1.2.2.2.2, strOfNums t7.1, t8.1, t9.1, t10.1, strOfNums t11.1, b12, t13.1.1, t13.1.2.1, t13.1.2.2.1, t13.1.2.2.2, t14.1, t15.1⟩ : Rp), t15.2) ag ec = (Rp.zero, 4)) := ⟨by unfold wire_ReadAnswer.out; rw [if_neg]; rintro ⟨x1, x2, x3⟩; exact HST.out x3⟩
     go_wp2_with ((with_reducible refine gate_store (t := 54) (p := 2) (v := .tmp 85) rfl ?_); refine store_ev (F := fun w1 => w1.heap[rb]? = some (.cells #[.int .i64 0, .int .i64 0, .int .i64 0, .string ⟨#[]⟩, .int .i64 0, .int .i64 0, .string ⟨#[]⟩, .int .i64 0, .int .i64 0, .int .i64 0, .bool false, .bool false, .string ⟨#[]⟩, .slice none 0 0, .slice none 0 0, .slice none 0 0, .string ⟨#[]⟩, .bool false, .slice none 0 0, .string ⟨#[]⟩, .int .i64 0, .bool false, .slice none 0 0, .slice none 0 0] 54 (0, 0)) ∧ World.grownBy _ w1 (some rb)) rfl rfl (store_step (cs2 := #[.int .i64 0, .int .i64 0, .int .i64 0, .string ⟨#[]⟩, .int .i64 0, .int .i64 0, .string ⟨#[]⟩, .int .i64 0, .int .i64 0, .int .i64 0, .bool false, .bool false, .string ⟨#[]⟩, .slice none 0 0, .slice none 0 0, .slice none 0 0, .string ⟨#[]⟩, .bool false, .slice none 0 0, .string ⟨#[]⟩, .int .i64 0, .bool false, .slice none 0 0, .slice none 0 0]) [.int .i64 0, .int .i64 0, .int .i64 0, .string ⟨#[]⟩, .int .i64 0, .int .i64 0, .string ⟨#[]⟩, .int .i64 0, .int .i64 0, .int .i64 0, .bool false, .bool false, .string ⟨#[]⟩, .slice none 0 0, .slice none 0 0, .slice none 0 0, .string ⟨#[]⟩, .bool false, .slice none 0 0, .string ⟨#[]⟩, .int .i64 0, .bool false, .slice none 0 0, .slice none 0 0] rfl rfl rfl rfl Try.sizeOf54 rfl (Nat.le_of_ble_eq_true rfl) H10.out.1.2.2.1 (by kernel_rfl)) ?_; rintro w122x ⟨hX, hg⟩; have HZ := Aside0.mk hX; have HFI := Aside0.mk (H10.out.fin hg); clear hX hg H10)
     refine bodyPost_ret (wire_ReadAnswer.res _ _ rb _ 4 rfl rfl rfl HZ.out) rfl ?_
     rw [HOUT.out]
     exact ⟨.slice none 0 0, .slice none 0 0, .slice none 0 0, .slice none 0 0, .slice none 0 0, .slice none 0 0, rfl, ⟨Kd.R_nil _ _ _ _ _, Kd.R_nil _ _ _ _ _, Kd.R_nil _ _ _ _ _, Kd.R_nil _ _ _ _ _, Kd.R_nil _ _ _ _ _, Kd.R_nil _ _ _ _ _⟩, by rw [HRB.out]; exact HFI.out.2⟩
   ·have e1 : (ec != 0) = true := by simpa using h1
    have HC0 := Aside0.mk h1
    clear h1
    have HOUT : Aside0 (wire_ReadAnswer.out l0 ((⟨t0.1, t1.1, t2.1, strOfNums t3.1, t4.1.1, t4.1.2, strOfNums t5.1, t6.1.1, t6.1.2.1, t6.1.2.2.1, t6.1.2.2.2.1, t6.1.2.2.2.2, strOfNums t7.1, t8.1, t9.1, t10.1, strOfNums t11.1, b12, t13.1.1, t13.1.2.1, t13.1.2.2.1, t13.1.2.2.2, t14.1, t15.1⟩ : Rp), t15.2) ag ec = (Rp.zero, 4)) := ⟨by unfold wire_ReadAnswer.out; rw [if_neg]; rintro ⟨x1, x2, x3⟩; exact HC0.out x2⟩
    go_wp2_with ((with_reducible refine gate_store (t := 54) (p := 2) (v := .tmp 85) rfl ?_); refine store_ev (F := fun w1 => w1.heap[rb]? = some (.cells #[.int .i64 0, .int .i64 0, .int .i64 0, .string ⟨#[]⟩, .int .i64 0, .int .i64 0, .string ⟨#[]⟩, .int .i64 0, .int .i64 0, .int .i64 0, .bool false, .bool false, .string ⟨#[]⟩, .slice none 0 0, .slice none 0 0, .slice none 0 0, .string ⟨#[]⟩, .bool false, .slice none 0 0, .string ⟨#[]⟩, .int .i64 0, .bool false, .slice none 0 0, .slice none 0 0] 54 (0, 0)) ∧ World.grownBy _ w1 (some rb)) rfl rfl (store_step (cs2 := #[.int .i64 0, .int .i64 0, .int .i64 0, .string ⟨#[]⟩, .int .i64 0, .int .i64 0, .string ⟨#[]⟩, .int .i64 0, .int .i64 0, .int .i64 0, .bool false, .bool false, .string ⟨#[]⟩, .slice none 0 0, .slice none 0 0, .slice none 0 0, .string ⟨#[]⟩, .bool false, .slice none 0 0, .string ⟨#[]⟩, .int .i64 0, .bool false, .slice none 0 0, .slice none 0 0]) [.int .i64 0, .int .i64 0, .int .i64 0, .string ⟨#[]⟩, .int .i64 0, .int .i64 0, .string ⟨#[]⟩, .int .i64 0, .int .i64 0, .int .i64 0, .bool false, .bool false, .string ⟨#[]⟩, .slice none 0 0, .slice none 0 0, .slice none 0 0, .string ⟨#[]⟩, .bool false, .slice none 0 0, .string ⟨#[]⟩, .int .i64 0, .bool false, .slice none 0 0, .slice none 0 0] rfl rfl rfl rfl Try.sizeOf54 rfl (Nat.le_of_ble_eq_true rfl) H10.out.1.2.2.1 (by kernel_rfl)) ?_; rintro w122x ⟨hX, hg⟩; have HZ := Aside0.mk hX; have HFI := Aside0.mk (H10.out.fin hg); clear hX hg H10)
    refine bodyPost_ret (wire_ReadAnswer.res _ _ rb _ 4 rfl rfl rfl HZ.out) rfl ?_
    rw [HOUT.out]
    exact ⟨.slice none 0 0, .slice none 0 0, .slice none 0 0, .slice none 0 0, .slice none 0 0, .slice none 0 0, rfl, ⟨Kd.R_nil _ _ _ _ _, Kd.R_nil _ _ _ _ _, Kd.R_nil _ _ _ _ _, Kd.R_nil _ _ _ _ _, Kd.R_nil _ _ _ _ _, Kd.R_nil _ _ _ _ _⟩, by rw [HRB.out]; exact HFI.out.2⟩
  ·have e0 : (E != 0) = true := by simpa using h0
   have HE0 := Aside0.mk h0
   clear h0
   have HOUT : Aside0 (wire_ReadAnswer.out l0 ((⟨t0.1, t1.1, t2.1, strOfNums t3.1, t4.1.1, t4.1.2, strOfNums t5.1, t6.1.1, t6.1.2.1, t6.1.2.2.1, t6.1.2.2.2.1, t6.1.2.2.2.2, strOfNums t7.1, t8.1, t9.1, t10.1, strOfNums t11.1, b12, t13.1.1, t13.1.2.1, t13.1.2.2.1, t13.1.2.2.2, t14.1, t15.1⟩ : Rp), t15.2) ag ec = (Rp.zero, 4)) := ⟨by unfold wire_ReadAnswer.out; rw [if_neg]; rintro ⟨x1, x2, x3⟩; exact HE0.out (HEE.out.symm.trans x1)⟩
   go_wp2_with ((with_reducible refine gate_store (t := 54) (p := 2) (v := .tmp 85) rfl ?_); refine store_ev (F := fun w1 => w1.heap[rb]? = some (.cells #[.int .i64 0, .int .i64 0, .int .i64 0, .string ⟨#[]⟩, .int .i64 0, .int .i64 0, .string ⟨#[]⟩, .int .i64 0, .int .i64 0, .int .i64 0, .bool false, .bool false, .string ⟨#[]⟩, .slice none 0 0, .slice none 0 0, .slice none 0 0, .string ⟨#[]⟩, .bool false, .slice none 0 0, .string ⟨#[]⟩, .int .i64 0, .bool false, .slice none 0 0, .slice none 0 0] 54 (0, 0)) ∧ World.grownBy _ w1 (some rb)) rfl rfl (store_step (cs2 := #[.int .i64 0, .int .i64 0, .int .i64 0, .string ⟨#[]⟩, .int .i64 0, .int .i64 0, .string ⟨#[]⟩, .int .i64 0, .int .i64 0, .int .i64 0, .bool false, .bool false, .string ⟨#[]⟩, .slice none 0 0, .slice none 0 0, .slice none 0 0, .string ⟨#[]⟩, .bool false, .slice none 0 0, .string ⟨#[]⟩, .int .i64 0, .bool false, .slice none 0 0, .slice none 0 0]) [.int .i64 0, .int .i64 0, .int .i64 0, .string ⟨#[]⟩, .int .i64 0, .int .i64 0, .string ⟨#[]⟩, .int .i64 0, .int .i64 0, .int .i64 0, .bool false, .bool false, .string ⟨#[]⟩, .slice none 0 0, .slice none 0 0, .slice none 0 0, .string ⟨#[]⟩, .bool false, .slice none 0 0, .string ⟨#[]⟩, .int .i64 0, .bool false, .slice none 0 0, .slice none 0 0] rfl rfl rfl rfl Try.sizeOf54 rfl (Nat.le_of_ble_eq_true rfl) H10.out.1.2.2.1 (by kernel_rfl)) ?_; rintro w122x ⟨hX, hg⟩; have HZ := Aside0.mk hX; have HFI := Aside0.mk (H10.out.fin hg); clear hX hg H10)
   refine bodyPost_ret (wire_ReadAnswer.res _ _ rb _ 4 rfl rfl rfl HZ.out) rfl ?_
   rw [HOUT.out]
   exact ⟨.slice none 0 0, .slice none 0 0, .slice none 0 0, .slice none 0 0, .slice none 0 0, .slice none 0 0, rfl, ⟨Kd.R_nil _ _ _ _ _, Kd.R_nil _ _ _ _ _, Kd.R_nil _ _ _ _ _, Kd.R_nil _ _ _ _ _, Kd.R_nil _ _ _ _ _, Kd.R_nil _ _ _ _ _⟩, by rw [HRB.out]; exact HFI.out.2⟩
def wire_ReadAnswer.tup (r : Rp × Int) : Int × Int × Int × ByteArray × Int × Int × ByteArray × Int × Int × Int × Bool × Bool × ByteArray × List ByteArray × List ByteArray × List ByteArray × ByteArray × Bool × List S123 × ByteArray × Int × Bool × List S87 × List S89 × Int := (r.1.er, r.1.id, r.1.tm, r.1.tx, r.1.re, r.1.im, r.1.ve, r.1.sz, r.1.hr, r.1.hi, r.1.go, r.1.nu, r.1.bo, r.1.na, r.1.ln, r.1.lp, r.1.nx, r.1.mo, r.1.ll, r.1.lo, r.1.li, r.1.lm, r.1.up, r.1.pa, r.2)
def wire_ReadAnswer.f (k : Nat) (l0 : List Int) : Option (Int × Int × Int × ByteArray × Int × Int × ByteArray × Int × Int × Int × Bool × Bool × ByteArray × List ByteArray × List ByteArray × List ByteArray × ByteArray × Bool × List S123 × ByteArray × Int × Bool × List S87 × List S89 × Int) :=
 if l0.length ≤ 140737488351232 ∧ (l0.all fun x => decide (0 ≤ x ∧ x ≤ 255)) = true then
  (wire_Answer.f k (ansF l0).1.er (ansF l0).1.id (ansF l0).1.tm (ansF l0).1.tx (ansF l0).1.re (ansF l0).1.im (ansF l0).1.ve (ansF l0).1.sz (ansF l0).1.hr (ansF l0).1.hi (ansF l0).1.go (ansF l0).1.nu (ansF l0).1.bo (ansF l0).1.na (ansF l0).1.ln (ansF l0).1.lp (ansF l0).1.nx (ansF l0).1.mo (ansF l0).1.ll (ansF l0).1.lo (ansF l0).1.li (ansF l0).1.lm (ansF l0).1.up (ansF l0).1.pa).bind fun a => some (wire_ReadAnswer.tup (wire_ReadAnswer.out l0 (ansF l0) a.1 a.2))
 else none
theorem wire_ReadAnswer.calls (k : Nat) (A0 : Option Addr) (c0 : Nat) (l0 : List Int) (r0 : Int) (r1 : Int) (r2 : Int) (r3 : ByteArray) (r4 : Int) (r5 : Int) (r6 : ByteArray) (r7 : Int) (r8 : Int) (r9 : Int) (r10 : Bool) (r11 : Bool) (r12 : ByteArray) (r13 : List ByteArray) (r14 : List ByteArray) (r15 : List ByteArray) (r16 : ByteArray) (r17 : Bool) (r18 : List S123) (r19 : ByteArray) (r20 : Int) (r21 : Bool) (r22 : List S87) (r23 : List S89) (r24 : Int) (w : World) (hr0 : Kd.C (Kd.int .u8) w A0 l0.length l0) (hc0 : l0.length ≤ c0) (h : wire_ReadAnswer.f k l0 = some (r0, r1, r2, r3, r4, r5, r6, r7, r8, r9, r10, r11, r12, r13, r14, r15, r16, r17, r18, r19, r20, r21, r22, r23, r24)) :
  Calls Try.prog 15 #[.slice A0 l0.length c0] w fun e w' => ∃ v0_ v1_ v2_ v3_ v4_ v5_ : Value, e = .returned (.tuple #[.agg #[.int .i64 r0, .int .i64 r1, .int .i64 r2, .string r3, .int .i64 r4, .int .i64 r5, .string r6, .int .i64 r7, .int .i64 r8, .int .i64 r9, .bool r10, .bool r11, .string r12, v0_, v1_, v2_, .string r16, .bool r17, v3_, .string r19, .int .i64 r20, .bool r21, v4_, v5_], .int .i64 r24]) ∧ Kd.R Kd.string 9 w' w.heap.size (fun _ => True) v0_ r13 ∧ Kd.R Kd.string 9 w' w.heap.size (fun _ => True) v1_ r14 ∧ Kd.R Kd.string 9 w' w.heap.size (fun _ => True) v2_ r15 ∧ Kd.R k123 123 w' w.heap.size (fun _ => True) v3_ r18 ∧ Kd.R k87 87 w' w.heap.size (fun _ => True) v4_ r22 ∧ Kd.R k89 89 w' w.heap.size (fun _ => True) v5_ r23 ∧ Below w.heap.size w w' := by
 unfold wire_ReadAnswer.f at h
 by_cases hg : l0.length ≤ 140737488351232 ∧ (l0.all fun x => decide (0 ≤ x ∧ x ≤ 255)) = true
 ·rw [if_pos hg] at h
  obtain ⟨⟨ag, ec⟩, ha, h⟩ := Option.bind_eq_some_iff.mp h
  have hby : ∀ x ∈ l0, 0 ≤ x ∧ x ≤ 255 := fun x hx => by
   have h1 := List.all_eq_true.mp hg.2 x hx
   exact of_decide_eq_true h1
  obtain ⟨⟨r, p, err⟩, hfin⟩ : ∃ fin, ansF l0 = fin := ⟨_, rfl⟩
  rw [hfin] at ha h
  refine (wire_ReadAnswer.walk A0 c0 l0 w hr0 hg.1 hby k r p err hfin ag ec ha).mono ?_
  have h := Option.some.inj h
  dsimp only at h
  generalize wire_ReadAnswer.out l0 (r, p, err) ag ec = o at h
  rintro e w' ⟨v1, v2, v3, v4, v5, v6, rfl, ⟨h1, h2, h3, h4, h5, h6⟩, hb⟩
  unfold wire_ReadAnswer.tup at h
  simp only [Prod.mk.injEq] at h
  obtain ⟨rfl, rfl, rfl, rfl, rfl, rfl, rfl, rfl, rfl, rfl, rfl, rfl, rfl, rfl, rfl, rfl, rfl, rfl, rfl, rfl, rfl, rfl, rfl, rfl, rfl⟩ := h
  exact ⟨v1, v2, v3, v4, v5, v6, rfl, h1, h2, h3, h4, h5, h6, hb⟩
 ·rw [if_neg hg] at h
  cases h
end Go.Proofs.Ytmdgdndidfcapaa.QB
