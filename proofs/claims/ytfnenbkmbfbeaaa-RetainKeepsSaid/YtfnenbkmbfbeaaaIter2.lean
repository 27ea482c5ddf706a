/- retain.rows hands back a value that 'SeqStopsK'; what the body of Keep's loop does to the row that it gathers. -/
import Derived.Test.YtfnenbkmbfbeaaaIter
import Derived.Maps.AppendAt
import Derived.RangeFuncNested
namespace Go.Proofs.Ytfnenbkmbfbeaaa.Iter
open Go.RowKit Go.Shelf
set_option linter.unusedVariables false
def Kp (n₀ Bs Be : Nat) (X Y : World) : Prop := Below n₀ X Y ∧ Y.heap[Bs]? = X.heap[Bs]? ∧ Y.heap[Be]? = X.heap[Be]?
theorem Kp.t {n₀ Bs Be : Nat} {A B C : World} (h : Kp n₀ Bs Be A B) (k : Kp n₀ Bs Be B C) : Kp n₀ Bs Be A C := ⟨h.1.trans k.1, k.2.1.trans h.2.1, k.2.2.trans h.2.2⟩
theorem Kp.b {n₀ Bs Be : Nat} {w : World} (hn : n₀ ≤ w.heap.size) (hs : Bs < w.heap.size) (he : Be < w.heap.size) (W : World) (l : Nat) (o o' : Obj) (hl : w.heap.size ≤ l) (h : W.heap[l]? = some o) (hc : o.isCells = false) (hw : o.isWalk = false) : Kp n₀ Bs Be W (W.putObj l o') :=
  ⟨belowK_b hn W l o o' hl h hc hw, World.putObj_heap_other (by omega), World.putObj_heap_other (by omega)⟩
theorem rows_stops (n : Nat) (hn : 1 ≤ n) (Bs Be n₀ : Nat) (A : Option Addr) (cap : Nat) (zs : List Int) (e : Int) (he : 1 ≤ e) (he2 : e ≤ 1152921504606846976) (hlen : zs.length ≤ 4611686018427387903) (w : World) (hBs : Boxed w Bs 22 (.slice A zs.length cap)) (hBe : Boxed w Be 3 (.int .i64 e))
    (hA : 0 < zs.length → ∃ ad, A = some ad ∧ ad.block < n₀ ∧ ∀ j, j < zs.length → w.cell? (ad.add j) = some (.int .i64 (zd zs j))) :
    SeqStopsK Fence.wide n Try.prog 28 #[.pointer (some ⟨Bs, 0, none⟩), .pointer (some ⟨Be, 0, none⟩)] (fun x : Int => #[Value.int .i64 x]) (Kp n₀ Bs Be) (fun ys => ys = down zs e zs.length) (fun pre => pre <+: down zs e zs.length) zs.length w := by
  intro l J Jx W hW hJ hJx hY h0
  have blk : ∀ {X Y : World} {p : Addr}, Y.heap[p.block]? = X.heap[p.block]? → Y.cell? p = X.cell? p := fun h => World.cell?_of_block h
  refine rows1_in n hn l Bs Be n₀ A cap zs e he he2 hlen J Jx (Kp n₀ Bs Be) ?_ ?_ hY W ?_ ?_ ?_ h0
  · intro pre X m h
    exact hJ pre X _ none h ⟨rfl, rfl, rfl, Nat.le_refl _, fun _ _ _ => rfl⟩ (fun r e => by cases e)
  · intro X Y h
    refine ⟨fun hc => (blk (p := ⟨Bs, 0, none⟩) h.2.1).trans hc, fun hc => (blk (p := ⟨Be, 0, none⟩) h.2.2).trans hc, fun ad hA1 j hj hc => ?_⟩
    obtain ⟨ad', hA2, hb, _⟩ := hA (by omega)
    rw [hA1] at hA2
    cases hA2
    exact (h.1.cell (p := ad.add j) (by unfold Addr.add; split <;> exact hb)).trans hc
  · exact (hW.cell (p := ⟨Bs, 0, none⟩) hBs.lt).trans hBs.cell
  · exact (hW.cell (p := ⟨Be, 0, none⟩) hBe.lt).trans hBe.cell
  · intro h
    obtain ⟨ad, rfl, hb, hc⟩ := hA h
    exact ⟨ad, rfl, fun j hj => (hW.cell (p := ad.add j) (World.block_lt_of_cell? w _ (hc j hj))).trans (hc j hj)⟩
theorem lower {w : World} {a b e size n : Nat} {v : Value} {xs : List Value} (h : w.ownsRow b e size v n xs) (hab : a ≤ b) : w.ownsRow a e size v n xs := by
  refine ⟨h.1, h.2.imp id ?_⟩
  rintro ⟨g, cap, cur, h1, h2, h3⟩
  exact ⟨g, cap, cur, h1, by omega, h3⟩
/-- 'kept = append(kept, x)' where the row lies at or beyond n1, and the box B before it. -/
theorem gathered {W w1 : World} {n₀ n1 B : Nat} {size : Nat} {v v' : Value} {k m : Nat} {xs ys : List Value} {tmp : Obj}
    (hv : Boxed W B 22 v) (hrow : W.ownsRow n1 3 size v k xs) (h01 : n₀ ≤ n1) (hn1 : n1 ≤ W.heap.size) (hB : n₀ ≤ B) (hB1 : B < n1)
    (hown' : w1.ownsRow n1 3 size v' m ys) (hgrow : (W.alloc tmp).grownBy w1 v.ownBlock) :
    Boxed w1 B 22 v ∧ Boxed (w1.setCell ⟨B, 0, none⟩ v') B 22 v' ∧ (w1.setCell ⟨B, 0, none⟩ v').ownsRow n1 3 size v' m ys ∧ KeepsOthers W (w1.setCell ⟨B, 0, none⟩ v') ∧ Below n₀ W (w1.setCell ⟨B, 0, none⟩ v') ∧
    ∀ q, q < n1 → q ≠ B → (w1.setCell ⟨B, 0, none⟩ v').heap[q]? = W.heap[q]? := by
  obtain ⟨a1, a2, a3, a4, a5⟩ := hv.appended (by decide) (lower hrow h01) (by omega) hB (lower hown' h01) hgrow
  have hne : ∀ {U : World} {u : Value} {j : Nat} {zs : List Value}, U.ownsRow n1 3 size u j zs → ∀ q, q < n1 → some q ≠ u.ownBlock := by
    intro U u j zs hr q hq
    rcases hr.2 with ⟨rfl, _⟩ | ⟨g, cap, cur, rfl, hg, _⟩
    · simp [Value.ownBlock]
    · intro e'
      obtain rfl : q = g := by simpa [Value.ownBlock] using e'
      omega
  refine ⟨a1, a2, ?_, a4, a5, fun q hq hqB => ?_⟩
  · exact hown'.kept (grownBy_setCell' w1 B v') (.inr (hne hown' B hB1).symm)
  · rw [Below.heap_setCell _ _ _ q (fun e => hqB e), hgrow.block q (by simp; omega) (hne hrow q hq)]
    exact Below.heap_alloc W _ q (by omega)
theorem cells_own {β : Type} (q : Nat) (c : Array Value) (t : TypeId) (m : Nat × Nat) : Own (fun (_ : β) W => W.heap[q]? = some (.cells c t m)) := by
  intro s X Y row h hg hr
  refine (hg.block q (Array.getElem?_eq_some_iff.1 h).1 (fun e => ?_)).trans h
  obtain ⟨o, ho, hc⟩ := hr q e.symm
  rw [h] at ho; cases ho; cases hc
theorem size_own {β : Type} (m : Nat) : Own (fun (_ : β) W => m ≤ W.heap.size) := fun _ _ _ _ h hg _ => Nat.le_trans h hg.size
end Go.Proofs.Ytfnenbkmbfbeaaa.Iter
