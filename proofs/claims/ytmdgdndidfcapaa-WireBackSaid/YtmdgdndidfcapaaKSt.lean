import Derived.Test.YtmdgdndidfcapaaProg
import Derived.Test.YtmdgdndidfcapaaKWWords
import Derived.Test.YtmdgdndidfcapaaKWLast
import Derived.Laws.Cells
import Derived.Lib.OthersKept
namespace Go.Proofs.Ytmdgdndidfcapaa
open Go.RowKit Go.Proofs.YtmdgdndidfcapaaW.PrintWords Go.Proofs.YtmdgdndidfcapaaW.PrintLast
/-- The cells with some of them written anew, from one on. -/
def setL (cs : Array Value) (o : Nat) : List Value → Array Value
 | [] => cs
 | v :: r => setL (cs.setIfInBounds o v) (o + 1) r
theorem setL_heap (g t : Nat) : ∀ (vs : List Value) (o : Nat) (w : World) (cs : Array Value), w.heap[g]? = some (.cells cs t (0, 0)) → (w.setCells g o vs).heap[g]? = some (.cells (setL cs o vs) t (0, 0))
 | [], _, _, _, h => h
 | v :: r, o, w, cs, h => by
  rw [World.setCells, setL]
  exact setL_heap g t r (o + 1) _ _ (blk_set h o v)
theorem setCells_grown (g : Nat) : ∀ (vs : List Value) (o : Nat) (w : World), w.grownBy (w.setCells g o vs) (some g)
 | [], _, w => ⟨rfl, rfl, rfl, Nat.le_refl _, fun _ _ _ => rfl⟩
 | v :: r, o, w => by
  have h := setCells_grown g r (o + 1) (w.setCell ⟨g, o, none⟩ v)
  rw [World.setCells]
  exact ⟨h.os, h.tape, h.output, Nat.le_trans (by simp [World.setCell]) h.size, fun i hi hn => (h.block i (by simpa [World.setCell] using hi) hn).trans (Below.heap_setCell w ⟨g, o, none⟩ v i (fun e => hn (by rw [e])))⟩
theorem storeAt_all {P : Program} (W : World) (g o t T : Nat) (cs : Array Value) (v : Value) (vs : List Value) (hv : v.cells = vs.toArray) (hz : ∀ w, (Go.sizeOf T).run P w = .ok vs.length w) (h1 : vs.all (·.oneCell') = true) (hl : o + vs.length ≤ cs.size) (h : W.heap[g]? = some (.cells cs t (0, 0))) :
  (Instr.storeAt T (.pointer (some ⟨g, o, none⟩)) v).run P W = .ok () (W.setCells g o vs) := by
 have hst := run_storeCells_cells (P := P) g o vs 0 W (fun j hj => by rw [blk_cell h]; simp; omega) (fun j _ => blk_frozen h _) (fun u hu => List.all_eq_true.mp h1 u hu)
 rw [Nat.add_zero] at hst
 simp only [Instr.storeAt, Instr.sureAddr, Sem.run_bind, Sem.run_pure, Result.andThen, storeVar, hz, hv]
 simp [hst]
theorem store_step {P : Program} {W : World} {a : Act} {o : Oper} {x y : Operand} {g off t T : Nat} {cs cs2 : Array Value} {v : Value} (vs : List Value) (ho : o.op = .store T x y) (hx : a.eval x = .pointer (some ⟨g, off, none⟩)) (hy : a.eval y = v) (hv : v.cells = vs.toArray) (hz : ∀ w, (Go.sizeOf T).run P w = .ok vs.length w) (h1 : vs.all (·.oneCell') = true) (hl : off + vs.length ≤ cs.size) (h : W.heap[g]? = some (.cells cs t (0, 0))) (hc : setL cs off vs = cs2) :
  ∃ w1, (execOp a.eval o).run P W = .ok .skip w1 ∧ w1.heap[g]? = some (.cells cs2 t (0, 0)) ∧ W.grownBy w1 (some g) := by
 refine ⟨W.setCells g off vs, ?_, hc ▸ setL_heap g t vs off W cs h, setCells_grown g vs off W⟩
 unfold execOp
 rw [ho]
 simp only [hx, hy]
 rw [Sem.run_bind, storeAt_all W g off t T cs v vs hv hz h1 hl h]
 rfl
/-- An operation that only changes the world, as one step of a region that draws its order. -/
theorem skip_store {P : Program} {ops : Array Oper} {Q : Exit → Act → World → Prop} {oi : Oper} {a : Act} {w : World} {K : Act → World → Prop} {F : World → Prop} (hw : Region.wanted oi (yielded ops a.tmps) = true) (hN : oi.dst = none) (hrun : ∃ w1, (execOp a.eval oi).run P w = .ok .skip w1 ∧ F w1)
  (h : ∀ w1, F w1 → K a w1) : if Region.wanted oi (yielded ops a.tmps) = true then Oper.wp P oi a w K Q else K (a.put none undef) w := by
 obtain ⟨w1, hr, hF⟩ := hrun
 exact skip_ hw hN hr (h w1 hF)
/-- And as one step of a walk. -/
theorem store_ev {P : Program} {ops : Array Oper} {rest : List Oper} {o : Oper} {a : Act} {Q : Exit → Act → World → Prop} {W : World} {F : World → Prop} (hgd : o.guard = none) (hN : o.dst = none) (hrun : ∃ w1, (execOp a.eval o).run P W = .ok .skip w1 ∧ F w1)
  (h : ∀ w1, F w1 → wpList P ops Q rest a w1) : wpList P ops Q (o :: rest) a W := by
 obtain ⟨w1, hr, hF⟩ := hrun
 refine wpList_plain hgd fun K hK => ?_
 unfold Oper.wp
 rw [hr]
 show K (a.put o.dst undef) w1
 rw [hN]
 exact hK _ _ (h _ hF)
end Go.Proofs.Ytmdgdndidfcapaa
