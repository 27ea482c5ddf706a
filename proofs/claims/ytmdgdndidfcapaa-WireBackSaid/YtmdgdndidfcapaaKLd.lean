import Derived.Test.YtmdgdndidfcapaaProg
import Derived.Test.YtmdgdndidfcapaaKWWords
import Derived.Laws.Cells
import Derived.Lib.OthersKept
namespace Go.Proofs.Ytmdgdndidfcapaa
open Go.RowKit Go.Proofs.YtmdgdndidfcapaaW.PrintWords
theorem load_all {P : Program} (W : World) (g n t : Nat) (cs : List Value) (hl : cs.length = n) (h : W.heap[g]? = some (.cells cs.toArray t (0, 0))) :
  Sem.run P (loadCellsFrom ⟨g, 0, none⟩ 0 n #[]) W = .ok cs.toArray W := by
 have := run_loadCells_list (P := P) (w := W) ⟨g, 0, none⟩ cs (fun i v hi => by
  rw [Addr.add_lit, Nat.zero_add]
  have := blk_cell h i
  rw [this]
  simpa using hi)
 rw [hl] at this
 simpa [loadCells] using this
theorem loadAt_all {P : Program} (W : World) (g n t : Nat) (cs : List Value) (ha : ∀ w, (isAgg t).run P w = .ok true w) (hz : ∀ w, (Go.sizeOf t).run P w = .ok n w) (hl : cs.length = n) (h : W.heap[g]? = some (.cells cs.toArray t (0, 0))) :
  (Instr.loadAt t (.pointer (some ⟨g, 0, none⟩))).run P W = .ok (.agg cs.toArray) W := by
 have := load_all (P := P) W g n t cs hl h
 simp only [Instr.loadAt, Instr.sureAddr, Sem.run_bind, Sem.run_pure, Result.andThen, loadVar, ha, hz, loadCells, this, if_true]
theorem load_step {P : Program} {W : World} {a : Act} {o : Oper} {x : Operand} {g n t : Nat} (cs : List Value) (ha : ∀ w, (isAgg t).run P w = .ok true w) (hz : ∀ w, (Go.sizeOf t).run P w = .ok n w) (ho : o.op = .load t x) (hx : a.eval x = .pointer (some ⟨g, 0, none⟩)) (hl : cs.length = n) (h : W.heap[g]? = some (.cells cs.toArray t (0, 0))) :
  (execOp a.eval o).run P W = .ok (.value (.agg cs.toArray)) W := by
 unfold execOp
 rw [ho]
 simp only [hx]
 rw [Sem.run_bind, loadAt_all W g n t cs ha hz hl h]
 rfl
end Go.Proofs.Ytmdgdndidfcapaa
