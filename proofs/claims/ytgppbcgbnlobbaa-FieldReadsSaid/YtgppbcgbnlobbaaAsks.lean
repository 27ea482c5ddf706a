/- A slice of structs of two whole numbers that came in: its cells. -/
import Derived.Test.YtgppbcgbnlobbaaProg
import Derived.Deep.Slices
import Derived.Deep.Fields
import Derived.ChangeSame
import Derived.KernelRfl
namespace Go.Proofs.Ytgppbcgbnlobbaa.Asks
open Go.ChangeShapes Go.WideShapes Go.Deep
section
variable {H : Type} {enc : TypeId × Value → H} {P : Program} {w : World} {base : Nat} {spare : Nat → Bool} {held : Bool}
theorem open_slice_fields {t e : TypeId} {fs : Array Field} {fuel : Nat} {cs : List Value} {x : DataW H × List MemPlace} (ht : P.underlying t = some (.slice e)) (he : P.underlying e = some (.struct fs))
    (hone : oneCellFields P fs = true) (hC : P.cellsOf e = fs.size) (h : DataW.trod enc P w base spare held fuel t cs = some x) :
    (cs = [.slice none 0 0] ∧ x = (.nil, [])) ∨
    ∃ (a : Addr) (len cap m : Nat) (D : Nat → DataW H), cs = [.slice (some a) len cap] ∧ len ≤ cap ∧ cap ≤ maxLen ∧ m = (if spare a.block then cap else len) ∧
      x.1 = (.slice ((List.range len).map D) ((List.range (m - len)).map fun j => D (len + j))) ∧
      ∀ i, i < m → ∃ (ys : List (DataW H × List MemPlace)) (n : Nat), D i = .agg (ys.map (·.1)) ∧ ys.length = fs.size ∧
        ∀ (j : Nat) (f : Field), fs[j]? = some f → ∃ (v : Value) (y : DataW H × List MemPlace), w.cell? (a.add (i * fs.size + j)) = some v ∧ ys[j]? = some y ∧ DataW.trod enc P w base spare held n f.type [v] = some y := by
  rcases open_slice ht h with h0 | ⟨a, len, cap, m, n, D, Pl, hcs, hb, hl, hm, hmm, hx, hi⟩
  · exact .inl h0
  · refine .inr ⟨a, len, cap, m, D, hcs, hl, hm, hmm, by rw [hx], fun i him => ?_⟩
    obtain ⟨cs', hc, ht'⟩ := hi i him
    rw [hC] at hc
    obtain ⟨ys, n', hn', hy, hlen, hyl, hf⟩ := DataW.trod_struct he ht'
    obtain ⟨_, hcl, hat⟩ := World.cells?_some hc
    simp only [Prod.mk.injEq] at hy
    refine ⟨ys, n', hy.1, hyl, fun j f hj => ?_⟩
    obtain ⟨ho, hk⟩ := hone_of hone j f hj
    have hjl : j < fs.size := (Array.getElem?_eq_some_iff.1 hj).1
    have hcell := hat j hjl
    have hv : cs'[j]? = some (cs'[j]'(by omega)) := List.getElem?_eq_getElem (by omega)
    have h1 := hf j f hj
    rw [ho, hk] at h1
    have hone' : (cs'.drop j).take 1 = [cs'[j]'(by omega)] := by
      rw [List.drop_eq_getElem_cons (by omega)]
      rfl
    rw [hone'] at h1
    have hys : ys[j]? = some (ys[j]'(by omega)) := List.getElem?_eq_getElem (by omega)
    refine ⟨_, _, ?_, hys, h1.trans hys⟩
    rw [← Go.Deep.add_add, hcell, hv]
/-- Two whole numbers a struct: their cells, element by element. -/
theorem pairs {t e : TypeId} {f0 f1 : Field} {a : Option Addr} {len cap : Nat} {d : DataW H} {ps : List MemPlace} (ht : P.underlying t = some (.slice e)) (he : P.underlying e = some (.struct #[f0, f1])) (h0 : P.underlying f0.type = some (.int .i64)) (h1 : P.underlying f1.type = some (.int .i64))
    (hone : oneCellFields P #[f0, f1] = true) (hC : P.cellsOf e = 2) (h : DataW.Trod enc P w base spare held t (.slice a len cap) d ps) :
    len ≤ 9223372036854775807 ∧ ∃ K M : Nat → Int, ∀ j, j < len → ∃ x, a = some x ∧ w.cell? (x.add (j * 2)) = some (.int .i64 (K j)) ∧ w.cell? (x.add (j * 2 + 1)) = some (.int .i64 (M j)) := by
  obtain ⟨fuel, hf⟩ := h
  rcases open_slice_fields ht he hone hC hf with ⟨hcs, _⟩ | ⟨x, l, c, m, D, hcs, hl, hm, hmm, hx, hi⟩
  · simp [Value.cells] at hcs
    exact ⟨by omega, fun _ => 0, fun _ => 0, fun j hj => by omega⟩
  · simp [Value.cells] at hcs
    obtain ⟨rfl, rfl, rfl⟩ := hcs
    have hlm : len ≤ m := by
      rw [hmm]
      split
      · exact hl
      · exact Nat.le_refl _
    have each : ∀ j, ∃ k q : Int, j < len → w.cell? (x.add (j * 2)) = some (.int .i64 k) ∧ w.cell? (x.add (j * 2 + 1)) = some (.int .i64 q) := by
      intro j
      by_cases hj : j < len
      · obtain ⟨ys, n, _, _, hg⟩ := hi j (by omega)
        obtain ⟨v0, y0, hc0, _, t0⟩ := hg 0 f0 rfl
        obtain ⟨v1, y1, hc1, _, t1⟩ := hg 1 f1 rfl
        obtain ⟨k, e0, _⟩ := DataW.trod_int h0 t0
        obtain ⟨q, e1, _⟩ := DataW.trod_int h1 t1
        refine ⟨k, q, fun _ => ⟨?_, ?_⟩⟩
        · simp at e0
          subst e0
          simpa using hc0
        · simp at e1
          subst e1
          simpa using hc1
      · exact ⟨0, 0, fun h => absurd h hj⟩
    have hmx : len ≤ 9223372036854775807 := by unfold maxLen at hm; omega
    refine ⟨hmx, fun j => Classical.choose (each j), fun j => Classical.choose (Classical.choose_spec (each j)), fun j hj => ⟨x, rfl, ?_⟩⟩
    exact Classical.choose_spec (Classical.choose_spec (each j)) hj
end
end Go.Proofs.Ytgppbcgbnlobbaa.Asks
