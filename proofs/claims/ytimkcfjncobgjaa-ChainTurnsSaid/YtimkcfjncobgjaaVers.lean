/- A slice of versions that came in, and one version: their cells. -/
import Derived.Test.YtimkcfjncobgjaaQCx0
import Derived.Deep.Slices
import Derived.Deep.Fields
import Derived.Deep.Strs
import Derived.ChangeSame
import Derived.KernelRfl
namespace Go.Proofs.Ytimkcfjncobgjaa.Vers
open Go.ChangeShapes Go.WideShapes Go.Deep Go.RowKit Go.Proofs.Ytimkcfjncobgjaa.QC Go.Proofs.YtimkcfjncobgjaaW.PrintWords
set_option linter.unusedVariables false
section
variable {H : Type} {enc : TypeId × Value → H} {P : Program} {w : World} {base : Nat} {spare : Nat → Bool} {held : Bool}
theorem open_slice_fields {t e : TypeId} {fs : Array Field} {fuel : Nat} {cs : List Value} {x : DataW H × List MemPlace} (ht : P.underlying t = some (.slice e)) (he : P.underlying e = some (.struct fs))
    (hone : oneCellFields P fs = true) (hC : P.cellsOf e = fs.size) (h : DataW.trod enc P w base spare held fuel t cs = some x) :
    (cs = [.slice none 0 0] ∧ x = (.nil, [])) ∨
    ∃ (a : Addr) (len cap m : Nat) (D : Nat → DataW H), cs = [.slice (some a) len cap] ∧ len ≤ cap ∧ cap ≤ maxLen ∧ m = (if spare a.block then cap else len) ∧
      x.1 = (.slice ((List.range len).map D) ((List.range (m - len)).map fun j => D (len + j))) ∧
      ∀ i, i < m → ∃ (ys : List (DataW H × List MemPlace)) (n : Nat), D i = .agg (ys.map (·.1)) ∧ ys.length = fs.size ∧
        ∀ (j : Nat) (f : Field), fs[j]? = some f → ∃ (v : Value) (y : DataW H × List MemPlace), w.cell? (a.add (i * fs.size + j)) = some v ∧ ys[j]? = some y ∧ DataW.trod enc P w base spare held n f.type [v] = some y := by
  rcases open_slice ht h with h0 | ⟨a, len, cap, m, n, D, Pl, hcs, hb, hl, hm, hmm, hx, hi⟩
  · exact .inl h0
  · refine .inr ⟨a, len, cap, m, D, hcs, hl, hm, hmm, by rw [hx], fun i him => ?_⟩
    obtain ⟨cs', hc, ht'⟩ := hi i him
    rw [hC] at hc
    obtain ⟨ys, n', hn', hy, hlen, hyl, hf⟩ := DataW.trod_struct he ht'
    obtain ⟨_, hcl, hat⟩ := World.cells?_some hc
    simp only [Prod.mk.injEq] at hy
    refine ⟨ys, n', hy.1, hyl, fun j f hj => ?_⟩
    obtain ⟨ho, hk⟩ := hone_of hone j f hj
    have hjl : j < fs.size := (Array.getElem?_eq_some_iff.1 hj).1
    have hcell := hat j hjl
    have hv : cs'[j]? = some (cs'[j]'(by omega)) := List.getElem?_eq_getElem (by omega)
    have h1 := hf j f hj
    rw [ho, hk] at h1
    have hone' : (cs'.drop j).take 1 = [cs'[j]'(by omega)] := by
      rw [List.drop_eq_getElem_cons (by omega)]
      rfl
    rw [hone'] at h1
    have hys : ys[j]? = some (ys[j]'(by omega)) := List.getElem?_eq_getElem (by omega)
    refine ⟨_, _, ?_, hys, h1.trans hys⟩
    rw [← Go.Deep.add_add, hcell, hv]
theorem versions {t e : TypeId} {f0 f1 f2 : Field} {a : Option Addr} {len cap : Nat} {d : DataW H} {ps : List MemPlace} (ht : P.underlying t = some (.slice e)) (he : P.underlying e = some (.struct #[f0, f1, f2])) (h0 : P.underlying f0.type = some (.int .i64)) (h1 : P.underlying f1.type = some .string) (h2 : P.underlying f2.type = some .bool)
    (hone : oneCellFields P #[f0, f1, f2] = true) (hC : P.cellsOf e = 3) (h : DataW.Trod enc P w base spare held t (.slice a len cap) d ps) :
    ∃ l : List S34, l.length = len ∧ len ≤ cap ∧ Kd.C k34 w a len l := by
  obtain ⟨fuel, hf⟩ := h
  rcases open_slice_fields ht he hone hC hf with ⟨hcs, _⟩ | ⟨x, l, c, m, D, hcs, hl, hm, hmm, hx, hi⟩
  · simp [Value.cells] at hcs
    obtain ⟨rfl, rfl, rfl⟩ := hcs
    exact ⟨[], rfl, Nat.le_refl _, rfl, by omega, fun h => absurd h (by omega)⟩
  · simp [Value.cells] at hcs
    obtain ⟨rfl, rfl, rfl⟩ := hcs
    have hlm : len ≤ m := by
      rw [hmm]
      split
      · exact hl
      · exact Nat.le_refl _
    have each : ∀ j, ∃ v : S34, j < len → w.cell? (x.add (j * 3)) = some (.int .i64 v.f0) ∧ w.cell? (x.add (j * 3 + 1)) = some (.string v.f1) ∧ w.cell? (x.add (j * 3 + 2)) = some (.bool v.f2) := by
      intro j
      by_cases hj : j < len
      · obtain ⟨ys, n, _, _, hg⟩ := hi j (by omega)
        obtain ⟨v0, y0, hc0, _, t0⟩ := hg 0 f0 rfl
        obtain ⟨v1, y1, hc1, _, t1⟩ := hg 1 f1 rfl
        obtain ⟨v2, y2, hc2, _, t2⟩ := hg 2 f2 rfl
        obtain ⟨k, e0, _⟩ := DataW.trod_int h0 t0
        obtain ⟨q, e1, _⟩ := DataW.trod_string h1 t1
        obtain ⟨b, e2, _⟩ := DataW.trod_bool h2 t2
        refine ⟨⟨k, q, b⟩, fun _ => ⟨?_, ?_, ?_⟩⟩
        · simp at e0
          subst e0
          simpa using hc0
        · simp at e1
          subst e1
          simpa using hc1
        · simp at e2
          subst e2
          simpa using hc2
      · exact ⟨z34, fun h => absurd h hj⟩
    have hmx : len ≤ 9223372036854775807 := by unfold maxLen at hm; omega
    refine ⟨(List.range len).map fun j => Classical.choose (each j), by simp, hl, by simp, hmx, fun _ => ⟨x, rfl, fun j p hp => ?_⟩⟩
    obtain ⟨hj, rfl⟩ : j < len ∧ Classical.choose (each j) = p := by
      rw [List.getElem?_map] at hp
      by_cases hj : j < len
      · rw [List.getElem?_range hj] at hp
        exact ⟨hj, by simpa using hp⟩
      · rw [List.getElem?_eq_none (by simpa using hj)] at hp
        simp at hp
    obtain ⟨e0, e1, e2⟩ := Classical.choose_spec (each j) hj
    refine ⟨_, rfl, k34_mk w _, fun i u hu => ?_⟩
    match i, hu with
    | 0, hu => simp at hu; subst hu; exact e0
    | 1, hu => simp at hu; subst hu; exact e1
    | 2, hu => simp at hu; subst hu; exact e2
theorem version {t : TypeId} {f0 f1 f2 : Field} {v : Value} {r : Reach} {b0 : Nat} {d : DataW H} {ps : List MemPlace} (ht : P.underlying t = some (.struct #[f0, f1, f2])) (h0 : P.underlying f0.type = some (.int .i64)) (h1 : P.underlying f1.type = some .string) (h2 : P.underlying f2.type = some .bool)
    (o0 : f0.offset = 0 ∧ f1.offset = 1 ∧ f2.offset = 2) (c0 : P.cellsOf f0.type = 1 ∧ P.cellsOf f1.type = 1 ∧ P.cellsOf f2.type = 1) (hC : P.cellsOf t = 3) (hv : Value.okWide P w r b0 t v) (h : DataW.Trod enc P w base spare held t v d ps) :
    ∃ x : S34, v = .agg #[.int .i64 x.f0, .string x.f1, .bool x.f2] := by
  obtain ⟨cs, rfl, hs⟩ := okWide_struct ht hv
  obtain ⟨fuel, hf⟩ := h
  obtain ⟨y0, y1, y2, n, _, hl, t0, t1, t2⟩ := trod_struct3 ht hf
  rw [hC] at hs
  obtain ⟨L⟩ := cs
  match L, hs with
  | [u0, u1, u2], _ =>
    rw [o0.1, c0.1] at t0
    rw [o0.2.1, c0.2.1] at t1
    rw [o0.2.2, c0.2.2] at t2
    obtain ⟨k, e0, _⟩ := DataW.trod_int h0 t0
    obtain ⟨q, e1, _⟩ := DataW.trod_string h1 t1
    obtain ⟨b, e2, _⟩ := DataW.trod_bool h2 t2
    simp [Value.cells] at e0 e1 e2
    subst e0 e1 e2
    exact ⟨⟨k, q, b⟩, rfl⟩
end
end Go.Proofs.Ytimkcfjncobgjaa.Vers
