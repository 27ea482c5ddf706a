/-
  No cell of these rows narrows 'for every input' (looked for: loops, veiled, ifaces, maps, wideKeys, modest, calm, conditions, laid).
  DERIVED. THE GIVEN ROWS OF THIS SEAT. 5 by the template 'for every input the law returns true; each argument reads behind the call as it read before'; 0 by the template 'total and deterministic' (their statements: YtimkcfjncobgjaaTotals.lean).
  GIVEN WITH THE SEED: the statements are not yours to turn. If you find one false, say at which input.
  Laid BY PROGRAM, IN A SANDBOX (cutbox-rows.mjs): the forced cells as the released guide's own fill.sh prints them over the translation 381208180522ed83… (all of the seat's roots in one cut). By AI agents, Wed Nov 11 2026. No macro, syntax, notation, axiom, sorry.
-/
import Derived.Test.YtimkcfjncobgjaaChecked
import GoSem.Claim
import GoSem.ClaimJoined
import GoSem.ClaimMapViews
import Derived.JoinedTies
import Derived.KernelRfl
namespace Go.Proofs.Ytimkcfjncobgjaa
/- THE CELL 'sum', in the pinned program and in every row, IS THE sha256 OF THE DUMP (.gsa) THAT YtimkcfjncobgjaaProg.lean LOADS. Nothing in Lean hashes anything: it is a label: what it is worth is what the hold of that sum in a sandbox is worth. -/
noncomputable def Try.pinned : Pinned := { name := "ytimkcfjncobgjaa", sum := "381208180522ed83df7fabbd5e97b48901f785bf38d8a2e63c3dead42e93a316", checked := Try.checked }
namespace Rows
def none {H : Type} : Left H := { results := [], args := [] }

/-- 'ambrylaw13.ChainAsks': WHATEVER THE INPUT: true; the input reads as it did. -/
def chainAsksSpec : ChangeSpec := { name := "chainAsks", fn := fun _ => fun
  | [d1, d2] => { results := [.lit (.bool true)], args := [d1, d2] }
  | _ => none }
def chainAsksRow : OpenClaim := { program := "ytimkcfjncobgjaa", sum := "381208180522ed83df7fabbd5e97b48901f785bf38d8a2e63c3dead42e93a316", func := "ambry/ambrylaw13.ChainAsks", spec := "chainAsks", unfollowed := true, recurses := true, apart := false }
def ChainAsksSaid : Prop := chainAsksRow.holds Try.pinned (OpenSpec.ofChange chainAsksSpec)

/-- ITS FALSE NEIGHBOUR: 'it returns false'. Refute it at one input. -/
def chainAsksWrong : ChangeSpec := { name := "chainAsks", fn := fun _ => fun
  | [d1, d2] => { results := [.lit (.bool false)], args := [d1, d2] }
  | _ => none }
def ChainAsksWrongFalsely : Prop := chainAsksRow.holds Try.pinned (OpenSpec.ofChange chainAsksWrong)

/-- 'ambrylaw13.ChainVacuum': WHATEVER THE INPUT: true; the input reads as it did. -/
def chainVacuumSpec : ChangeSpec := { name := "chainVacuum", fn := fun _ => fun
  | [d1, d2, d3, d4] => { results := [.lit (.bool true)], args := [d1, d2, d3, d4] }
  | _ => none }
def chainVacuumRow : OpenClaim := { program := "ytimkcfjncobgjaa", sum := "381208180522ed83df7fabbd5e97b48901f785bf38d8a2e63c3dead42e93a316", func := "ambry/ambrylaw13.ChainVacuum", spec := "chainVacuum", unfollowed := true, recurses := true, apart := false }
def ChainVacuumSaid : Prop := chainVacuumRow.holds Try.pinned (OpenSpec.ofChange chainVacuumSpec)

/-- ITS FALSE NEIGHBOUR: 'it returns false'. Refute it at one input. -/
def chainVacuumWrong : ChangeSpec := { name := "chainVacuum", fn := fun _ => fun
  | [d1, d2, d3, d4] => { results := [.lit (.bool false)], args := [d1, d2, d3, d4] }
  | _ => none }
def ChainVacuumWrongFalsely : Prop := chainVacuumRow.holds Try.pinned (OpenSpec.ofChange chainVacuumWrong)

/-- 'ambrylaw13.ChainTurns': WHATEVER THE INPUT: true; the input reads as it did. -/
def chainTurnsSpec : ChangeSpec := { name := "chainTurns", fn := fun _ => fun
  | [d1, d2, d3] => { results := [.lit (.bool true)], args := [d1, d2, d3] }
  | _ => none }
def chainTurnsRow : OpenClaim := { program := "ytimkcfjncobgjaa", sum := "381208180522ed83df7fabbd5e97b48901f785bf38d8a2e63c3dead42e93a316", func := "ambry/ambrylaw13.ChainTurns", spec := "chainTurns", unfollowed := true, recurses := true, apart := false }
def ChainTurnsSaid : Prop := chainTurnsRow.holds Try.pinned (OpenSpec.ofChange chainTurnsSpec)

/-- ITS FALSE NEIGHBOUR: 'it returns false'. Refute it at one input. -/
def chainTurnsWrong : ChangeSpec := { name := "chainTurns", fn := fun _ => fun
  | [d1, d2, d3] => { results := [.lit (.bool false)], args := [d1, d2, d3] }
  | _ => none }
def ChainTurnsWrongFalsely : Prop := chainTurnsRow.holds Try.pinned (OpenSpec.ofChange chainTurnsWrong)

/-- 'ambrylaw13.ChainGrown': WHATEVER THE INPUT: true; the input reads as it did. -/
def chainGrownSpec : ChangeSpec := { name := "chainGrown", fn := fun _ => fun
  | [d1, d2, d3] => { results := [.lit (.bool true)], args := [d1, d2, d3] }
  | _ => none }
def chainGrownRow : OpenClaim := { program := "ytimkcfjncobgjaa", sum := "381208180522ed83df7fabbd5e97b48901f785bf38d8a2e63c3dead42e93a316", func := "ambry/ambrylaw13.ChainGrown", spec := "chainGrown", unfollowed := true, recurses := true, apart := false }
def ChainGrownSaid : Prop := chainGrownRow.holds Try.pinned (OpenSpec.ofChange chainGrownSpec)

/-- ITS FALSE NEIGHBOUR: 'it returns false'. Refute it at one input. -/
def chainGrownWrong : ChangeSpec := { name := "chainGrown", fn := fun _ => fun
  | [d1, d2, d3] => { results := [.lit (.bool false)], args := [d1, d2, d3] }
  | _ => none }
def ChainGrownWrongFalsely : Prop := chainGrownRow.holds Try.pinned (OpenSpec.ofChange chainGrownWrong)

/-- 'ambrylaw13.ChainRewind': WHATEVER THE INPUT: true; the input reads as it did. -/
def chainRewindSpec : ChangeSpec := { name := "chainRewind", fn := fun _ => fun
  | [d1, d2, d3] => { results := [.lit (.bool true)], args := [d1, d2, d3] }
  | _ => none }
def chainRewindRow : OpenClaim := { program := "ytimkcfjncobgjaa", sum := "381208180522ed83df7fabbd5e97b48901f785bf38d8a2e63c3dead42e93a316", func := "ambry/ambrylaw13.ChainRewind", spec := "chainRewind", unfollowed := true, recurses := true, apart := false }
def ChainRewindSaid : Prop := chainRewindRow.holds Try.pinned (OpenSpec.ofChange chainRewindSpec)

/-- ITS FALSE NEIGHBOUR: 'it returns false'. Refute it at one input. -/
def chainRewindWrong : ChangeSpec := { name := "chainRewind", fn := fun _ => fun
  | [d1, d2, d3] => { results := [.lit (.bool false)], args := [d1, d2, d3] }
  | _ => none }
def ChainRewindWrongFalsely : Prop := chainRewindRow.holds Try.pinned (OpenSpec.ofChange chainRewindWrong)

/- THE SECOND FORM. 'bulk': how many values and letters a reading holds, each counted each time it is reached (what is shared counts as often as it is met; a slice's spare places count too). A statement '..UptoSaid' is the law's where the arguments, and the package variables that the reading takes, are together of bulk at most 1048576: NARROWER than '..Said'. Prove '..Said' where nothing that the law and all that it calls make is longer than what came in: it says more and counts as full. Else prove '..UptoSaid'. A law counts once. -/
mutual
def uptoBulk {H : Type} : DataW H → Nat
  | .lit (.string bytes) => bytes.length + 1
  | .lit _ => 1
  | .nil => 1
  | .ptr d => uptoBulk d + 1
  | .slice elems spare => uptoBulkAll elems + uptoBulkAll spare + 1
  | .agg parts => uptoBulkAll parts + 1
  | .iface _ d => uptoBulk d + 1
  | .map entries => uptoBulkEntries entries + 1
  | .held _ => 1
def uptoBulkAll {H : Type} : List (DataW H) → Nat
  | [] => 0
  | d :: r => uptoBulk d + uptoBulkAll r
def uptoBulkEntries {H : Type} : List (Lit × DataW H) → Nat
  | [] => 0
  | x :: r => uptoBulkEntry x + uptoBulkEntries r
def uptoBulkEntry {H : Type} : Lit × DataW H → Nat
  | (.string bytes, d) => bytes.length + uptoBulk d + 1
  | (_, d) => uptoBulk d + 1
 end
def uptoSmall : (H : Type) → List (DataW H) → Bool := fun _ ds => decide (uptoBulkAll ds ≤ 1048576)
def OpenSpec.upto (s : _root_.Go.ChangeSpec) : _root_.Go.OpenSpec := { _root_.Go.OpenSpec.ofChange s with cond := some uptoSmall }

/-- 'ambrylaw13.ChainAsks', WHERE WHAT IT READS IS OF BULK AT MOST 1048576: true; the input reads as it did. -/
def chainAsksUptoRow : OpenClaim := { program := "ytimkcfjncobgjaa", sum := "381208180522ed83df7fabbd5e97b48901f785bf38d8a2e63c3dead42e93a316", func := "ambry/ambrylaw13.ChainAsks", spec := "chainAsks", unfollowed := true, recurses := true, apart := false, narrowed := true }
def ChainAsksUptoSaid : Prop := chainAsksUptoRow.holds Try.pinned (OpenSpec.upto chainAsksSpec)

/-- 'ambrylaw13.ChainVacuum', WHERE WHAT IT READS IS OF BULK AT MOST 1048576: true; the input reads as it did. -/
def chainVacuumUptoRow : OpenClaim := { program := "ytimkcfjncobgjaa", sum := "381208180522ed83df7fabbd5e97b48901f785bf38d8a2e63c3dead42e93a316", func := "ambry/ambrylaw13.ChainVacuum", spec := "chainVacuum", unfollowed := true, recurses := true, apart := false, narrowed := true }
def ChainVacuumUptoSaid : Prop := chainVacuumUptoRow.holds Try.pinned (OpenSpec.upto chainVacuumSpec)

/-- 'ambrylaw13.ChainTurns', WHERE WHAT IT READS IS OF BULK AT MOST 1048576: true; the input reads as it did. -/
def chainTurnsUptoRow : OpenClaim := { program := "ytimkcfjncobgjaa", sum := "381208180522ed83df7fabbd5e97b48901f785bf38d8a2e63c3dead42e93a316", func := "ambry/ambrylaw13.ChainTurns", spec := "chainTurns", unfollowed := true, recurses := true, apart := false, narrowed := true }
def ChainTurnsUptoSaid : Prop := chainTurnsUptoRow.holds Try.pinned (OpenSpec.upto chainTurnsSpec)

/-- 'ambrylaw13.ChainGrown', WHERE WHAT IT READS IS OF BULK AT MOST 1048576: true; the input reads as it did. -/
def chainGrownUptoRow : OpenClaim := { program := "ytimkcfjncobgjaa", sum := "381208180522ed83df7fabbd5e97b48901f785bf38d8a2e63c3dead42e93a316", func := "ambry/ambrylaw13.ChainGrown", spec := "chainGrown", unfollowed := true, recurses := true, apart := false, narrowed := true }
def ChainGrownUptoSaid : Prop := chainGrownUptoRow.holds Try.pinned (OpenSpec.upto chainGrownSpec)

/-- 'ambrylaw13.ChainRewind', WHERE WHAT IT READS IS OF BULK AT MOST 1048576: true; the input reads as it did. -/
def chainRewindUptoRow : OpenClaim := { program := "ytimkcfjncobgjaa", sum := "381208180522ed83df7fabbd5e97b48901f785bf38d8a2e63c3dead42e93a316", func := "ambry/ambrylaw13.ChainRewind", spec := "chainRewind", unfollowed := true, recurses := true, apart := false, narrowed := true }
def ChainRewindUptoSaid : Prop := chainRewindUptoRow.holds Try.pinned (OpenSpec.upto chainRewindSpec)

end Rows
end Go.Proofs.Ytimkcfjncobgjaa
