/-
  No cell of these rows narrows 'for every input' (looked for: loops, veiled, ifaces, maps, wideKeys, modest, calm, conditions, laid).
  DERIVED. THE GIVEN ROWS OF THIS SEAT. 5 by the template 'for every input the law returns true; each argument reads behind the call as it read before'; 0 by the template 'total and deterministic' (their statements: YtfnenbkmbfbeaaaTotals.lean).
  GIVEN WITH THE SEED: the statements are not yours to turn. If you find one false, say at which input.
  Laid BY PROGRAM, IN A SANDBOX (cutbox-rows.mjs): the forced cells as the released guide's own fill.sh prints them over the translation db3c3264d6bb9149… (all of the seat's roots in one cut). By AI agents, Wed Nov 11 2026. No macro, syntax, notation, axiom, sorry.
-/
import Derived.Test.YtfnenbkmbfbeaaaChecked
import GoSem.Claim
import GoSem.ClaimJoined
import GoSem.ClaimMapViews
import Derived.JoinedTies
import Derived.KernelRfl
namespace Go.Proofs.Ytfnenbkmbfbeaaa
/- THE CELL 'sum', in the pinned program and in every row, IS THE sha256 OF THE DUMP (.gsa) THAT YtfnenbkmbfbeaaaProg.lean LOADS. Nothing in Lean hashes anything: it is a label: what it is worth is what the hold of that sum in a sandbox is worth. -/
noncomputable def Try.pinned : Pinned := { name := "ytfnenbkmbfbeaaa", sum := "db3c3264d6bb9149a96bd34049d218238c4bd5994579b4e5d66cecc4b2da46dc", checked := Try.checked }
namespace Rows
def none {H : Type} : Left H := { results := [], args := [] }

/-- 'ambrylaw28.RetainKeeps': WHATEVER THE INPUT: true; the input reads as it did. -/
def retainKeepsSpec : ChangeSpec := { name := "retainKeeps", fn := fun _ => fun
  | [d1, d2] => { results := [.lit (.bool true)], args := [d1, d2] }
  | _ => none }
def retainKeepsRow : OpenClaim := { program := "ytfnenbkmbfbeaaa", sum := "db3c3264d6bb9149a96bd34049d218238c4bd5994579b4e5d66cecc4b2da46dc", func := "ambry/ambrylaw28.RetainKeeps", spec := "retainKeeps", unfollowed := true, recurses := true, apart := false }
def RetainKeepsSaid : Prop := retainKeepsRow.holds Try.pinned (OpenSpec.ofChange retainKeepsSpec)

/-- ITS FALSE NEIGHBOUR: 'it returns false'. Refute it at one input. -/
def retainKeepsWrong : ChangeSpec := { name := "retainKeeps", fn := fun _ => fun
  | [d1, d2] => { results := [.lit (.bool false)], args := [d1, d2] }
  | _ => none }
def RetainKeepsWrongFalsely : Prop := retainKeepsRow.holds Try.pinned (OpenSpec.ofChange retainKeepsWrong)

/-- 'ambrylaw28.RetainParts': WHATEVER THE INPUT: true; the input reads as it did. -/
def retainPartsSpec : ChangeSpec := { name := "retainParts", fn := fun _ => fun
  | [d1, d2] => { results := [.lit (.bool true)], args := [d1, d2] }
  | _ => none }
def retainPartsRow : OpenClaim := { program := "ytfnenbkmbfbeaaa", sum := "db3c3264d6bb9149a96bd34049d218238c4bd5994579b4e5d66cecc4b2da46dc", func := "ambry/ambrylaw28.RetainParts", spec := "retainParts", unfollowed := true, recurses := true, apart := false }
def RetainPartsSaid : Prop := retainPartsRow.holds Try.pinned (OpenSpec.ofChange retainPartsSpec)

/-- ITS FALSE NEIGHBOUR: 'it returns false'. Refute it at one input. -/
def retainPartsWrong : ChangeSpec := { name := "retainParts", fn := fun _ => fun
  | [d1, d2] => { results := [.lit (.bool false)], args := [d1, d2] }
  | _ => none }
def RetainPartsWrongFalsely : Prop := retainPartsRow.holds Try.pinned (OpenSpec.ofChange retainPartsWrong)

/-- 'ambrylaw28.RetainMore': WHATEVER THE INPUT: true; the input reads as it did. -/
def retainMoreSpec : ChangeSpec := { name := "retainMore", fn := fun _ => fun
  | [d1, d2, d3] => { results := [.lit (.bool true)], args := [d1, d2, d3] }
  | _ => none }
def retainMoreRow : OpenClaim := { program := "ytfnenbkmbfbeaaa", sum := "db3c3264d6bb9149a96bd34049d218238c4bd5994579b4e5d66cecc4b2da46dc", func := "ambry/ambrylaw28.RetainMore", spec := "retainMore", unfollowed := true, recurses := true, apart := false }
def RetainMoreSaid : Prop := retainMoreRow.holds Try.pinned (OpenSpec.ofChange retainMoreSpec)

/-- ITS FALSE NEIGHBOUR: 'it returns false'. Refute it at one input. -/
def retainMoreWrong : ChangeSpec := { name := "retainMore", fn := fun _ => fun
  | [d1, d2, d3] => { results := [.lit (.bool false)], args := [d1, d2, d3] }
  | _ => none }
def RetainMoreWrongFalsely : Prop := retainMoreRow.holds Try.pinned (OpenSpec.ofChange retainMoreWrong)

/-- 'ambrylaw28.RetainAgain': WHATEVER THE INPUT: true; the input reads as it did. -/
def retainAgainSpec : ChangeSpec := { name := "retainAgain", fn := fun _ => fun
  | [d1, d2] => { results := [.lit (.bool true)], args := [d1, d2] }
  | _ => none }
def retainAgainRow : OpenClaim := { program := "ytfnenbkmbfbeaaa", sum := "db3c3264d6bb9149a96bd34049d218238c4bd5994579b4e5d66cecc4b2da46dc", func := "ambry/ambrylaw28.RetainAgain", spec := "retainAgain", unfollowed := true, recurses := true, apart := false }
def RetainAgainSaid : Prop := retainAgainRow.holds Try.pinned (OpenSpec.ofChange retainAgainSpec)

/-- ITS FALSE NEIGHBOUR: 'it returns false'. Refute it at one input. -/
def retainAgainWrong : ChangeSpec := { name := "retainAgain", fn := fun _ => fun
  | [d1, d2] => { results := [.lit (.bool false)], args := [d1, d2] }
  | _ => none }
def RetainAgainWrongFalsely : Prop := retainAgainRow.holds Try.pinned (OpenSpec.ofChange retainAgainWrong)

/-- 'ambrylaw28.RetainRows': WHATEVER THE INPUT: true; the input reads as it did. -/
def retainRowsSpec : ChangeSpec := { name := "retainRows", fn := fun _ => fun
  | [d1, d2] => { results := [.lit (.bool true)], args := [d1, d2] }
  | _ => none }
def retainRowsRow : OpenClaim := { program := "ytfnenbkmbfbeaaa", sum := "db3c3264d6bb9149a96bd34049d218238c4bd5994579b4e5d66cecc4b2da46dc", func := "ambry/ambrylaw28.RetainRows", spec := "retainRows", unfollowed := true, recurses := true, apart := false }
def RetainRowsSaid : Prop := retainRowsRow.holds Try.pinned (OpenSpec.ofChange retainRowsSpec)

/-- ITS FALSE NEIGHBOUR: 'it returns false'. Refute it at one input. -/
def retainRowsWrong : ChangeSpec := { name := "retainRows", fn := fun _ => fun
  | [d1, d2] => { results := [.lit (.bool false)], args := [d1, d2] }
  | _ => none }
def RetainRowsWrongFalsely : Prop := retainRowsRow.holds Try.pinned (OpenSpec.ofChange retainRowsWrong)

/- THE SECOND FORM. 'bulk': how many values and letters a reading holds, each counted each time it is reached (what is shared counts as often as it is met; a slice's spare places count too). A statement '..UptoSaid' is the law's where the arguments, and the package variables that the reading takes, are together of bulk at most 1048576: NARROWER than '..Said'. Prove '..Said' where nothing that the law and all that it calls make is longer than what came in: it says more and counts as full. Else prove '..UptoSaid'. A law counts once. -/
mutual
def uptoBulk {H : Type} : DataW H → Nat
  | .lit (.string bytes) => bytes.length + 1
  | .lit _ => 1
  | .nil => 1
  | .ptr d => uptoBulk d + 1
  | .slice elems spare => uptoBulkAll elems + uptoBulkAll spare + 1
  | .agg parts => uptoBulkAll parts + 1
  | .iface _ d => uptoBulk d + 1
  | .map entries => uptoBulkEntries entries + 1
  | .held _ => 1
def uptoBulkAll {H : Type} : List (DataW H) → Nat
  | [] => 0
  | d :: r => uptoBulk d + uptoBulkAll r
def uptoBulkEntries {H : Type} : List (Lit × DataW H) → Nat
  | [] => 0
  | x :: r => uptoBulkEntry x + uptoBulkEntries r
def uptoBulkEntry {H : Type} : Lit × DataW H → Nat
  | (.string bytes, d) => bytes.length + uptoBulk d + 1
  | (_, d) => uptoBulk d + 1
 end
def uptoSmall : (H : Type) → List (DataW H) → Bool := fun _ ds => decide (uptoBulkAll ds ≤ 1048576)
def OpenSpec.upto (s : _root_.Go.ChangeSpec) : _root_.Go.OpenSpec := { _root_.Go.OpenSpec.ofChange s with cond := some uptoSmall }

/-- 'ambrylaw28.RetainKeeps', WHERE WHAT IT READS IS OF BULK AT MOST 1048576: true; the input reads as it did. -/
def retainKeepsUptoRow : OpenClaim := { program := "ytfnenbkmbfbeaaa", sum := "db3c3264d6bb9149a96bd34049d218238c4bd5994579b4e5d66cecc4b2da46dc", func := "ambry/ambrylaw28.RetainKeeps", spec := "retainKeeps", unfollowed := true, recurses := true, apart := false, narrowed := true }
def RetainKeepsUptoSaid : Prop := retainKeepsUptoRow.holds Try.pinned (OpenSpec.upto retainKeepsSpec)

/-- 'ambrylaw28.RetainParts', WHERE WHAT IT READS IS OF BULK AT MOST 1048576: true; the input reads as it did. -/
def retainPartsUptoRow : OpenClaim := { program := "ytfnenbkmbfbeaaa", sum := "db3c3264d6bb9149a96bd34049d218238c4bd5994579b4e5d66cecc4b2da46dc", func := "ambry/ambrylaw28.RetainParts", spec := "retainParts", unfollowed := true, recurses := true, apart := false, narrowed := true }
def RetainPartsUptoSaid : Prop := retainPartsUptoRow.holds Try.pinned (OpenSpec.upto retainPartsSpec)

/-- 'ambrylaw28.RetainMore', WHERE WHAT IT READS IS OF BULK AT MOST 1048576: true; the input reads as it did. -/
def retainMoreUptoRow : OpenClaim := { program := "ytfnenbkmbfbeaaa", sum := "db3c3264d6bb9149a96bd34049d218238c4bd5994579b4e5d66cecc4b2da46dc", func := "ambry/ambrylaw28.RetainMore", spec := "retainMore", unfollowed := true, recurses := true, apart := false, narrowed := true }
def RetainMoreUptoSaid : Prop := retainMoreUptoRow.holds Try.pinned (OpenSpec.upto retainMoreSpec)

/-- 'ambrylaw28.RetainAgain', WHERE WHAT IT READS IS OF BULK AT MOST 1048576: true; the input reads as it did. -/
def retainAgainUptoRow : OpenClaim := { program := "ytfnenbkmbfbeaaa", sum := "db3c3264d6bb9149a96bd34049d218238c4bd5994579b4e5d66cecc4b2da46dc", func := "ambry/ambrylaw28.RetainAgain", spec := "retainAgain", unfollowed := true, recurses := true, apart := false, narrowed := true }
def RetainAgainUptoSaid : Prop := retainAgainUptoRow.holds Try.pinned (OpenSpec.upto retainAgainSpec)

/-- 'ambrylaw28.RetainRows', WHERE WHAT IT READS IS OF BULK AT MOST 1048576: true; the input reads as it did. -/
def retainRowsUptoRow : OpenClaim := { program := "ytfnenbkmbfbeaaa", sum := "db3c3264d6bb9149a96bd34049d218238c4bd5994579b4e5d66cecc4b2da46dc", func := "ambry/ambrylaw28.RetainRows", spec := "retainRows", unfollowed := true, recurses := true, apart := false, narrowed := true }
def RetainRowsUptoSaid : Prop := retainRowsUptoRow.holds Try.pinned (OpenSpec.upto retainRowsSpec)

end Rows
end Go.Proofs.Ytfnenbkmbfbeaaa
