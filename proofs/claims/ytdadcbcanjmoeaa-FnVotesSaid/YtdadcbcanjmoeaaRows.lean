/-
  No cell of these rows narrows 'for every input' (looked for: loops, veiled, ifaces, maps, wideKeys, modest, calm, conditions, laid).
  DERIVED. THE GIVEN ROWS OF THIS SEAT. 12 by the template 'for every input the law returns true; each argument reads behind the call as it read before'; 0 by the template 'total and deterministic' (their statements: YtdadcbcanjmoeaaTotals.lean).
  GIVEN WITH THE SEED: the statements are not yours to turn. If you find one false, say at which input.
  Laid BY PROGRAM, IN A SANDBOX (cutbox-rows.mjs): the forced cells as the released guide's own fill.sh prints them over the translation dc78634387cc9982… (all of the seat's roots in one cut). By AI agents, Wed Nov 11 2026. No macro, syntax, notation, axiom, sorry.
-/
import Derived.Test.YtdadcbcanjmoeaaChecked
import GoSem.Claim
import GoSem.ClaimJoined
import GoSem.ClaimMapViews
import Derived.JoinedTies
import Derived.KernelRfl
namespace Go.Proofs.Ytdadcbcanjmoeaa
/- THE CELL 'sum', in the pinned program and in every row, IS THE sha256 OF THE DUMP (.gsa) THAT YtdadcbcanjmoeaaProg.lean LOADS. Nothing in Lean hashes anything: it is a label: what it is worth is what the hold of that sum in a sandbox is worth. -/
noncomputable def Try.pinned : Pinned := { name := "ytdadcbcanjmoeaa", sum := "dc78634387cc9982c19c2ff0e47e2ffede9198402099a268aa2f17fde6fd637b", checked := Try.checked }
namespace Rows
def none {H : Type} : Left H := { results := [], args := [] }

/-- 'laws.FnExactIsCube': WHATEVER THE INPUT: true; the input reads as it did. -/
def fnExactIsCubeSpec : ChangeSpec := { name := "fnExactIsCube", fn := fun _ => fun
  | [d] => { results := [.lit (.bool true)], args := [d] }
  | _ => none }
def fnExactIsCubeRow : OpenClaim := { program := "ytdadcbcanjmoeaa", sum := "dc78634387cc9982c19c2ff0e47e2ffede9198402099a268aa2f17fde6fd637b", func := "loop.example/g01017/laws.FnExactIsCube", spec := "fnExactIsCube", apart := false }
def FnExactIsCubeSaid : Prop := fnExactIsCubeRow.holds Try.pinned (OpenSpec.ofChange fnExactIsCubeSpec)

/-- ITS FALSE NEIGHBOUR: 'it returns false'. Refute it at one input. -/
def fnExactIsCubeWrong : ChangeSpec := { name := "fnExactIsCube", fn := fun _ => fun
  | [d] => { results := [.lit (.bool false)], args := [d] }
  | _ => none }
def FnExactIsCubeWrongFalsely : Prop := fnExactIsCubeRow.holds Try.pinned (OpenSpec.ofChange fnExactIsCubeWrong)

/-- 'laws.FnExactReachOf': WHATEVER THE INPUT: true; the input reads as it did. -/
def fnExactReachOfSpec : ChangeSpec := { name := "fnExactReachOf", fn := fun _ => fun
  | [d1, d2, d3] => { results := [.lit (.bool true)], args := [d1, d2, d3] }
  | _ => none }
def fnExactReachOfRow : OpenClaim := { program := "ytdadcbcanjmoeaa", sum := "dc78634387cc9982c19c2ff0e47e2ffede9198402099a268aa2f17fde6fd637b", func := "loop.example/g01017/laws.FnExactReachOf", spec := "fnExactReachOf", unfollowed := true, recurses := true, apart := false }
def FnExactReachOfSaid : Prop := fnExactReachOfRow.holds Try.pinned (OpenSpec.ofChange fnExactReachOfSpec)

/-- ITS FALSE NEIGHBOUR: 'it returns false'. Refute it at one input. -/
def fnExactReachOfWrong : ChangeSpec := { name := "fnExactReachOf", fn := fun _ => fun
  | [d1, d2, d3] => { results := [.lit (.bool false)], args := [d1, d2, d3] }
  | _ => none }
def FnExactReachOfWrongFalsely : Prop := fnExactReachOfRow.holds Try.pinned (OpenSpec.ofChange fnExactReachOfWrong)

/-- 'laws.FnExactDoesFit': WHATEVER THE INPUT: true; the input reads as it did. -/
def fnExactDoesFitSpec : ChangeSpec := { name := "fnExactDoesFit", fn := fun _ => fun
  | [d1, d2] => { results := [.lit (.bool true)], args := [d1, d2] }
  | _ => none }
def fnExactDoesFitRow : OpenClaim := { program := "ytdadcbcanjmoeaa", sum := "dc78634387cc9982c19c2ff0e47e2ffede9198402099a268aa2f17fde6fd637b", func := "loop.example/g01017/laws.FnExactDoesFit", spec := "fnExactDoesFit", apart := false }
def FnExactDoesFitSaid : Prop := fnExactDoesFitRow.holds Try.pinned (OpenSpec.ofChange fnExactDoesFitSpec)

/-- ITS FALSE NEIGHBOUR: 'it returns false'. Refute it at one input. -/
def fnExactDoesFitWrong : ChangeSpec := { name := "fnExactDoesFit", fn := fun _ => fun
  | [d1, d2] => { results := [.lit (.bool false)], args := [d1, d2] }
  | _ => none }
def FnExactDoesFitWrongFalsely : Prop := fnExactDoesFitRow.holds Try.pinned (OpenSpec.ofChange fnExactDoesFitWrong)

/-- 'laws.FnExactAreArrivals': WHATEVER THE INPUT: true; the input reads as it did. -/
def fnExactAreArrivalsSpec : ChangeSpec := { name := "fnExactAreArrivals", fn := fun _ => fun
  | [d] => { results := [.lit (.bool true)], args := [d] }
  | _ => none }
def fnExactAreArrivalsRow : OpenClaim := { program := "ytdadcbcanjmoeaa", sum := "dc78634387cc9982c19c2ff0e47e2ffede9198402099a268aa2f17fde6fd637b", func := "loop.example/g01017/laws.FnExactAreArrivals", spec := "fnExactAreArrivals", unfollowed := true, recurses := true, apart := false }
def FnExactAreArrivalsSaid : Prop := fnExactAreArrivalsRow.holds Try.pinned (OpenSpec.ofChange fnExactAreArrivalsSpec)

/-- ITS FALSE NEIGHBOUR: 'it returns false'. Refute it at one input. -/
def fnExactAreArrivalsWrong : ChangeSpec := { name := "fnExactAreArrivals", fn := fun _ => fun
  | [d] => { results := [.lit (.bool false)], args := [d] }
  | _ => none }
def FnExactAreArrivalsWrongFalsely : Prop := fnExactAreArrivalsRow.holds Try.pinned (OpenSpec.ofChange fnExactAreArrivalsWrong)

/-- 'laws.FnExactTicksThatFit': WHATEVER THE INPUT: true; the input reads as it did. -/
def fnExactTicksThatFitSpec : ChangeSpec := { name := "fnExactTicksThatFit", fn := fun _ => fun
  | [d1, d2, d3] => { results := [.lit (.bool true)], args := [d1, d2, d3] }
  | _ => none }
def fnExactTicksThatFitRow : OpenClaim := { program := "ytdadcbcanjmoeaa", sum := "dc78634387cc9982c19c2ff0e47e2ffede9198402099a268aa2f17fde6fd637b", func := "loop.example/g01017/laws.FnExactTicksThatFit", spec := "fnExactTicksThatFit", apart := false }
def FnExactTicksThatFitSaid : Prop := fnExactTicksThatFitRow.holds Try.pinned (OpenSpec.ofChange fnExactTicksThatFitSpec)

/-- ITS FALSE NEIGHBOUR: 'it returns false'. Refute it at one input. -/
def fnExactTicksThatFitWrong : ChangeSpec := { name := "fnExactTicksThatFit", fn := fun _ => fun
  | [d1, d2, d3] => { results := [.lit (.bool false)], args := [d1, d2, d3] }
  | _ => none }
def FnExactTicksThatFitWrongFalsely : Prop := fnExactTicksThatFitRow.holds Try.pinned (OpenSpec.ofChange fnExactTicksThatFitWrong)

/-- 'laws.FnExactVotesFor': WHATEVER THE INPUT: true; the input reads as it did. -/
def fnExactVotesForSpec : ChangeSpec := { name := "fnExactVotesFor", fn := fun _ => fun
  | [d1, d2] => { results := [.lit (.bool true)], args := [d1, d2] }
  | _ => none }
def fnExactVotesForRow : OpenClaim := { program := "ytdadcbcanjmoeaa", sum := "dc78634387cc9982c19c2ff0e47e2ffede9198402099a268aa2f17fde6fd637b", func := "loop.example/g01017/laws.FnExactVotesFor", spec := "fnExactVotesFor", unfollowed := true, recurses := true, apart := false }
def FnExactVotesForSaid : Prop := fnExactVotesForRow.holds Try.pinned (OpenSpec.ofChange fnExactVotesForSpec)

/-- ITS FALSE NEIGHBOUR: 'it returns false'. Refute it at one input. -/
def fnExactVotesForWrong : ChangeSpec := { name := "fnExactVotesFor", fn := fun _ => fun
  | [d1, d2] => { results := [.lit (.bool false)], args := [d1, d2] }
  | _ => none }
def FnExactVotesForWrongFalsely : Prop := fnExactVotesForRow.holds Try.pinned (OpenSpec.ofChange fnExactVotesForWrong)

/-- 'laws.FnExactWithoutVoters': WHATEVER THE INPUT: true; the input reads as it did. -/
def fnExactWithoutVotersSpec : ChangeSpec := { name := "fnExactWithoutVoters", fn := fun _ => fun
  | [d1, d2] => { results := [.lit (.bool true)], args := [d1, d2] }
  | _ => none }
def fnExactWithoutVotersRow : OpenClaim := { program := "ytdadcbcanjmoeaa", sum := "dc78634387cc9982c19c2ff0e47e2ffede9198402099a268aa2f17fde6fd637b", func := "loop.example/g01017/laws.FnExactWithoutVoters", spec := "fnExactWithoutVoters", unfollowed := true, recurses := true, apart := false }
def FnExactWithoutVotersSaid : Prop := fnExactWithoutVotersRow.holds Try.pinned (OpenSpec.ofChange fnExactWithoutVotersSpec)

/-- ITS FALSE NEIGHBOUR: 'it returns false'. Refute it at one input. -/
def fnExactWithoutVotersWrong : ChangeSpec := { name := "fnExactWithoutVoters", fn := fun _ => fun
  | [d1, d2] => { results := [.lit (.bool false)], args := [d1, d2] }
  | _ => none }
def FnExactWithoutVotersWrongFalsely : Prop := fnExactWithoutVotersRow.holds Try.pinned (OpenSpec.ofChange fnExactWithoutVotersWrong)

/-- 'laws.FnExactVotersFor': WHATEVER THE INPUT: true; the input reads as it did. -/
def fnExactVotersForSpec : ChangeSpec := { name := "fnExactVotersFor", fn := fun _ => fun
  | [d1, d2] => { results := [.lit (.bool true)], args := [d1, d2] }
  | _ => none }
def fnExactVotersForRow : OpenClaim := { program := "ytdadcbcanjmoeaa", sum := "dc78634387cc9982c19c2ff0e47e2ffede9198402099a268aa2f17fde6fd637b", func := "loop.example/g01017/laws.FnExactVotersFor", spec := "fnExactVotersFor", unfollowed := true, recurses := true, apart := false }
def FnExactVotersForSaid : Prop := fnExactVotersForRow.holds Try.pinned (OpenSpec.ofChange fnExactVotersForSpec)

/-- ITS FALSE NEIGHBOUR: 'it returns false'. Refute it at one input. -/
def fnExactVotersForWrong : ChangeSpec := { name := "fnExactVotersFor", fn := fun _ => fun
  | [d1, d2] => { results := [.lit (.bool false)], args := [d1, d2] }
  | _ => none }
def FnExactVotersForWrongFalsely : Prop := fnExactVotersForRow.holds Try.pinned (OpenSpec.ofChange fnExactVotersForWrong)

/-- 'laws.FnExactMostVotesAt': WHATEVER THE INPUT: true; the input reads as it did. -/
def fnExactMostVotesAtSpec : ChangeSpec := { name := "fnExactMostVotesAt", fn := fun _ => fun
  | [d1, d2, d3] => { results := [.lit (.bool true)], args := [d1, d2, d3] }
  | _ => none }
def fnExactMostVotesAtRow : OpenClaim := { program := "ytdadcbcanjmoeaa", sum := "dc78634387cc9982c19c2ff0e47e2ffede9198402099a268aa2f17fde6fd637b", func := "loop.example/g01017/laws.FnExactMostVotesAt", spec := "fnExactMostVotesAt", unfollowed := true, recurses := true, apart := false }
def FnExactMostVotesAtSaid : Prop := fnExactMostVotesAtRow.holds Try.pinned (OpenSpec.ofChange fnExactMostVotesAtSpec)

/-- ITS FALSE NEIGHBOUR: 'it returns false'. Refute it at one input. -/
def fnExactMostVotesAtWrong : ChangeSpec := { name := "fnExactMostVotesAt", fn := fun _ => fun
  | [d1, d2, d3] => { results := [.lit (.bool false)], args := [d1, d2, d3] }
  | _ => none }
def FnExactMostVotesAtWrongFalsely : Prop := fnExactMostVotesAtRow.holds Try.pinned (OpenSpec.ofChange fnExactMostVotesAtWrong)

/-- 'laws.FnExactHolderOf': WHATEVER THE INPUT: true; the input reads as it did. -/
def fnExactHolderOfSpec : ChangeSpec := { name := "fnExactHolderOf", fn := fun _ => fun
  | [d1, d2] => { results := [.lit (.bool true)], args := [d1, d2] }
  | _ => none }
def fnExactHolderOfRow : OpenClaim := { program := "ytdadcbcanjmoeaa", sum := "dc78634387cc9982c19c2ff0e47e2ffede9198402099a268aa2f17fde6fd637b", func := "loop.example/g01017/laws.FnExactHolderOf", spec := "fnExactHolderOf", unfollowed := true, recurses := true, apart := false }
def FnExactHolderOfSaid : Prop := fnExactHolderOfRow.holds Try.pinned (OpenSpec.ofChange fnExactHolderOfSpec)

/-- ITS FALSE NEIGHBOUR: 'it returns false'. Refute it at one input. -/
def fnExactHolderOfWrong : ChangeSpec := { name := "fnExactHolderOf", fn := fun _ => fun
  | [d1, d2] => { results := [.lit (.bool false)], args := [d1, d2] }
  | _ => none }
def FnExactHolderOfWrongFalsely : Prop := fnExactHolderOfRow.holds Try.pinned (OpenSpec.ofChange fnExactHolderOfWrong)

/-- 'laws.FnExactSplitCube': WHATEVER THE INPUT: true; the input reads as it did. -/
def fnExactSplitCubeSpec : ChangeSpec := { name := "fnExactSplitCube", fn := fun _ => fun
  | [d] => { results := [.lit (.bool true)], args := [d] }
  | _ => none }
def fnExactSplitCubeRow : OpenClaim := { program := "ytdadcbcanjmoeaa", sum := "dc78634387cc9982c19c2ff0e47e2ffede9198402099a268aa2f17fde6fd637b", func := "loop.example/g01017/laws.FnExactSplitCube", spec := "fnExactSplitCube", apart := false }
def FnExactSplitCubeSaid : Prop := fnExactSplitCubeRow.holds Try.pinned (OpenSpec.ofChange fnExactSplitCubeSpec)

/-- ITS FALSE NEIGHBOUR: 'it returns false'. Refute it at one input. -/
def fnExactSplitCubeWrong : ChangeSpec := { name := "fnExactSplitCube", fn := fun _ => fun
  | [d] => { results := [.lit (.bool false)], args := [d] }
  | _ => none }
def FnExactSplitCubeWrongFalsely : Prop := fnExactSplitCubeRow.holds Try.pinned (OpenSpec.ofChange fnExactSplitCubeWrong)

/-- 'laws.FnVotes': WHATEVER THE INPUT: true; the input reads as it did. -/
def fnVotesSpec : ChangeSpec := { name := "fnVotes", fn := fun _ => fun
  | [d] => { results := [.lit (.bool true)], args := [d] }
  | _ => none }
def fnVotesRow : OpenClaim := { program := "ytdadcbcanjmoeaa", sum := "dc78634387cc9982c19c2ff0e47e2ffede9198402099a268aa2f17fde6fd637b", func := "loop.example/g01017/laws.FnVotes", spec := "fnVotes", unfollowed := true, recurses := true, apart := false }
def FnVotesSaid : Prop := fnVotesRow.holds Try.pinned (OpenSpec.ofChange fnVotesSpec)

/-- ITS FALSE NEIGHBOUR: 'it returns false'. Refute it at one input. -/
def fnVotesWrong : ChangeSpec := { name := "fnVotes", fn := fun _ => fun
  | [d] => { results := [.lit (.bool false)], args := [d] }
  | _ => none }
def FnVotesWrongFalsely : Prop := fnVotesRow.holds Try.pinned (OpenSpec.ofChange fnVotesWrong)

/- THE SECOND FORM. 'bulk': how many values and letters a reading holds, each counted each time it is reached (what is shared counts as often as it is met; a slice's spare places count too). A statement '..UptoSaid' is the law's where the arguments, and the package variables that the reading takes, are together of bulk at most 1048576: NARROWER than '..Said'. Prove '..Said' where nothing that the law and all that it calls make is longer than what came in: it says more and counts as full. Else prove '..UptoSaid'. A law counts once. -/
mutual
def uptoBulk {H : Type} : DataW H → Nat
  | .lit (.string bytes) => bytes.length + 1
  | .lit _ => 1
  | .nil => 1
  | .ptr d => uptoBulk d + 1
  | .slice elems spare => uptoBulkAll elems + uptoBulkAll spare + 1
  | .agg parts => uptoBulkAll parts + 1
  | .iface _ d => uptoBulk d + 1
  | .map entries => uptoBulkEntries entries + 1
  | .held _ => 1
def uptoBulkAll {H : Type} : List (DataW H) → Nat
  | [] => 0
  | d :: r => uptoBulk d + uptoBulkAll r
def uptoBulkEntries {H : Type} : List (Lit × DataW H) → Nat
  | [] => 0
  | x :: r => uptoBulkEntry x + uptoBulkEntries r
def uptoBulkEntry {H : Type} : Lit × DataW H → Nat
  | (.string bytes, d) => bytes.length + uptoBulk d + 1
  | (_, d) => uptoBulk d + 1
 end
def uptoSmall : (H : Type) → List (DataW H) → Bool := fun _ ds => decide (uptoBulkAll ds ≤ 1048576)
def OpenSpec.upto (s : _root_.Go.ChangeSpec) : _root_.Go.OpenSpec := { _root_.Go.OpenSpec.ofChange s with cond := some uptoSmall }

/-- 'laws.FnExactIsCube', WHERE WHAT IT READS IS OF BULK AT MOST 1048576: true; the input reads as it did. -/
def fnExactIsCubeUptoRow : OpenClaim := { program := "ytdadcbcanjmoeaa", sum := "dc78634387cc9982c19c2ff0e47e2ffede9198402099a268aa2f17fde6fd637b", func := "loop.example/g01017/laws.FnExactIsCube", spec := "fnExactIsCube", apart := false, narrowed := true }
def FnExactIsCubeUptoSaid : Prop := fnExactIsCubeUptoRow.holds Try.pinned (OpenSpec.upto fnExactIsCubeSpec)

/-- 'laws.FnExactReachOf', WHERE WHAT IT READS IS OF BULK AT MOST 1048576: true; the input reads as it did. -/
def fnExactReachOfUptoRow : OpenClaim := { program := "ytdadcbcanjmoeaa", sum := "dc78634387cc9982c19c2ff0e47e2ffede9198402099a268aa2f17fde6fd637b", func := "loop.example/g01017/laws.FnExactReachOf", spec := "fnExactReachOf", unfollowed := true, recurses := true, apart := false, narrowed := true }
def FnExactReachOfUptoSaid : Prop := fnExactReachOfUptoRow.holds Try.pinned (OpenSpec.upto fnExactReachOfSpec)

/-- 'laws.FnExactDoesFit', WHERE WHAT IT READS IS OF BULK AT MOST 1048576: true; the input reads as it did. -/
def fnExactDoesFitUptoRow : OpenClaim := { program := "ytdadcbcanjmoeaa", sum := "dc78634387cc9982c19c2ff0e47e2ffede9198402099a268aa2f17fde6fd637b", func := "loop.example/g01017/laws.FnExactDoesFit", spec := "fnExactDoesFit", apart := false, narrowed := true }
def FnExactDoesFitUptoSaid : Prop := fnExactDoesFitUptoRow.holds Try.pinned (OpenSpec.upto fnExactDoesFitSpec)

/-- 'laws.FnExactAreArrivals', WHERE WHAT IT READS IS OF BULK AT MOST 1048576: true; the input reads as it did. -/
def fnExactAreArrivalsUptoRow : OpenClaim := { program := "ytdadcbcanjmoeaa", sum := "dc78634387cc9982c19c2ff0e47e2ffede9198402099a268aa2f17fde6fd637b", func := "loop.example/g01017/laws.FnExactAreArrivals", spec := "fnExactAreArrivals", unfollowed := true, recurses := true, apart := false, narrowed := true }
def FnExactAreArrivalsUptoSaid : Prop := fnExactAreArrivalsUptoRow.holds Try.pinned (OpenSpec.upto fnExactAreArrivalsSpec)

/-- 'laws.FnExactTicksThatFit', WHERE WHAT IT READS IS OF BULK AT MOST 1048576: true; the input reads as it did. -/
def fnExactTicksThatFitUptoRow : OpenClaim := { program := "ytdadcbcanjmoeaa", sum := "dc78634387cc9982c19c2ff0e47e2ffede9198402099a268aa2f17fde6fd637b", func := "loop.example/g01017/laws.FnExactTicksThatFit", spec := "fnExactTicksThatFit", apart := false, narrowed := true }
def FnExactTicksThatFitUptoSaid : Prop := fnExactTicksThatFitUptoRow.holds Try.pinned (OpenSpec.upto fnExactTicksThatFitSpec)

/-- 'laws.FnExactVotesFor', WHERE WHAT IT READS IS OF BULK AT MOST 1048576: true; the input reads as it did. -/
def fnExactVotesForUptoRow : OpenClaim := { program := "ytdadcbcanjmoeaa", sum := "dc78634387cc9982c19c2ff0e47e2ffede9198402099a268aa2f17fde6fd637b", func := "loop.example/g01017/laws.FnExactVotesFor", spec := "fnExactVotesFor", unfollowed := true, recurses := true, apart := false, narrowed := true }
def FnExactVotesForUptoSaid : Prop := fnExactVotesForUptoRow.holds Try.pinned (OpenSpec.upto fnExactVotesForSpec)

/-- 'laws.FnExactWithoutVoters', WHERE WHAT IT READS IS OF BULK AT MOST 1048576: true; the input reads as it did. -/
def fnExactWithoutVotersUptoRow : OpenClaim := { program := "ytdadcbcanjmoeaa", sum := "dc78634387cc9982c19c2ff0e47e2ffede9198402099a268aa2f17fde6fd637b", func := "loop.example/g01017/laws.FnExactWithoutVoters", spec := "fnExactWithoutVoters", unfollowed := true, recurses := true, apart := false, narrowed := true }
def FnExactWithoutVotersUptoSaid : Prop := fnExactWithoutVotersUptoRow.holds Try.pinned (OpenSpec.upto fnExactWithoutVotersSpec)

/-- 'laws.FnExactVotersFor', WHERE WHAT IT READS IS OF BULK AT MOST 1048576: true; the input reads as it did. -/
def fnExactVotersForUptoRow : OpenClaim := { program := "ytdadcbcanjmoeaa", sum := "dc78634387cc9982c19c2ff0e47e2ffede9198402099a268aa2f17fde6fd637b", func := "loop.example/g01017/laws.FnExactVotersFor", spec := "fnExactVotersFor", unfollowed := true, recurses := true, apart := false, narrowed := true }
def FnExactVotersForUptoSaid : Prop := fnExactVotersForUptoRow.holds Try.pinned (OpenSpec.upto fnExactVotersForSpec)

/-- 'laws.FnExactMostVotesAt', WHERE WHAT IT READS IS OF BULK AT MOST 1048576: true; the input reads as it did. -/
def fnExactMostVotesAtUptoRow : OpenClaim := { program := "ytdadcbcanjmoeaa", sum := "dc78634387cc9982c19c2ff0e47e2ffede9198402099a268aa2f17fde6fd637b", func := "loop.example/g01017/laws.FnExactMostVotesAt", spec := "fnExactMostVotesAt", unfollowed := true, recurses := true, apart := false, narrowed := true }
def FnExactMostVotesAtUptoSaid : Prop := fnExactMostVotesAtUptoRow.holds Try.pinned (OpenSpec.upto fnExactMostVotesAtSpec)

/-- 'laws.FnExactHolderOf', WHERE WHAT IT READS IS OF BULK AT MOST 1048576: true; the input reads as it did. -/
def fnExactHolderOfUptoRow : OpenClaim := { program := "ytdadcbcanjmoeaa", sum := "dc78634387cc9982c19c2ff0e47e2ffede9198402099a268aa2f17fde6fd637b", func := "loop.example/g01017/laws.FnExactHolderOf", spec := "fnExactHolderOf", unfollowed := true, recurses := true, apart := false, narrowed := true }
def FnExactHolderOfUptoSaid : Prop := fnExactHolderOfUptoRow.holds Try.pinned (OpenSpec.upto fnExactHolderOfSpec)

/-- 'laws.FnExactSplitCube', WHERE WHAT IT READS IS OF BULK AT MOST 1048576: true; the input reads as it did. -/
def fnExactSplitCubeUptoRow : OpenClaim := { program := "ytdadcbcanjmoeaa", sum := "dc78634387cc9982c19c2ff0e47e2ffede9198402099a268aa2f17fde6fd637b", func := "loop.example/g01017/laws.FnExactSplitCube", spec := "fnExactSplitCube", apart := false, narrowed := true }
def FnExactSplitCubeUptoSaid : Prop := fnExactSplitCubeUptoRow.holds Try.pinned (OpenSpec.upto fnExactSplitCubeSpec)

/-- 'laws.FnVotes', WHERE WHAT IT READS IS OF BULK AT MOST 1048576: true; the input reads as it did. -/
def fnVotesUptoRow : OpenClaim := { program := "ytdadcbcanjmoeaa", sum := "dc78634387cc9982c19c2ff0e47e2ffede9198402099a268aa2f17fde6fd637b", func := "loop.example/g01017/laws.FnVotes", spec := "fnVotes", unfollowed := true, recurses := true, apart := false, narrowed := true }
def FnVotesUptoSaid : Prop := fnVotesUptoRow.holds Try.pinned (OpenSpec.upto fnVotesSpec)

end Rows
end Go.Proofs.Ytdadcbcanjmoeaa
