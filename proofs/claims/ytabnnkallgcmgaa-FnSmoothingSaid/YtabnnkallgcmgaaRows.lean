/-
  No cell of these rows narrows 'for every input' (looked for: loops, veiled, ifaces, maps, wideKeys, modest, calm, conditions, laid).
  DERIVED. THE GIVEN ROWS OF THIS SEAT. 6 by the template 'for every input the law returns true; each argument reads behind the call as it read before'; 0 by the template 'total and deterministic' (their statements: YtabnnkallgcmgaaTotals.lean).
  GIVEN WITH THE SEED: the statements are not yours to turn. If you find one false, say at which input.
  Laid BY PROGRAM, IN A SANDBOX (cutbox-rows.mjs): the forced cells as the released guide's own fill.sh prints them over the translation a3da8483e395e4db… (all of the seat's roots in one cut). By AI agents, Wed Nov 11 2026. No macro, syntax, notation, axiom, sorry.
-/
import Derived.Test.YtabnnkallgcmgaaChecked
import GoSem.Claim
import GoSem.ClaimJoined
import GoSem.ClaimMapViews
import Derived.JoinedTies
import Derived.KernelRfl
namespace Go.Proofs.Ytabnnkallgcmgaa
/- THE CELL 'sum', in the pinned program and in every row, IS THE sha256 OF THE DUMP (.gsa) THAT YtabnnkallgcmgaaProg.lean LOADS. Nothing in Lean hashes anything: it is a label: what it is worth is what the hold of that sum in a sandbox is worth. -/
noncomputable def Try.pinned : Pinned := { name := "ytabnnkallgcmgaa", sum := "a3da8483e395e4db1b473261b15e5e04f0d2e1f3015161081cff91650007e149", checked := Try.checked }
namespace Rows
def none {H : Type} : Left H := { results := [], args := [] }

/-- 'laws.FnExactMovingSums': WHATEVER THE INPUT: true; the input reads as it did. -/
def fnExactMovingSumsSpec : ChangeSpec := { name := "fnExactMovingSums", fn := fun _ => fun
  | [d1, d2] => { results := [.lit (.bool true)], args := [d1, d2] }
  | _ => none }
def fnExactMovingSumsRow : OpenClaim := { program := "ytabnnkallgcmgaa", sum := "a3da8483e395e4db1b473261b15e5e04f0d2e1f3015161081cff91650007e149", func := "loop.example/g01017/laws.FnExactMovingSums", spec := "fnExactMovingSums", unfollowed := true, recurses := true, apart := false }
def FnExactMovingSumsSaid : Prop := fnExactMovingSumsRow.holds Try.pinned (OpenSpec.ofChange fnExactMovingSumsSpec)

/-- ITS FALSE NEIGHBOUR: 'it returns false'. Refute it at one input. -/
def fnExactMovingSumsWrong : ChangeSpec := { name := "fnExactMovingSums", fn := fun _ => fun
  | [d1, d2] => { results := [.lit (.bool false)], args := [d1, d2] }
  | _ => none }
def FnExactMovingSumsWrongFalsely : Prop := fnExactMovingSumsRow.holds Try.pinned (OpenSpec.ofChange fnExactMovingSumsWrong)

/-- 'laws.FnExactWeighted': WHATEVER THE INPUT: true; the input reads as it did. -/
def fnExactWeightedSpec : ChangeSpec := { name := "fnExactWeighted", fn := fun _ => fun
  | [d1, d2] => { results := [.lit (.bool true)], args := [d1, d2] }
  | _ => none }
def fnExactWeightedRow : OpenClaim := { program := "ytabnnkallgcmgaa", sum := "a3da8483e395e4db1b473261b15e5e04f0d2e1f3015161081cff91650007e149", func := "loop.example/g01017/laws.FnExactWeighted", spec := "fnExactWeighted", unfollowed := true, recurses := true, apart := false }
def FnExactWeightedSaid : Prop := fnExactWeightedRow.holds Try.pinned (OpenSpec.ofChange fnExactWeightedSpec)

/-- ITS FALSE NEIGHBOUR: 'it returns false'. Refute it at one input. -/
def fnExactWeightedWrong : ChangeSpec := { name := "fnExactWeighted", fn := fun _ => fun
  | [d1, d2] => { results := [.lit (.bool false)], args := [d1, d2] }
  | _ => none }
def FnExactWeightedWrongFalsely : Prop := fnExactWeightedRow.holds Try.pinned (OpenSpec.ofChange fnExactWeightedWrong)

/-- 'laws.FnExactSmoothed': WHATEVER THE INPUT: true; the input reads as it did. -/
def fnExactSmoothedSpec : ChangeSpec := { name := "fnExactSmoothed", fn := fun _ => fun
  | [d1, d2] => { results := [.lit (.bool true)], args := [d1, d2] }
  | _ => none }
def fnExactSmoothedRow : OpenClaim := { program := "ytabnnkallgcmgaa", sum := "a3da8483e395e4db1b473261b15e5e04f0d2e1f3015161081cff91650007e149", func := "loop.example/g01017/laws.FnExactSmoothed", spec := "fnExactSmoothed", unfollowed := true, recurses := true, apart := false }
def FnExactSmoothedSaid : Prop := fnExactSmoothedRow.holds Try.pinned (OpenSpec.ofChange fnExactSmoothedSpec)

/-- ITS FALSE NEIGHBOUR: 'it returns false'. Refute it at one input. -/
def fnExactSmoothedWrong : ChangeSpec := { name := "fnExactSmoothed", fn := fun _ => fun
  | [d1, d2] => { results := [.lit (.bool false)], args := [d1, d2] }
  | _ => none }
def FnExactSmoothedWrongFalsely : Prop := fnExactSmoothedRow.holds Try.pinned (OpenSpec.ofChange fnExactSmoothedWrong)

/-- 'laws.FnExactMovingMedians': WHATEVER THE INPUT: true; the input reads as it did. -/
def fnExactMovingMediansSpec : ChangeSpec := { name := "fnExactMovingMedians", fn := fun _ => fun
  | [d1, d2] => { results := [.lit (.bool true)], args := [d1, d2] }
  | _ => none }
def fnExactMovingMediansRow : OpenClaim := { program := "ytabnnkallgcmgaa", sum := "a3da8483e395e4db1b473261b15e5e04f0d2e1f3015161081cff91650007e149", func := "loop.example/g01017/laws.FnExactMovingMedians", spec := "fnExactMovingMedians", unfollowed := true, recurses := true, apart := false }
def FnExactMovingMediansSaid : Prop := fnExactMovingMediansRow.holds Try.pinned (OpenSpec.ofChange fnExactMovingMediansSpec)

/-- ITS FALSE NEIGHBOUR: 'it returns false'. Refute it at one input. -/
def fnExactMovingMediansWrong : ChangeSpec := { name := "fnExactMovingMedians", fn := fun _ => fun
  | [d1, d2] => { results := [.lit (.bool false)], args := [d1, d2] }
  | _ => none }
def FnExactMovingMediansWrongFalsely : Prop := fnExactMovingMediansRow.holds Try.pinned (OpenSpec.ofChange fnExactMovingMediansWrong)

/-- 'laws.FnFilters': WHATEVER THE INPUT: true; the input reads as it did. -/
def fnFiltersSpec : ChangeSpec := { name := "fnFilters", fn := fun _ => fun
  | [d] => { results := [.lit (.bool true)], args := [d] }
  | _ => none }
def fnFiltersRow : OpenClaim := { program := "ytabnnkallgcmgaa", sum := "a3da8483e395e4db1b473261b15e5e04f0d2e1f3015161081cff91650007e149", func := "loop.example/g01017/laws.FnFilters", spec := "fnFilters", unfollowed := true, recurses := true, apart := false }
def FnFiltersSaid : Prop := fnFiltersRow.holds Try.pinned (OpenSpec.ofChange fnFiltersSpec)

/-- ITS FALSE NEIGHBOUR: 'it returns false'. Refute it at one input. -/
def fnFiltersWrong : ChangeSpec := { name := "fnFilters", fn := fun _ => fun
  | [d] => { results := [.lit (.bool false)], args := [d] }
  | _ => none }
def FnFiltersWrongFalsely : Prop := fnFiltersRow.holds Try.pinned (OpenSpec.ofChange fnFiltersWrong)

/-- 'laws.FnSmoothing': WHATEVER THE INPUT: true; the input reads as it did. -/
def fnSmoothingSpec : ChangeSpec := { name := "fnSmoothing", fn := fun _ => fun
  | [d] => { results := [.lit (.bool true)], args := [d] }
  | _ => none }
def fnSmoothingRow : OpenClaim := { program := "ytabnnkallgcmgaa", sum := "a3da8483e395e4db1b473261b15e5e04f0d2e1f3015161081cff91650007e149", func := "loop.example/g01017/laws.FnSmoothing", spec := "fnSmoothing", unfollowed := true, recurses := true, apart := false }
def FnSmoothingSaid : Prop := fnSmoothingRow.holds Try.pinned (OpenSpec.ofChange fnSmoothingSpec)

/-- ITS FALSE NEIGHBOUR: 'it returns false'. Refute it at one input. -/
def fnSmoothingWrong : ChangeSpec := { name := "fnSmoothing", fn := fun _ => fun
  | [d] => { results := [.lit (.bool false)], args := [d] }
  | _ => none }
def FnSmoothingWrongFalsely : Prop := fnSmoothingRow.holds Try.pinned (OpenSpec.ofChange fnSmoothingWrong)

/- THE SECOND FORM. 'bulk': how many values and letters a reading holds, each counted each time it is reached (what is shared counts as often as it is met; a slice's spare places count too). A statement '..UptoSaid' is the law's where the arguments, and the package variables that the reading takes, are together of bulk at most 1048576: NARROWER than '..Said'. Prove '..Said' where nothing that the law and all that it calls make is longer than what came in: it says more and counts as full. Else prove '..UptoSaid'. A law counts once. -/
mutual
def uptoBulk {H : Type} : DataW H → Nat
  | .lit (.string bytes) => bytes.length + 1
  | .lit _ => 1
  | .nil => 1
  | .ptr d => uptoBulk d + 1
  | .slice elems spare => uptoBulkAll elems + uptoBulkAll spare + 1
  | .agg parts => uptoBulkAll parts + 1
  | .iface _ d => uptoBulk d + 1
  | .map entries => uptoBulkEntries entries + 1
  | .held _ => 1
def uptoBulkAll {H : Type} : List (DataW H) → Nat
  | [] => 0
  | d :: r => uptoBulk d + uptoBulkAll r
def uptoBulkEntries {H : Type} : List (Lit × DataW H) → Nat
  | [] => 0
  | x :: r => uptoBulkEntry x + uptoBulkEntries r
def uptoBulkEntry {H : Type} : Lit × DataW H → Nat
  | (.string bytes, d) => bytes.length + uptoBulk d + 1
  | (_, d) => uptoBulk d + 1
 end
def uptoSmall : (H : Type) → List (DataW H) → Bool := fun _ ds => decide (uptoBulkAll ds ≤ 1048576)
def OpenSpec.upto (s : _root_.Go.ChangeSpec) : _root_.Go.OpenSpec := { _root_.Go.OpenSpec.ofChange s with cond := some uptoSmall }

/-- 'laws.FnExactMovingSums', WHERE WHAT IT READS IS OF BULK AT MOST 1048576: true; the input reads as it did. -/
def fnExactMovingSumsUptoRow : OpenClaim := { program := "ytabnnkallgcmgaa", sum := "a3da8483e395e4db1b473261b15e5e04f0d2e1f3015161081cff91650007e149", func := "loop.example/g01017/laws.FnExactMovingSums", spec := "fnExactMovingSums", unfollowed := true, recurses := true, apart := false, narrowed := true }
def FnExactMovingSumsUptoSaid : Prop := fnExactMovingSumsUptoRow.holds Try.pinned (OpenSpec.upto fnExactMovingSumsSpec)

/-- 'laws.FnExactWeighted', WHERE WHAT IT READS IS OF BULK AT MOST 1048576: true; the input reads as it did. -/
def fnExactWeightedUptoRow : OpenClaim := { program := "ytabnnkallgcmgaa", sum := "a3da8483e395e4db1b473261b15e5e04f0d2e1f3015161081cff91650007e149", func := "loop.example/g01017/laws.FnExactWeighted", spec := "fnExactWeighted", unfollowed := true, recurses := true, apart := false, narrowed := true }
def FnExactWeightedUptoSaid : Prop := fnExactWeightedUptoRow.holds Try.pinned (OpenSpec.upto fnExactWeightedSpec)

/-- 'laws.FnExactSmoothed', WHERE WHAT IT READS IS OF BULK AT MOST 1048576: true; the input reads as it did. -/
def fnExactSmoothedUptoRow : OpenClaim := { program := "ytabnnkallgcmgaa", sum := "a3da8483e395e4db1b473261b15e5e04f0d2e1f3015161081cff91650007e149", func := "loop.example/g01017/laws.FnExactSmoothed", spec := "fnExactSmoothed", unfollowed := true, recurses := true, apart := false, narrowed := true }
def FnExactSmoothedUptoSaid : Prop := fnExactSmoothedUptoRow.holds Try.pinned (OpenSpec.upto fnExactSmoothedSpec)

/-- 'laws.FnExactMovingMedians', WHERE WHAT IT READS IS OF BULK AT MOST 1048576: true; the input reads as it did. -/
def fnExactMovingMediansUptoRow : OpenClaim := { program := "ytabnnkallgcmgaa", sum := "a3da8483e395e4db1b473261b15e5e04f0d2e1f3015161081cff91650007e149", func := "loop.example/g01017/laws.FnExactMovingMedians", spec := "fnExactMovingMedians", unfollowed := true, recurses := true, apart := false, narrowed := true }
def FnExactMovingMediansUptoSaid : Prop := fnExactMovingMediansUptoRow.holds Try.pinned (OpenSpec.upto fnExactMovingMediansSpec)

/-- 'laws.FnFilters', WHERE WHAT IT READS IS OF BULK AT MOST 1048576: true; the input reads as it did. -/
def fnFiltersUptoRow : OpenClaim := { program := "ytabnnkallgcmgaa", sum := "a3da8483e395e4db1b473261b15e5e04f0d2e1f3015161081cff91650007e149", func := "loop.example/g01017/laws.FnFilters", spec := "fnFilters", unfollowed := true, recurses := true, apart := false, narrowed := true }
def FnFiltersUptoSaid : Prop := fnFiltersUptoRow.holds Try.pinned (OpenSpec.upto fnFiltersSpec)

/-- 'laws.FnSmoothing', WHERE WHAT IT READS IS OF BULK AT MOST 1048576: true; the input reads as it did. -/
def fnSmoothingUptoRow : OpenClaim := { program := "ytabnnkallgcmgaa", sum := "a3da8483e395e4db1b473261b15e5e04f0d2e1f3015161081cff91650007e149", func := "loop.example/g01017/laws.FnSmoothing", spec := "fnSmoothing", unfollowed := true, recurses := true, apart := false, narrowed := true }
def FnSmoothingUptoSaid : Prop := fnSmoothingUptoRow.holds Try.pinned (OpenSpec.upto fnSmoothingSpec)

end Rows
end Go.Proofs.Ytabnnkallgcmgaa
