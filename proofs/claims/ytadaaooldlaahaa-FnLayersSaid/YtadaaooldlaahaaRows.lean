/-
  No cell of these rows narrows 'for every input' (looked for: loops, veiled, ifaces, maps, wideKeys, modest, calm, conditions, laid).
  DERIVED. THE GIVEN ROWS OF THIS SEAT. 11 by the template 'for every input the law returns true; each argument reads behind the call as it read before'; 0 by the template 'total and deterministic' (their statements: YtadaaooldlaahaaTotals.lean).
  GIVEN WITH THE SEED: the statements are not yours to turn. If you find one false, say at which input.
  Laid BY PROGRAM, IN A SANDBOX (cutbox-rows.mjs): the forced cells as the released guide's own fill.sh prints them over the translation 21e9f92222435c1d… (all of the seat's roots in one cut). By AI agents, Wed Nov 11 2026. No macro, syntax, notation, axiom, sorry.
-/
import Derived.Test.YtadaaooldlaahaaChecked
import GoSem.Claim
import GoSem.ClaimJoined
import GoSem.ClaimMapViews
import Derived.JoinedTies
import Derived.KernelRfl
namespace Go.Proofs.Ytadaaooldlaahaa
/- THE CELL 'sum', in the pinned program and in every row, IS THE sha256 OF THE DUMP (.gsa) THAT YtadaaooldlaahaaProg.lean LOADS. Nothing in Lean hashes anything: it is a label: what it is worth is what the hold of that sum in a sandbox is worth. -/
noncomputable def Try.pinned : Pinned := { name := "ytadaaooldlaahaa", sum := "21e9f92222435c1d5ab18be7a198149def28e9c6de10a769f57076ef928d49b5", checked := Try.checked }
namespace Rows
def none {H : Type} : Left H := { results := [], args := [] }

/-- 'laws.FnExactIsModel': WHATEVER THE INPUT: true; the input reads as it did. -/
def fnExactIsModelSpec : ChangeSpec := { name := "fnExactIsModel", fn := fun _ => fun
  | [d] => { results := [.lit (.bool true)], args := [d] }
  | _ => none }
def fnExactIsModelRow : OpenClaim := { program := "ytadaaooldlaahaa", sum := "21e9f92222435c1d5ab18be7a198149def28e9c6de10a769f57076ef928d49b5", func := "loop.example/g01017/laws.FnExactIsModel", spec := "fnExactIsModel", unfollowed := true, recurses := true, apart := false }
def FnExactIsModelSaid : Prop := fnExactIsModelRow.holds Try.pinned (OpenSpec.ofChange fnExactIsModelSpec)

/-- ITS FALSE NEIGHBOUR: 'it returns false'. Refute it at one input. -/
def fnExactIsModelWrong : ChangeSpec := { name := "fnExactIsModel", fn := fun _ => fun
  | [d] => { results := [.lit (.bool false)], args := [d] }
  | _ => none }
def FnExactIsModelWrongFalsely : Prop := fnExactIsModelRow.holds Try.pinned (OpenSpec.ofChange fnExactIsModelWrong)

/-- 'laws.FnExactModelDepth': WHATEVER THE INPUT: true; the input reads as it did. -/
def fnExactModelDepthSpec : ChangeSpec := { name := "fnExactModelDepth", fn := fun _ => fun
  | [d] => { results := [.lit (.bool true)], args := [d] }
  | _ => none }
def fnExactModelDepthRow : OpenClaim := { program := "ytadaaooldlaahaa", sum := "21e9f92222435c1d5ab18be7a198149def28e9c6de10a769f57076ef928d49b5", func := "loop.example/g01017/laws.FnExactModelDepth", spec := "fnExactModelDepth", unfollowed := true, recurses := true, apart := false }
def FnExactModelDepthSaid : Prop := fnExactModelDepthRow.holds Try.pinned (OpenSpec.ofChange fnExactModelDepthSpec)

/-- ITS FALSE NEIGHBOUR: 'it returns false'. Refute it at one input. -/
def fnExactModelDepthWrong : ChangeSpec := { name := "fnExactModelDepth", fn := fun _ => fun
  | [d] => { results := [.lit (.bool false)], args := [d] }
  | _ => none }
def FnExactModelDepthWrongFalsely : Prop := fnExactModelDepthRow.holds Try.pinned (OpenSpec.ofChange fnExactModelDepthWrong)

/-- 'laws.FnExactTimeTo': WHATEVER THE INPUT: true; the input reads as it did. -/
def fnExactTimeToSpec : ChangeSpec := { name := "fnExactTimeTo", fn := fun _ => fun
  | [d1, d2] => { results := [.lit (.bool true)], args := [d1, d2] }
  | _ => none }
def fnExactTimeToRow : OpenClaim := { program := "ytadaaooldlaahaa", sum := "21e9f92222435c1d5ab18be7a198149def28e9c6de10a769f57076ef928d49b5", func := "loop.example/g01017/laws.FnExactTimeTo", spec := "fnExactTimeTo", unfollowed := true, recurses := true, apart := false }
def FnExactTimeToSaid : Prop := fnExactTimeToRow.holds Try.pinned (OpenSpec.ofChange fnExactTimeToSpec)

/-- ITS FALSE NEIGHBOUR: 'it returns false'. Refute it at one input. -/
def fnExactTimeToWrong : ChangeSpec := { name := "fnExactTimeTo", fn := fun _ => fun
  | [d1, d2] => { results := [.lit (.bool false)], args := [d1, d2] }
  | _ => none }
def FnExactTimeToWrongFalsely : Prop := fnExactTimeToRow.holds Try.pinned (OpenSpec.ofChange fnExactTimeToWrong)

/-- 'laws.FnExactMeanSpeedTo': WHATEVER THE INPUT: true; the input reads as it did. -/
def fnExactMeanSpeedToSpec : ChangeSpec := { name := "fnExactMeanSpeedTo", fn := fun _ => fun
  | [d1, d2] => { results := [.lit (.bool true)], args := [d1, d2] }
  | _ => none }
def fnExactMeanSpeedToRow : OpenClaim := { program := "ytadaaooldlaahaa", sum := "21e9f92222435c1d5ab18be7a198149def28e9c6de10a769f57076ef928d49b5", func := "loop.example/g01017/laws.FnExactMeanSpeedTo", spec := "fnExactMeanSpeedTo", unfollowed := true, recurses := true, apart := false }
def FnExactMeanSpeedToSaid : Prop := fnExactMeanSpeedToRow.holds Try.pinned (OpenSpec.ofChange fnExactMeanSpeedToSpec)

/-- ITS FALSE NEIGHBOUR: 'it returns false'. Refute it at one input. -/
def fnExactMeanSpeedToWrong : ChangeSpec := { name := "fnExactMeanSpeedTo", fn := fun _ => fun
  | [d1, d2] => { results := [.lit (.bool false)], args := [d1, d2] }
  | _ => none }
def FnExactMeanSpeedToWrongFalsely : Prop := fnExactMeanSpeedToRow.holds Try.pinned (OpenSpec.ofChange fnExactMeanSpeedToWrong)

/-- 'laws.FnExactTimeVia': WHATEVER THE INPUT: true; the input reads as it did. -/
def fnExactTimeViaSpec : ChangeSpec := { name := "fnExactTimeVia", fn := fun _ => fun
  | [d1, d2, d3] => { results := [.lit (.bool true)], args := [d1, d2, d3] }
  | _ => none }
def fnExactTimeViaRow : OpenClaim := { program := "ytadaaooldlaahaa", sum := "21e9f92222435c1d5ab18be7a198149def28e9c6de10a769f57076ef928d49b5", func := "loop.example/g01017/laws.FnExactTimeVia", spec := "fnExactTimeVia", unfollowed := true, recurses := true, apart := false }
def FnExactTimeViaSaid : Prop := fnExactTimeViaRow.holds Try.pinned (OpenSpec.ofChange fnExactTimeViaSpec)

/-- ITS FALSE NEIGHBOUR: 'it returns false'. Refute it at one input. -/
def fnExactTimeViaWrong : ChangeSpec := { name := "fnExactTimeVia", fn := fun _ => fun
  | [d1, d2, d3] => { results := [.lit (.bool false)], args := [d1, d2, d3] }
  | _ => none }
def FnExactTimeViaWrongFalsely : Prop := fnExactTimeViaRow.holds Try.pinned (OpenSpec.ofChange fnExactTimeViaWrong)

/-- 'laws.FnExactFirstVia': WHATEVER THE INPUT: true; the input reads as it did. -/
def fnExactFirstViaSpec : ChangeSpec := { name := "fnExactFirstVia", fn := fun _ => fun
  | [d1, d2] => { results := [.lit (.bool true)], args := [d1, d2] }
  | _ => none }
def fnExactFirstViaRow : OpenClaim := { program := "ytadaaooldlaahaa", sum := "21e9f92222435c1d5ab18be7a198149def28e9c6de10a769f57076ef928d49b5", func := "loop.example/g01017/laws.FnExactFirstVia", spec := "fnExactFirstVia", unfollowed := true, recurses := true, apart := false }
def FnExactFirstViaSaid : Prop := fnExactFirstViaRow.holds Try.pinned (OpenSpec.ofChange fnExactFirstViaSpec)

/-- ITS FALSE NEIGHBOUR: 'it returns false'. Refute it at one input. -/
def fnExactFirstViaWrong : ChangeSpec := { name := "fnExactFirstVia", fn := fun _ => fun
  | [d1, d2] => { results := [.lit (.bool false)], args := [d1, d2] }
  | _ => none }
def FnExactFirstViaWrongFalsely : Prop := fnExactFirstViaRow.holds Try.pinned (OpenSpec.ofChange fnExactFirstViaWrong)

/-- 'laws.FnExactFirstTime': WHATEVER THE INPUT: true; the input reads as it did. -/
def fnExactFirstTimeSpec : ChangeSpec := { name := "fnExactFirstTime", fn := fun _ => fun
  | [d1, d2] => { results := [.lit (.bool true)], args := [d1, d2] }
  | _ => none }
def fnExactFirstTimeRow : OpenClaim := { program := "ytadaaooldlaahaa", sum := "21e9f92222435c1d5ab18be7a198149def28e9c6de10a769f57076ef928d49b5", func := "loop.example/g01017/laws.FnExactFirstTime", spec := "fnExactFirstTime", unfollowed := true, recurses := true, apart := false }
def FnExactFirstTimeSaid : Prop := fnExactFirstTimeRow.holds Try.pinned (OpenSpec.ofChange fnExactFirstTimeSpec)

/-- ITS FALSE NEIGHBOUR: 'it returns false'. Refute it at one input. -/
def fnExactFirstTimeWrong : ChangeSpec := { name := "fnExactFirstTime", fn := fun _ => fun
  | [d1, d2] => { results := [.lit (.bool false)], args := [d1, d2] }
  | _ => none }
def FnExactFirstTimeWrongFalsely : Prop := fnExactFirstTimeRow.holds Try.pinned (OpenSpec.ofChange fnExactFirstTimeWrong)

/-- 'laws.FnExactOvertakesAt': WHATEVER THE INPUT: true; the input reads as it did. -/
def fnExactOvertakesAtSpec : ChangeSpec := { name := "fnExactOvertakesAt", fn := fun _ => fun
  | [d1, d2] => { results := [.lit (.bool true)], args := [d1, d2] }
  | _ => none }
def fnExactOvertakesAtRow : OpenClaim := { program := "ytadaaooldlaahaa", sum := "21e9f92222435c1d5ab18be7a198149def28e9c6de10a769f57076ef928d49b5", func := "loop.example/g01017/laws.FnExactOvertakesAt", spec := "fnExactOvertakesAt", unfollowed := true, recurses := true, apart := false }
def FnExactOvertakesAtSaid : Prop := fnExactOvertakesAtRow.holds Try.pinned (OpenSpec.ofChange fnExactOvertakesAtSpec)

/-- ITS FALSE NEIGHBOUR: 'it returns false'. Refute it at one input. -/
def fnExactOvertakesAtWrong : ChangeSpec := { name := "fnExactOvertakesAt", fn := fun _ => fun
  | [d1, d2] => { results := [.lit (.bool false)], args := [d1, d2] }
  | _ => none }
def FnExactOvertakesAtWrongFalsely : Prop := fnExactOvertakesAtRow.holds Try.pinned (OpenSpec.ofChange fnExactOvertakesAtWrong)

/-- 'laws.FnExactReachIn': WHATEVER THE INPUT: true; the input reads as it did. -/
def fnExactReachInSpec : ChangeSpec := { name := "fnExactReachIn", fn := fun _ => fun
  | [d1, d2] => { results := [.lit (.bool true)], args := [d1, d2] }
  | _ => none }
def fnExactReachInRow : OpenClaim := { program := "ytadaaooldlaahaa", sum := "21e9f92222435c1d5ab18be7a198149def28e9c6de10a769f57076ef928d49b5", func := "loop.example/g01017/laws.FnExactReachIn", spec := "fnExactReachIn", unfollowed := true, recurses := true, apart := false }
def FnExactReachInSaid : Prop := fnExactReachInRow.holds Try.pinned (OpenSpec.ofChange fnExactReachInSpec)

/-- ITS FALSE NEIGHBOUR: 'it returns false'. Refute it at one input. -/
def fnExactReachInWrong : ChangeSpec := { name := "fnExactReachIn", fn := fun _ => fun
  | [d1, d2] => { results := [.lit (.bool false)], args := [d1, d2] }
  | _ => none }
def FnExactReachInWrongFalsely : Prop := fnExactReachInRow.holds Try.pinned (OpenSpec.ofChange fnExactReachInWrong)

/-- 'laws.FnTravel': WHATEVER THE INPUT: true; the input reads as it did. -/
def fnTravelSpec : ChangeSpec := { name := "fnTravel", fn := fun _ => fun
  | [d] => { results := [.lit (.bool true)], args := [d] }
  | _ => none }
def fnTravelRow : OpenClaim := { program := "ytadaaooldlaahaa", sum := "21e9f92222435c1d5ab18be7a198149def28e9c6de10a769f57076ef928d49b5", func := "loop.example/g01017/laws.FnTravel", spec := "fnTravel", unfollowed := true, recurses := true, apart := false }
def FnTravelSaid : Prop := fnTravelRow.holds Try.pinned (OpenSpec.ofChange fnTravelSpec)

/-- ITS FALSE NEIGHBOUR: 'it returns false'. Refute it at one input. -/
def fnTravelWrong : ChangeSpec := { name := "fnTravel", fn := fun _ => fun
  | [d] => { results := [.lit (.bool false)], args := [d] }
  | _ => none }
def FnTravelWrongFalsely : Prop := fnTravelRow.holds Try.pinned (OpenSpec.ofChange fnTravelWrong)

/-- 'laws.FnLayers': WHATEVER THE INPUT: true; the input reads as it did. -/
def fnLayersSpec : ChangeSpec := { name := "fnLayers", fn := fun _ => fun
  | [d] => { results := [.lit (.bool true)], args := [d] }
  | _ => none }
def fnLayersRow : OpenClaim := { program := "ytadaaooldlaahaa", sum := "21e9f92222435c1d5ab18be7a198149def28e9c6de10a769f57076ef928d49b5", func := "loop.example/g01017/laws.FnLayers", spec := "fnLayers", unfollowed := true, recurses := true, apart := false }
def FnLayersSaid : Prop := fnLayersRow.holds Try.pinned (OpenSpec.ofChange fnLayersSpec)

/-- ITS FALSE NEIGHBOUR: 'it returns false'. Refute it at one input. -/
def fnLayersWrong : ChangeSpec := { name := "fnLayers", fn := fun _ => fun
  | [d] => { results := [.lit (.bool false)], args := [d] }
  | _ => none }
def FnLayersWrongFalsely : Prop := fnLayersRow.holds Try.pinned (OpenSpec.ofChange fnLayersWrong)

/- THE SECOND FORM. 'bulk': how many values and letters a reading holds, each counted each time it is reached (what is shared counts as often as it is met; a slice's spare places count too). A statement '..UptoSaid' is the law's where the arguments, and the package variables that the reading takes, are together of bulk at most 1048576: NARROWER than '..Said'. Prove '..Said' where nothing that the law and all that it calls make is longer than what came in: it says more and counts as full. Else prove '..UptoSaid'. A law counts once. -/
mutual
def uptoBulk {H : Type} : DataW H → Nat
  | .lit (.string bytes) => bytes.length + 1
  | .lit _ => 1
  | .nil => 1
  | .ptr d => uptoBulk d + 1
  | .slice elems spare => uptoBulkAll elems + uptoBulkAll spare + 1
  | .agg parts => uptoBulkAll parts + 1
  | .iface _ d => uptoBulk d + 1
  | .map entries => uptoBulkEntries entries + 1
  | .held _ => 1
def uptoBulkAll {H : Type} : List (DataW H) → Nat
  | [] => 0
  | d :: r => uptoBulk d + uptoBulkAll r
def uptoBulkEntries {H : Type} : List (Lit × DataW H) → Nat
  | [] => 0
  | x :: r => uptoBulkEntry x + uptoBulkEntries r
def uptoBulkEntry {H : Type} : Lit × DataW H → Nat
  | (.string bytes, d) => bytes.length + uptoBulk d + 1
  | (_, d) => uptoBulk d + 1
 end
def uptoSmall : (H : Type) → List (DataW H) → Bool := fun _ ds => decide (uptoBulkAll ds ≤ 1048576)
def OpenSpec.upto (s : _root_.Go.ChangeSpec) : _root_.Go.OpenSpec := { _root_.Go.OpenSpec.ofChange s with cond := some uptoSmall }

/-- 'laws.FnExactIsModel', WHERE WHAT IT READS IS OF BULK AT MOST 1048576: true; the input reads as it did. -/
def fnExactIsModelUptoRow : OpenClaim := { program := "ytadaaooldlaahaa", sum := "21e9f92222435c1d5ab18be7a198149def28e9c6de10a769f57076ef928d49b5", func := "loop.example/g01017/laws.FnExactIsModel", spec := "fnExactIsModel", unfollowed := true, recurses := true, apart := false, narrowed := true }
def FnExactIsModelUptoSaid : Prop := fnExactIsModelUptoRow.holds Try.pinned (OpenSpec.upto fnExactIsModelSpec)

/-- 'laws.FnExactModelDepth', WHERE WHAT IT READS IS OF BULK AT MOST 1048576: true; the input reads as it did. -/
def fnExactModelDepthUptoRow : OpenClaim := { program := "ytadaaooldlaahaa", sum := "21e9f92222435c1d5ab18be7a198149def28e9c6de10a769f57076ef928d49b5", func := "loop.example/g01017/laws.FnExactModelDepth", spec := "fnExactModelDepth", unfollowed := true, recurses := true, apart := false, narrowed := true }
def FnExactModelDepthUptoSaid : Prop := fnExactModelDepthUptoRow.holds Try.pinned (OpenSpec.upto fnExactModelDepthSpec)

/-- 'laws.FnExactTimeTo', WHERE WHAT IT READS IS OF BULK AT MOST 1048576: true; the input reads as it did. -/
def fnExactTimeToUptoRow : OpenClaim := { program := "ytadaaooldlaahaa", sum := "21e9f92222435c1d5ab18be7a198149def28e9c6de10a769f57076ef928d49b5", func := "loop.example/g01017/laws.FnExactTimeTo", spec := "fnExactTimeTo", unfollowed := true, recurses := true, apart := false, narrowed := true }
def FnExactTimeToUptoSaid : Prop := fnExactTimeToUptoRow.holds Try.pinned (OpenSpec.upto fnExactTimeToSpec)

/-- 'laws.FnExactMeanSpeedTo', WHERE WHAT IT READS IS OF BULK AT MOST 1048576: true; the input reads as it did. -/
def fnExactMeanSpeedToUptoRow : OpenClaim := { program := "ytadaaooldlaahaa", sum := "21e9f92222435c1d5ab18be7a198149def28e9c6de10a769f57076ef928d49b5", func := "loop.example/g01017/laws.FnExactMeanSpeedTo", spec := "fnExactMeanSpeedTo", unfollowed := true, recurses := true, apart := false, narrowed := true }
def FnExactMeanSpeedToUptoSaid : Prop := fnExactMeanSpeedToUptoRow.holds Try.pinned (OpenSpec.upto fnExactMeanSpeedToSpec)

/-- 'laws.FnExactTimeVia', WHERE WHAT IT READS IS OF BULK AT MOST 1048576: true; the input reads as it did. -/
def fnExactTimeViaUptoRow : OpenClaim := { program := "ytadaaooldlaahaa", sum := "21e9f92222435c1d5ab18be7a198149def28e9c6de10a769f57076ef928d49b5", func := "loop.example/g01017/laws.FnExactTimeVia", spec := "fnExactTimeVia", unfollowed := true, recurses := true, apart := false, narrowed := true }
def FnExactTimeViaUptoSaid : Prop := fnExactTimeViaUptoRow.holds Try.pinned (OpenSpec.upto fnExactTimeViaSpec)

/-- 'laws.FnExactFirstVia', WHERE WHAT IT READS IS OF BULK AT MOST 1048576: true; the input reads as it did. -/
def fnExactFirstViaUptoRow : OpenClaim := { program := "ytadaaooldlaahaa", sum := "21e9f92222435c1d5ab18be7a198149def28e9c6de10a769f57076ef928d49b5", func := "loop.example/g01017/laws.FnExactFirstVia", spec := "fnExactFirstVia", unfollowed := true, recurses := true, apart := false, narrowed := true }
def FnExactFirstViaUptoSaid : Prop := fnExactFirstViaUptoRow.holds Try.pinned (OpenSpec.upto fnExactFirstViaSpec)

/-- 'laws.FnExactFirstTime', WHERE WHAT IT READS IS OF BULK AT MOST 1048576: true; the input reads as it did. -/
def fnExactFirstTimeUptoRow : OpenClaim := { program := "ytadaaooldlaahaa", sum := "21e9f92222435c1d5ab18be7a198149def28e9c6de10a769f57076ef928d49b5", func := "loop.example/g01017/laws.FnExactFirstTime", spec := "fnExactFirstTime", unfollowed := true, recurses := true, apart := false, narrowed := true }
def FnExactFirstTimeUptoSaid : Prop := fnExactFirstTimeUptoRow.holds Try.pinned (OpenSpec.upto fnExactFirstTimeSpec)

/-- 'laws.FnExactOvertakesAt', WHERE WHAT IT READS IS OF BULK AT MOST 1048576: true; the input reads as it did. -/
def fnExactOvertakesAtUptoRow : OpenClaim := { program := "ytadaaooldlaahaa", sum := "21e9f92222435c1d5ab18be7a198149def28e9c6de10a769f57076ef928d49b5", func := "loop.example/g01017/laws.FnExactOvertakesAt", spec := "fnExactOvertakesAt", unfollowed := true, recurses := true, apart := false, narrowed := true }
def FnExactOvertakesAtUptoSaid : Prop := fnExactOvertakesAtUptoRow.holds Try.pinned (OpenSpec.upto fnExactOvertakesAtSpec)

/-- 'laws.FnExactReachIn', WHERE WHAT IT READS IS OF BULK AT MOST 1048576: true; the input reads as it did. -/
def fnExactReachInUptoRow : OpenClaim := { program := "ytadaaooldlaahaa", sum := "21e9f92222435c1d5ab18be7a198149def28e9c6de10a769f57076ef928d49b5", func := "loop.example/g01017/laws.FnExactReachIn", spec := "fnExactReachIn", unfollowed := true, recurses := true, apart := false, narrowed := true }
def FnExactReachInUptoSaid : Prop := fnExactReachInUptoRow.holds Try.pinned (OpenSpec.upto fnExactReachInSpec)

/-- 'laws.FnTravel', WHERE WHAT IT READS IS OF BULK AT MOST 1048576: true; the input reads as it did. -/
def fnTravelUptoRow : OpenClaim := { program := "ytadaaooldlaahaa", sum := "21e9f92222435c1d5ab18be7a198149def28e9c6de10a769f57076ef928d49b5", func := "loop.example/g01017/laws.FnTravel", spec := "fnTravel", unfollowed := true, recurses := true, apart := false, narrowed := true }
def FnTravelUptoSaid : Prop := fnTravelUptoRow.holds Try.pinned (OpenSpec.upto fnTravelSpec)

/-- 'laws.FnLayers', WHERE WHAT IT READS IS OF BULK AT MOST 1048576: true; the input reads as it did. -/
def fnLayersUptoRow : OpenClaim := { program := "ytadaaooldlaahaa", sum := "21e9f92222435c1d5ab18be7a198149def28e9c6de10a769f57076ef928d49b5", func := "loop.example/g01017/laws.FnLayers", spec := "fnLayers", unfollowed := true, recurses := true, apart := false, narrowed := true }
def FnLayersUptoSaid : Prop := fnLayersUptoRow.holds Try.pinned (OpenSpec.upto fnLayersSpec)

end Rows
end Go.Proofs.Ytadaaooldlaahaa
