/-
  No cell of these rows narrows 'for every input' (looked for: loops, veiled, ifaces, maps, wideKeys, modest, calm, conditions, laid).
  DERIVED. THE GIVEN ROWS OF THIS SEAT. 11 by the template 'for every input the law returns true; each argument reads behind the call as it read before'; 0 by the template 'total and deterministic' (their statements: YtaemdldpcpefbaaTotals.lean).
  GIVEN WITH THE SEED: the statements are not yours to turn. If you find one false, say at which input.
  Laid BY PROGRAM, IN A SANDBOX (cutbox-rows.mjs): the forced cells as the released guide's own fill.sh prints them over the translation fa5cca530c4007f7… (all of the seat's roots in one cut). By AI agents, Wed Nov 11 2026. No macro, syntax, notation, axiom, sorry.
-/
import Derived.Test.YtaemdldpcpefbaaChecked
import GoSem.Claim
import GoSem.ClaimJoined
import GoSem.ClaimMapViews
import Derived.JoinedTies
import Derived.KernelRfl
namespace Go.Proofs.Ytaemdldpcpefbaa
/- THE CELL 'sum', in the pinned program and in every row, IS THE sha256 OF THE DUMP (.gsa) THAT YtaemdldpcpefbaaProg.lean LOADS. Nothing in Lean hashes anything: it is a label: what it is worth is what the hold of that sum in a sandbox is worth. -/
noncomputable def Try.pinned : Pinned := { name := "ytaemdldpcpefbaa", sum := "fa5cca530c4007f73d08e82a892f927ddeac954ee2a12e14c25d0bdb89dcf35d", checked := Try.checked }
namespace Rows
def none {H : Type} : Left H := { results := [], args := [] }

/-- 'laws.FnExactIsSetting': WHATEVER THE INPUT: true; the input reads as it did. -/
def fnExactIsSettingSpec : ChangeSpec := { name := "fnExactIsSetting", fn := fun _ => fun
  | [d] => { results := [.lit (.bool true)], args := [d] }
  | _ => none }
def fnExactIsSettingRow : OpenClaim := { program := "ytaemdldpcpefbaa", sum := "fa5cca530c4007f73d08e82a892f927ddeac954ee2a12e14c25d0bdb89dcf35d", func := "loop.example/g01017/laws.FnExactIsSetting", spec := "fnExactIsSetting", apart := false }
def FnExactIsSettingSaid : Prop := fnExactIsSettingRow.holds Try.pinned (OpenSpec.ofChange fnExactIsSettingSpec)

/-- ITS FALSE NEIGHBOUR: 'it returns false'. Refute it at one input. -/
def fnExactIsSettingWrong : ChangeSpec := { name := "fnExactIsSetting", fn := fun _ => fun
  | [d] => { results := [.lit (.bool false)], args := [d] }
  | _ => none }
def FnExactIsSettingWrongFalsely : Prop := fnExactIsSettingRow.holds Try.pinned (OpenSpec.ofChange fnExactIsSettingWrong)

/-- 'laws.FnExactRatioAt': WHATEVER THE INPUT: true; the input reads as it did. -/
def fnExactRatioAtSpec : ChangeSpec := { name := "fnExactRatioAt", fn := fun _ => fun
  | [d1, d2, d3] => { results := [.lit (.bool true)], args := [d1, d2, d3] }
  | _ => none }
def fnExactRatioAtRow : OpenClaim := { program := "ytaemdldpcpefbaa", sum := "fa5cca530c4007f73d08e82a892f927ddeac954ee2a12e14c25d0bdb89dcf35d", func := "loop.example/g01017/laws.FnExactRatioAt", spec := "fnExactRatioAt", unfollowed := true, recurses := true, apart := false }
def FnExactRatioAtSaid : Prop := fnExactRatioAtRow.holds Try.pinned (OpenSpec.ofChange fnExactRatioAtSpec)

/-- ITS FALSE NEIGHBOUR: 'it returns false'. Refute it at one input. -/
def fnExactRatioAtWrong : ChangeSpec := { name := "fnExactRatioAt", fn := fun _ => fun
  | [d1, d2, d3] => { results := [.lit (.bool false)], args := [d1, d2, d3] }
  | _ => none }
def FnExactRatioAtWrongFalsely : Prop := fnExactRatioAtRow.holds Try.pinned (OpenSpec.ofChange fnExactRatioAtWrong)

/-- 'laws.FnExactGreatestRatio': WHATEVER THE INPUT: true; the input reads as it did. -/
def fnExactGreatestRatioSpec : ChangeSpec := { name := "fnExactGreatestRatio", fn := fun _ => fun
  | [d1, d2] => { results := [.lit (.bool true)], args := [d1, d2] }
  | _ => none }
def fnExactGreatestRatioRow : OpenClaim := { program := "ytaemdldpcpefbaa", sum := "fa5cca530c4007f73d08e82a892f927ddeac954ee2a12e14c25d0bdb89dcf35d", func := "loop.example/g01017/laws.FnExactGreatestRatio", spec := "fnExactGreatestRatio", unfollowed := true, recurses := true, apart := false }
def FnExactGreatestRatioSaid : Prop := fnExactGreatestRatioRow.holds Try.pinned (OpenSpec.ofChange fnExactGreatestRatioSpec)

/-- ITS FALSE NEIGHBOUR: 'it returns false'. Refute it at one input. -/
def fnExactGreatestRatioWrong : ChangeSpec := { name := "fnExactGreatestRatio", fn := fun _ => fun
  | [d1, d2] => { results := [.lit (.bool false)], args := [d1, d2] }
  | _ => none }
def FnExactGreatestRatioWrongFalsely : Prop := fnExactGreatestRatioRow.holds Try.pinned (OpenSpec.ofChange fnExactGreatestRatioWrong)

/-- 'laws.FnExactLeastOn': WHATEVER THE INPUT: true; the input reads as it did. -/
def fnExactLeastOnSpec : ChangeSpec := { name := "fnExactLeastOn", fn := fun _ => fun
  | [d1, d2] => { results := [.lit (.bool true)], args := [d1, d2] }
  | _ => none }
def fnExactLeastOnRow : OpenClaim := { program := "ytaemdldpcpefbaa", sum := "fa5cca530c4007f73d08e82a892f927ddeac954ee2a12e14c25d0bdb89dcf35d", func := "loop.example/g01017/laws.FnExactLeastOn", spec := "fnExactLeastOn", unfollowed := true, recurses := true, apart := false }
def FnExactLeastOnSaid : Prop := fnExactLeastOnRow.holds Try.pinned (OpenSpec.ofChange fnExactLeastOnSpec)

/-- ITS FALSE NEIGHBOUR: 'it returns false'. Refute it at one input. -/
def fnExactLeastOnWrong : ChangeSpec := { name := "fnExactLeastOn", fn := fun _ => fun
  | [d1, d2] => { results := [.lit (.bool false)], args := [d1, d2] }
  | _ => none }
def FnExactLeastOnWrongFalsely : Prop := fnExactLeastOnRow.holds Try.pinned (OpenSpec.ofChange fnExactLeastOnWrong)

/-- 'laws.FnExactLongestOn': WHATEVER THE INPUT: true; the input reads as it did. -/
def fnExactLongestOnSpec : ChangeSpec := { name := "fnExactLongestOn", fn := fun _ => fun
  | [d1, d2] => { results := [.lit (.bool true)], args := [d1, d2] }
  | _ => none }
def fnExactLongestOnRow : OpenClaim := { program := "ytaemdldpcpefbaa", sum := "fa5cca530c4007f73d08e82a892f927ddeac954ee2a12e14c25d0bdb89dcf35d", func := "loop.example/g01017/laws.FnExactLongestOn", spec := "fnExactLongestOn", unfollowed := true, recurses := true, apart := false }
def FnExactLongestOnSaid : Prop := fnExactLongestOnRow.holds Try.pinned (OpenSpec.ofChange fnExactLongestOnSpec)

/-- ITS FALSE NEIGHBOUR: 'it returns false'. Refute it at one input. -/
def fnExactLongestOnWrong : ChangeSpec := { name := "fnExactLongestOn", fn := fun _ => fun
  | [d1, d2] => { results := [.lit (.bool false)], args := [d1, d2] }
  | _ => none }
def FnExactLongestOnWrongFalsely : Prop := fnExactLongestOnRow.holds Try.pinned (OpenSpec.ofChange fnExactLongestOnWrong)

/-- 'laws.FnExactIsOnAt': WHATEVER THE INPUT: true; the input reads as it did. -/
def fnExactIsOnAtSpec : ChangeSpec := { name := "fnExactIsOnAt", fn := fun _ => fun
  | [d1, d2, d3] => { results := [.lit (.bool true)], args := [d1, d2, d3] }
  | _ => none }
def fnExactIsOnAtRow : OpenClaim := { program := "ytaemdldpcpefbaa", sum := "fa5cca530c4007f73d08e82a892f927ddeac954ee2a12e14c25d0bdb89dcf35d", func := "loop.example/g01017/laws.FnExactIsOnAt", spec := "fnExactIsOnAt", unfollowed := true, recurses := true, apart := false }
def FnExactIsOnAtSaid : Prop := fnExactIsOnAtRow.holds Try.pinned (OpenSpec.ofChange fnExactIsOnAtSpec)

/-- ITS FALSE NEIGHBOUR: 'it returns false'. Refute it at one input. -/
def fnExactIsOnAtWrong : ChangeSpec := { name := "fnExactIsOnAt", fn := fun _ => fun
  | [d1, d2, d3] => { results := [.lit (.bool false)], args := [d1, d2, d3] }
  | _ => none }
def FnExactIsOnAtWrongFalsely : Prop := fnExactIsOnAtRow.holds Try.pinned (OpenSpec.ofChange fnExactIsOnAtWrong)

/-- 'laws.FnExactFirstMotion': WHATEVER THE INPUT: true; the input reads as it did. -/
def fnExactFirstMotionSpec : ChangeSpec := { name := "fnExactFirstMotion", fn := fun _ => fun
  | [d1, d2] => { results := [.lit (.bool true)], args := [d1, d2] }
  | _ => none }
def fnExactFirstMotionRow : OpenClaim := { program := "ytaemdldpcpefbaa", sum := "fa5cca530c4007f73d08e82a892f927ddeac954ee2a12e14c25d0bdb89dcf35d", func := "loop.example/g01017/laws.FnExactFirstMotion", spec := "fnExactFirstMotion", unfollowed := true, recurses := true, apart := false }
def FnExactFirstMotionSaid : Prop := fnExactFirstMotionRow.holds Try.pinned (OpenSpec.ofChange fnExactFirstMotionSpec)

/-- ITS FALSE NEIGHBOUR: 'it returns false'. Refute it at one input. -/
def fnExactFirstMotionWrong : ChangeSpec := { name := "fnExactFirstMotion", fn := fun _ => fun
  | [d1, d2] => { results := [.lit (.bool false)], args := [d1, d2] }
  | _ => none }
def FnExactFirstMotionWrongFalsely : Prop := fnExactFirstMotionRow.holds Try.pinned (OpenSpec.ofChange fnExactFirstMotionWrong)

/-- 'laws.FnExactOnPlaces': WHATEVER THE INPUT: true; the input reads as it did. -/
def fnExactOnPlacesSpec : ChangeSpec := { name := "fnExactOnPlaces", fn := fun _ => fun
  | [d1, d2] => { results := [.lit (.bool true)], args := [d1, d2] }
  | _ => none }
def fnExactOnPlacesRow : OpenClaim := { program := "ytaemdldpcpefbaa", sum := "fa5cca530c4007f73d08e82a892f927ddeac954ee2a12e14c25d0bdb89dcf35d", func := "loop.example/g01017/laws.FnExactOnPlaces", spec := "fnExactOnPlaces", unfollowed := true, recurses := true, apart := false }
def FnExactOnPlacesSaid : Prop := fnExactOnPlacesRow.holds Try.pinned (OpenSpec.ofChange fnExactOnPlacesSpec)

/-- ITS FALSE NEIGHBOUR: 'it returns false'. Refute it at one input. -/
def fnExactOnPlacesWrong : ChangeSpec := { name := "fnExactOnPlaces", fn := fun _ => fun
  | [d1, d2] => { results := [.lit (.bool false)], args := [d1, d2] }
  | _ => none }
def FnExactOnPlacesWrongFalsely : Prop := fnExactOnPlacesRow.holds Try.pinned (OpenSpec.ofChange fnExactOnPlacesWrong)

/-- 'laws.FnExactTriggered': WHATEVER THE INPUT: true; the input reads as it did. -/
def fnExactTriggeredSpec : ChangeSpec := { name := "fnExactTriggered", fn := fun _ => fun
  | [d1, d2] => { results := [.lit (.bool true)], args := [d1, d2] }
  | _ => none }
def fnExactTriggeredRow : OpenClaim := { program := "ytaemdldpcpefbaa", sum := "fa5cca530c4007f73d08e82a892f927ddeac954ee2a12e14c25d0bdb89dcf35d", func := "loop.example/g01017/laws.FnExactTriggered", spec := "fnExactTriggered", unfollowed := true, recurses := true, apart := false }
def FnExactTriggeredSaid : Prop := fnExactTriggeredRow.holds Try.pinned (OpenSpec.ofChange fnExactTriggeredSpec)

/-- ITS FALSE NEIGHBOUR: 'it returns false'. Refute it at one input. -/
def fnExactTriggeredWrong : ChangeSpec := { name := "fnExactTriggered", fn := fun _ => fun
  | [d1, d2] => { results := [.lit (.bool false)], args := [d1, d2] }
  | _ => none }
def FnExactTriggeredWrongFalsely : Prop := fnExactTriggeredRow.holds Try.pinned (OpenSpec.ofChange fnExactTriggeredWrong)

/-- 'laws.FnTriggers': WHATEVER THE INPUT: true; the input reads as it did. -/
def fnTriggersSpec : ChangeSpec := { name := "fnTriggers", fn := fun _ => fun
  | [d] => { results := [.lit (.bool true)], args := [d] }
  | _ => none }
def fnTriggersRow : OpenClaim := { program := "ytaemdldpcpefbaa", sum := "fa5cca530c4007f73d08e82a892f927ddeac954ee2a12e14c25d0bdb89dcf35d", func := "loop.example/g01017/laws.FnTriggers", spec := "fnTriggers", unfollowed := true, recurses := true, apart := false }
def FnTriggersSaid : Prop := fnTriggersRow.holds Try.pinned (OpenSpec.ofChange fnTriggersSpec)

/-- ITS FALSE NEIGHBOUR: 'it returns false'. Refute it at one input. -/
def fnTriggersWrong : ChangeSpec := { name := "fnTriggers", fn := fun _ => fun
  | [d] => { results := [.lit (.bool false)], args := [d] }
  | _ => none }
def FnTriggersWrongFalsely : Prop := fnTriggersRow.holds Try.pinned (OpenSpec.ofChange fnTriggersWrong)

/-- 'laws.FnRatios': WHATEVER THE INPUT: true; the input reads as it did. -/
def fnRatiosSpec : ChangeSpec := { name := "fnRatios", fn := fun _ => fun
  | [d] => { results := [.lit (.bool true)], args := [d] }
  | _ => none }
def fnRatiosRow : OpenClaim := { program := "ytaemdldpcpefbaa", sum := "fa5cca530c4007f73d08e82a892f927ddeac954ee2a12e14c25d0bdb89dcf35d", func := "loop.example/g01017/laws.FnRatios", spec := "fnRatios", unfollowed := true, recurses := true, apart := false }
def FnRatiosSaid : Prop := fnRatiosRow.holds Try.pinned (OpenSpec.ofChange fnRatiosSpec)

/-- ITS FALSE NEIGHBOUR: 'it returns false'. Refute it at one input. -/
def fnRatiosWrong : ChangeSpec := { name := "fnRatios", fn := fun _ => fun
  | [d] => { results := [.lit (.bool false)], args := [d] }
  | _ => none }
def FnRatiosWrongFalsely : Prop := fnRatiosRow.holds Try.pinned (OpenSpec.ofChange fnRatiosWrong)

/- THE SECOND FORM. 'bulk': how many values and letters a reading holds, each counted each time it is reached (what is shared counts as often as it is met; a slice's spare places count too). A statement '..UptoSaid' is the law's where the arguments, and the package variables that the reading takes, are together of bulk at most 1048576: NARROWER than '..Said'. Prove '..Said' where nothing that the law and all that it calls make is longer than what came in: it says more and counts as full. Else prove '..UptoSaid'. A law counts once. -/
mutual
def uptoBulk {H : Type} : DataW H → Nat
  | .lit (.string bytes) => bytes.length + 1
  | .lit _ => 1
  | .nil => 1
  | .ptr d => uptoBulk d + 1
  | .slice elems spare => uptoBulkAll elems + uptoBulkAll spare + 1
  | .agg parts => uptoBulkAll parts + 1
  | .iface _ d => uptoBulk d + 1
  | .map entries => uptoBulkEntries entries + 1
  | .held _ => 1
def uptoBulkAll {H : Type} : List (DataW H) → Nat
  | [] => 0
  | d :: r => uptoBulk d + uptoBulkAll r
def uptoBulkEntries {H : Type} : List (Lit × DataW H) → Nat
  | [] => 0
  | x :: r => uptoBulkEntry x + uptoBulkEntries r
def uptoBulkEntry {H : Type} : Lit × DataW H → Nat
  | (.string bytes, d) => bytes.length + uptoBulk d + 1
  | (_, d) => uptoBulk d + 1
 end
def uptoSmall : (H : Type) → List (DataW H) → Bool := fun _ ds => decide (uptoBulkAll ds ≤ 1048576)
def OpenSpec.upto (s : _root_.Go.ChangeSpec) : _root_.Go.OpenSpec := { _root_.Go.OpenSpec.ofChange s with cond := some uptoSmall }

/-- 'laws.FnExactIsSetting', WHERE WHAT IT READS IS OF BULK AT MOST 1048576: true; the input reads as it did. -/
def fnExactIsSettingUptoRow : OpenClaim := { program := "ytaemdldpcpefbaa", sum := "fa5cca530c4007f73d08e82a892f927ddeac954ee2a12e14c25d0bdb89dcf35d", func := "loop.example/g01017/laws.FnExactIsSetting", spec := "fnExactIsSetting", apart := false, narrowed := true }
def FnExactIsSettingUptoSaid : Prop := fnExactIsSettingUptoRow.holds Try.pinned (OpenSpec.upto fnExactIsSettingSpec)

/-- 'laws.FnExactRatioAt', WHERE WHAT IT READS IS OF BULK AT MOST 1048576: true; the input reads as it did. -/
def fnExactRatioAtUptoRow : OpenClaim := { program := "ytaemdldpcpefbaa", sum := "fa5cca530c4007f73d08e82a892f927ddeac954ee2a12e14c25d0bdb89dcf35d", func := "loop.example/g01017/laws.FnExactRatioAt", spec := "fnExactRatioAt", unfollowed := true, recurses := true, apart := false, narrowed := true }
def FnExactRatioAtUptoSaid : Prop := fnExactRatioAtUptoRow.holds Try.pinned (OpenSpec.upto fnExactRatioAtSpec)

/-- 'laws.FnExactGreatestRatio', WHERE WHAT IT READS IS OF BULK AT MOST 1048576: true; the input reads as it did. -/
def fnExactGreatestRatioUptoRow : OpenClaim := { program := "ytaemdldpcpefbaa", sum := "fa5cca530c4007f73d08e82a892f927ddeac954ee2a12e14c25d0bdb89dcf35d", func := "loop.example/g01017/laws.FnExactGreatestRatio", spec := "fnExactGreatestRatio", unfollowed := true, recurses := true, apart := false, narrowed := true }
def FnExactGreatestRatioUptoSaid : Prop := fnExactGreatestRatioUptoRow.holds Try.pinned (OpenSpec.upto fnExactGreatestRatioSpec)

/-- 'laws.FnExactLeastOn', WHERE WHAT IT READS IS OF BULK AT MOST 1048576: true; the input reads as it did. -/
def fnExactLeastOnUptoRow : OpenClaim := { program := "ytaemdldpcpefbaa", sum := "fa5cca530c4007f73d08e82a892f927ddeac954ee2a12e14c25d0bdb89dcf35d", func := "loop.example/g01017/laws.FnExactLeastOn", spec := "fnExactLeastOn", unfollowed := true, recurses := true, apart := false, narrowed := true }
def FnExactLeastOnUptoSaid : Prop := fnExactLeastOnUptoRow.holds Try.pinned (OpenSpec.upto fnExactLeastOnSpec)

/-- 'laws.FnExactLongestOn', WHERE WHAT IT READS IS OF BULK AT MOST 1048576: true; the input reads as it did. -/
def fnExactLongestOnUptoRow : OpenClaim := { program := "ytaemdldpcpefbaa", sum := "fa5cca530c4007f73d08e82a892f927ddeac954ee2a12e14c25d0bdb89dcf35d", func := "loop.example/g01017/laws.FnExactLongestOn", spec := "fnExactLongestOn", unfollowed := true, recurses := true, apart := false, narrowed := true }
def FnExactLongestOnUptoSaid : Prop := fnExactLongestOnUptoRow.holds Try.pinned (OpenSpec.upto fnExactLongestOnSpec)

/-- 'laws.FnExactIsOnAt', WHERE WHAT IT READS IS OF BULK AT MOST 1048576: true; the input reads as it did. -/
def fnExactIsOnAtUptoRow : OpenClaim := { program := "ytaemdldpcpefbaa", sum := "fa5cca530c4007f73d08e82a892f927ddeac954ee2a12e14c25d0bdb89dcf35d", func := "loop.example/g01017/laws.FnExactIsOnAt", spec := "fnExactIsOnAt", unfollowed := true, recurses := true, apart := false, narrowed := true }
def FnExactIsOnAtUptoSaid : Prop := fnExactIsOnAtUptoRow.holds Try.pinned (OpenSpec.upto fnExactIsOnAtSpec)

/-- 'laws.FnExactFirstMotion', WHERE WHAT IT READS IS OF BULK AT MOST 1048576: true; the input reads as it did. -/
def fnExactFirstMotionUptoRow : OpenClaim := { program := "ytaemdldpcpefbaa", sum := "fa5cca530c4007f73d08e82a892f927ddeac954ee2a12e14c25d0bdb89dcf35d", func := "loop.example/g01017/laws.FnExactFirstMotion", spec := "fnExactFirstMotion", unfollowed := true, recurses := true, apart := false, narrowed := true }
def FnExactFirstMotionUptoSaid : Prop := fnExactFirstMotionUptoRow.holds Try.pinned (OpenSpec.upto fnExactFirstMotionSpec)

/-- 'laws.FnExactOnPlaces', WHERE WHAT IT READS IS OF BULK AT MOST 1048576: true; the input reads as it did. -/
def fnExactOnPlacesUptoRow : OpenClaim := { program := "ytaemdldpcpefbaa", sum := "fa5cca530c4007f73d08e82a892f927ddeac954ee2a12e14c25d0bdb89dcf35d", func := "loop.example/g01017/laws.FnExactOnPlaces", spec := "fnExactOnPlaces", unfollowed := true, recurses := true, apart := false, narrowed := true }
def FnExactOnPlacesUptoSaid : Prop := fnExactOnPlacesUptoRow.holds Try.pinned (OpenSpec.upto fnExactOnPlacesSpec)

/-- 'laws.FnExactTriggered', WHERE WHAT IT READS IS OF BULK AT MOST 1048576: true; the input reads as it did. -/
def fnExactTriggeredUptoRow : OpenClaim := { program := "ytaemdldpcpefbaa", sum := "fa5cca530c4007f73d08e82a892f927ddeac954ee2a12e14c25d0bdb89dcf35d", func := "loop.example/g01017/laws.FnExactTriggered", spec := "fnExactTriggered", unfollowed := true, recurses := true, apart := false, narrowed := true }
def FnExactTriggeredUptoSaid : Prop := fnExactTriggeredUptoRow.holds Try.pinned (OpenSpec.upto fnExactTriggeredSpec)

/-- 'laws.FnTriggers', WHERE WHAT IT READS IS OF BULK AT MOST 1048576: true; the input reads as it did. -/
def fnTriggersUptoRow : OpenClaim := { program := "ytaemdldpcpefbaa", sum := "fa5cca530c4007f73d08e82a892f927ddeac954ee2a12e14c25d0bdb89dcf35d", func := "loop.example/g01017/laws.FnTriggers", spec := "fnTriggers", unfollowed := true, recurses := true, apart := false, narrowed := true }
def FnTriggersUptoSaid : Prop := fnTriggersUptoRow.holds Try.pinned (OpenSpec.upto fnTriggersSpec)

/-- 'laws.FnRatios', WHERE WHAT IT READS IS OF BULK AT MOST 1048576: true; the input reads as it did. -/
def fnRatiosUptoRow : OpenClaim := { program := "ytaemdldpcpefbaa", sum := "fa5cca530c4007f73d08e82a892f927ddeac954ee2a12e14c25d0bdb89dcf35d", func := "loop.example/g01017/laws.FnRatios", spec := "fnRatios", unfollowed := true, recurses := true, apart := false, narrowed := true }
def FnRatiosUptoSaid : Prop := fnRatiosUptoRow.holds Try.pinned (OpenSpec.upto fnRatiosSpec)

end Rows
end Go.Proofs.Ytaemdldpcpefbaa
