/-
  No cell of these rows narrows 'for every input' (looked for: loops, veiled, ifaces, maps, wideKeys, modest, calm, conditions, laid).
  DERIVED. THE GIVEN ROWS OF THIS SEAT. 3 by the template 'for every input the law returns true; each argument reads behind the call as it read before'; 0 by the template 'total and deterministic' (their statements: YtjnaigpogloboaaTotals.lean).
  GIVEN WITH THE SEED: the statements are not yours to turn. If you find one false, say at which input.
  Laid BY PROGRAM, IN A SANDBOX (cutbox-rows.mjs): the forced cells as the released guide's own fill.sh prints them over the translation 1fba43b20d08f888… (all of the seat's roots in one cut). By AI agents, Wed Nov 11 2026. No macro, syntax, notation, axiom, sorry.
-/
import Derived.Test.YtjnaigpogloboaaChecked
import GoSem.Claim
import GoSem.ClaimJoined
import GoSem.ClaimMapViews
import Derived.JoinedTies
import Derived.KernelRfl
namespace Go.Proofs.Ytjnaigpogloboaa
/- THE CELL 'sum', in the pinned program and in every row, IS THE sha256 OF THE DUMP (.gsa) THAT YtjnaigpogloboaaProg.lean LOADS. Nothing in Lean hashes anything: it is a label: what it is worth is what the hold of that sum in a sandbox is worth. -/
noncomputable def Try.pinned : Pinned := { name := "ytjnaigpogloboaa", sum := "1fba43b20d08f888fd7518e6981ccde4f8ee6a41a30dc532ea1f08997ef9e7d1", checked := Try.checked }
namespace Rows
def none {H : Type} : Left H := { results := [], args := [] }

/-- 'laws.FnExactIsTable': WHATEVER THE INPUT: true; the input reads as it did. -/
def fnExactIsTableSpec : ChangeSpec := { name := "fnExactIsTable", fn := fun _ => fun
  | [d] => { results := [.lit (.bool true)], args := [d] }
  | _ => none }
def fnExactIsTableRow : OpenClaim := { program := "ytjnaigpogloboaa", sum := "1fba43b20d08f888fd7518e6981ccde4f8ee6a41a30dc532ea1f08997ef9e7d1", func := "loop.example/g01017/laws.FnExactIsTable", spec := "fnExactIsTable", apart := false }
def FnExactIsTableSaid : Prop := fnExactIsTableRow.holds Try.pinned (OpenSpec.ofChange fnExactIsTableSpec)

/-- ITS FALSE NEIGHBOUR: 'it returns false'. Refute it at one input. -/
def fnExactIsTableWrong : ChangeSpec := { name := "fnExactIsTable", fn := fun _ => fun
  | [d] => { results := [.lit (.bool false)], args := [d] }
  | _ => none }
def FnExactIsTableWrongFalsely : Prop := fnExactIsTableRow.holds Try.pinned (OpenSpec.ofChange fnExactIsTableWrong)

/-- 'laws.FnExactAreSwings': WHATEVER THE INPUT: true; the input reads as it did. -/
def fnExactAreSwingsSpec : ChangeSpec := { name := "fnExactAreSwings", fn := fun _ => fun
  | [d] => { results := [.lit (.bool true)], args := [d] }
  | _ => none }
def fnExactAreSwingsRow : OpenClaim := { program := "ytjnaigpogloboaa", sum := "1fba43b20d08f888fd7518e6981ccde4f8ee6a41a30dc532ea1f08997ef9e7d1", func := "loop.example/g01017/laws.FnExactAreSwings", spec := "fnExactAreSwings", unfollowed := true, recurses := true, apart := false }
def FnExactAreSwingsSaid : Prop := fnExactAreSwingsRow.holds Try.pinned (OpenSpec.ofChange fnExactAreSwingsSpec)

/-- ITS FALSE NEIGHBOUR: 'it returns false'. Refute it at one input. -/
def fnExactAreSwingsWrong : ChangeSpec := { name := "fnExactAreSwings", fn := fun _ => fun
  | [d] => { results := [.lit (.bool false)], args := [d] }
  | _ => none }
def FnExactAreSwingsWrongFalsely : Prop := fnExactAreSwingsRow.holds Try.pinned (OpenSpec.ofChange fnExactAreSwingsWrong)

/-- 'laws.FnExactBonusAt': WHATEVER THE INPUT: true; the input reads as it did. -/
def fnExactBonusAtSpec : ChangeSpec := { name := "fnExactBonusAt", fn := fun _ => fun
  | [d1, d2] => { results := [.lit (.bool true)], args := [d1, d2] }
  | _ => none }
def fnExactBonusAtRow : OpenClaim := { program := "ytjnaigpogloboaa", sum := "1fba43b20d08f888fd7518e6981ccde4f8ee6a41a30dc532ea1f08997ef9e7d1", func := "loop.example/g01017/laws.FnExactBonusAt", spec := "fnExactBonusAt", apart := false }
def FnExactBonusAtSaid : Prop := fnExactBonusAtRow.holds Try.pinned (OpenSpec.ofChange fnExactBonusAtSpec)

/-- ITS FALSE NEIGHBOUR: 'it returns false'. Refute it at one input. -/
def fnExactBonusAtWrong : ChangeSpec := { name := "fnExactBonusAt", fn := fun _ => fun
  | [d1, d2] => { results := [.lit (.bool false)], args := [d1, d2] }
  | _ => none }
def FnExactBonusAtWrongFalsely : Prop := fnExactBonusAtRow.holds Try.pinned (OpenSpec.ofChange fnExactBonusAtWrong)

/- THE SECOND FORM. 'bulk': how many values and letters a reading holds, each counted each time it is reached (what is shared counts as often as it is met; a slice's spare places count too). A statement '..UptoSaid' is the law's where the arguments, and the package variables that the reading takes, are together of bulk at most 1048576: NARROWER than '..Said'. Prove '..Said' where nothing that the law and all that it calls make is longer than what came in: it says more and counts as full. Else prove '..UptoSaid'. A law counts once. -/
mutual
def uptoBulk {H : Type} : DataW H → Nat
  | .lit (.string bytes) => bytes.length + 1
  | .lit _ => 1
  | .nil => 1
  | .ptr d => uptoBulk d + 1
  | .slice elems spare => uptoBulkAll elems + uptoBulkAll spare + 1
  | .agg parts => uptoBulkAll parts + 1
  | .iface _ d => uptoBulk d + 1
  | .map entries => uptoBulkEntries entries + 1
  | .held _ => 1
def uptoBulkAll {H : Type} : List (DataW H) → Nat
  | [] => 0
  | d :: r => uptoBulk d + uptoBulkAll r
def uptoBulkEntries {H : Type} : List (Lit × DataW H) → Nat
  | [] => 0
  | x :: r => uptoBulkEntry x + uptoBulkEntries r
def uptoBulkEntry {H : Type} : Lit × DataW H → Nat
  | (.string bytes, d) => bytes.length + uptoBulk d + 1
  | (_, d) => uptoBulk d + 1
 end
def uptoSmall : (H : Type) → List (DataW H) → Bool := fun _ ds => decide (uptoBulkAll ds ≤ 1048576)
def OpenSpec.upto (s : _root_.Go.ChangeSpec) : _root_.Go.OpenSpec := { _root_.Go.OpenSpec.ofChange s with cond := some uptoSmall }

/-- 'laws.FnExactIsTable', WHERE WHAT IT READS IS OF BULK AT MOST 1048576: true; the input reads as it did. -/
def fnExactIsTableUptoRow : OpenClaim := { program := "ytjnaigpogloboaa", sum := "1fba43b20d08f888fd7518e6981ccde4f8ee6a41a30dc532ea1f08997ef9e7d1", func := "loop.example/g01017/laws.FnExactIsTable", spec := "fnExactIsTable", apart := false, narrowed := true }
def FnExactIsTableUptoSaid : Prop := fnExactIsTableUptoRow.holds Try.pinned (OpenSpec.upto fnExactIsTableSpec)

/-- 'laws.FnExactAreSwings', WHERE WHAT IT READS IS OF BULK AT MOST 1048576: true; the input reads as it did. -/
def fnExactAreSwingsUptoRow : OpenClaim := { program := "ytjnaigpogloboaa", sum := "1fba43b20d08f888fd7518e6981ccde4f8ee6a41a30dc532ea1f08997ef9e7d1", func := "loop.example/g01017/laws.FnExactAreSwings", spec := "fnExactAreSwings", unfollowed := true, recurses := true, apart := false, narrowed := true }
def FnExactAreSwingsUptoSaid : Prop := fnExactAreSwingsUptoRow.holds Try.pinned (OpenSpec.upto fnExactAreSwingsSpec)

/-- 'laws.FnExactBonusAt', WHERE WHAT IT READS IS OF BULK AT MOST 1048576: true; the input reads as it did. -/
def fnExactBonusAtUptoRow : OpenClaim := { program := "ytjnaigpogloboaa", sum := "1fba43b20d08f888fd7518e6981ccde4f8ee6a41a30dc532ea1f08997ef9e7d1", func := "loop.example/g01017/laws.FnExactBonusAt", spec := "fnExactBonusAt", apart := false, narrowed := true }
def FnExactBonusAtUptoSaid : Prop := fnExactBonusAtUptoRow.holds Try.pinned (OpenSpec.upto fnExactBonusAtSpec)

end Rows
end Go.Proofs.Ytjnaigpogloboaa
