/-
  No cell of these rows narrows 'for every input' (looked for: loops, veiled, ifaces, maps, wideKeys, modest, calm, conditions, laid).
  DERIVED. THE GIVEN ROWS OF THIS SEAT. 12 by the template 'for every input the law returns true; each argument reads behind the call as it read before'; 0 by the template 'total and deterministic' (their statements: YtiakaglgfboepaaTotals.lean).
  GIVEN WITH THE SEED: the statements are not yours to turn. If you find one false, say at which input.
  Laid BY PROGRAM, IN A SANDBOX (cutbox-rows.mjs): the forced cells as the released guide's own fill.sh prints them over the translation 99265ab5b0da9cb9… (all of the seat's roots in one cut). By AI agents, Wed Nov 11 2026. No macro, syntax, notation, axiom, sorry.
-/
import Derived.Test.YtiakaglgfboepaaChecked
import GoSem.Claim
import GoSem.ClaimJoined
import GoSem.ClaimMapViews
import Derived.JoinedTies
import Derived.KernelRfl
namespace Go.Proofs.Ytiakaglgfboepaa
/- THE CELL 'sum', in the pinned program and in every row, IS THE sha256 OF THE DUMP (.gsa) THAT YtiakaglgfboepaaProg.lean LOADS. Nothing in Lean hashes anything: it is a label: what it is worth is what the hold of that sum in a sandbox is worth. -/
noncomputable def Try.pinned : Pinned := { name := "ytiakaglgfboepaa", sum := "99265ab5b0da9cb9eb612c6aa0950b8776459b985e6663433eb502c203c08ebd", checked := Try.checked }
namespace Rows
def none {H : Type} : Left H := { results := [], args := [] }

/-- 'laws.FnExactIsPick': WHATEVER THE INPUT: true; the input reads as it did. -/
def fnExactIsPickSpec : ChangeSpec := { name := "fnExactIsPick", fn := fun _ => fun
  | [d] => { results := [.lit (.bool true)], args := [d] }
  | _ => none }
def fnExactIsPickRow : OpenClaim := { program := "ytiakaglgfboepaa", sum := "99265ab5b0da9cb9eb612c6aa0950b8776459b985e6663433eb502c203c08ebd", func := "loop.example/g01017/laws.FnExactIsPick", spec := "fnExactIsPick", apart := false }
def FnExactIsPickSaid : Prop := fnExactIsPickRow.holds Try.pinned (OpenSpec.ofChange fnExactIsPickSpec)

/-- ITS FALSE NEIGHBOUR: 'it returns false'. Refute it at one input. -/
def fnExactIsPickWrong : ChangeSpec := { name := "fnExactIsPick", fn := fun _ => fun
  | [d] => { results := [.lit (.bool false)], args := [d] }
  | _ => none }
def FnExactIsPickWrongFalsely : Prop := fnExactIsPickRow.holds Try.pinned (OpenSpec.ofChange fnExactIsPickWrong)

/-- 'laws.FnExactArePicks': WHATEVER THE INPUT: true; the input reads as it did. -/
def fnExactArePicksSpec : ChangeSpec := { name := "fnExactArePicks", fn := fun _ => fun
  | [d] => { results := [.lit (.bool true)], args := [d] }
  | _ => none }
def fnExactArePicksRow : OpenClaim := { program := "ytiakaglgfboepaa", sum := "99265ab5b0da9cb9eb612c6aa0950b8776459b985e6663433eb502c203c08ebd", func := "loop.example/g01017/laws.FnExactArePicks", spec := "fnExactArePicks", unfollowed := true, recurses := true, apart := false }
def FnExactArePicksSaid : Prop := fnExactArePicksRow.holds Try.pinned (OpenSpec.ofChange fnExactArePicksSpec)

/-- ITS FALSE NEIGHBOUR: 'it returns false'. Refute it at one input. -/
def fnExactArePicksWrong : ChangeSpec := { name := "fnExactArePicks", fn := fun _ => fun
  | [d] => { results := [.lit (.bool false)], args := [d] }
  | _ => none }
def FnExactArePicksWrongFalsely : Prop := fnExactArePicksRow.holds Try.pinned (OpenSpec.ofChange fnExactArePicksWrong)

/-- 'laws.FnExactRevisions': WHATEVER THE INPUT: true; the input reads as it did. -/
def fnExactRevisionsSpec : ChangeSpec := { name := "fnExactRevisions", fn := fun _ => fun
  | [d] => { results := [.lit (.bool true)], args := [d] }
  | _ => none }
def fnExactRevisionsRow : OpenClaim := { program := "ytiakaglgfboepaa", sum := "99265ab5b0da9cb9eb612c6aa0950b8776459b985e6663433eb502c203c08ebd", func := "loop.example/g01017/laws.FnExactRevisions", spec := "fnExactRevisions", unfollowed := true, recurses := true, apart := false }
def FnExactRevisionsSaid : Prop := fnExactRevisionsRow.holds Try.pinned (OpenSpec.ofChange fnExactRevisionsSpec)

/-- ITS FALSE NEIGHBOUR: 'it returns false'. Refute it at one input. -/
def fnExactRevisionsWrong : ChangeSpec := { name := "fnExactRevisions", fn := fun _ => fun
  | [d] => { results := [.lit (.bool false)], args := [d] }
  | _ => none }
def FnExactRevisionsWrongFalsely : Prop := fnExactRevisionsRow.holds Try.pinned (OpenSpec.ofChange fnExactRevisionsWrong)

/-- 'laws.FnExactWindowOf': WHATEVER THE INPUT: true; the input reads as it did. -/
def fnExactWindowOfSpec : ChangeSpec := { name := "fnExactWindowOf", fn := fun _ => fun
  | [d1, d2] => { results := [.lit (.bool true)], args := [d1, d2] }
  | _ => none }
def fnExactWindowOfRow : OpenClaim := { program := "ytiakaglgfboepaa", sum := "99265ab5b0da9cb9eb612c6aa0950b8776459b985e6663433eb502c203c08ebd", func := "loop.example/g01017/laws.FnExactWindowOf", spec := "fnExactWindowOf", unfollowed := true, recurses := true, apart := false }
def FnExactWindowOfSaid : Prop := fnExactWindowOfRow.holds Try.pinned (OpenSpec.ofChange fnExactWindowOfSpec)

/-- ITS FALSE NEIGHBOUR: 'it returns false'. Refute it at one input. -/
def fnExactWindowOfWrong : ChangeSpec := { name := "fnExactWindowOf", fn := fun _ => fun
  | [d1, d2] => { results := [.lit (.bool false)], args := [d1, d2] }
  | _ => none }
def FnExactWindowOfWrongFalsely : Prop := fnExactWindowOfRow.holds Try.pinned (OpenSpec.ofChange fnExactWindowOfWrong)

/-- 'laws.FnExactMovedMost': WHATEVER THE INPUT: true; the input reads as it did. -/
def fnExactMovedMostSpec : ChangeSpec := { name := "fnExactMovedMost", fn := fun _ => fun
  | [d] => { results := [.lit (.bool true)], args := [d] }
  | _ => none }
def fnExactMovedMostRow : OpenClaim := { program := "ytiakaglgfboepaa", sum := "99265ab5b0da9cb9eb612c6aa0950b8776459b985e6663433eb502c203c08ebd", func := "loop.example/g01017/laws.FnExactMovedMost", spec := "fnExactMovedMost", unfollowed := true, recurses := true, apart := false }
def FnExactMovedMostSaid : Prop := fnExactMovedMostRow.holds Try.pinned (OpenSpec.ofChange fnExactMovedMostSpec)

/-- ITS FALSE NEIGHBOUR: 'it returns false'. Refute it at one input. -/
def fnExactMovedMostWrong : ChangeSpec := { name := "fnExactMovedMost", fn := fun _ => fun
  | [d] => { results := [.lit (.bool false)], args := [d] }
  | _ => none }
def FnExactMovedMostWrongFalsely : Prop := fnExactMovedMostRow.holds Try.pinned (OpenSpec.ofChange fnExactMovedMostWrong)

/-- 'laws.FnExactWithdrawLast': WHATEVER THE INPUT: true; the input reads as it did. -/
def fnExactWithdrawLastSpec : ChangeSpec := { name := "fnExactWithdrawLast", fn := fun _ => fun
  | [d] => { results := [.lit (.bool true)], args := [d] }
  | _ => none }
def fnExactWithdrawLastRow : OpenClaim := { program := "ytiakaglgfboepaa", sum := "99265ab5b0da9cb9eb612c6aa0950b8776459b985e6663433eb502c203c08ebd", func := "loop.example/g01017/laws.FnExactWithdrawLast", spec := "fnExactWithdrawLast", unfollowed := true, recurses := true, apart := false }
def FnExactWithdrawLastSaid : Prop := fnExactWithdrawLastRow.holds Try.pinned (OpenSpec.ofChange fnExactWithdrawLastSpec)

/-- ITS FALSE NEIGHBOUR: 'it returns false'. Refute it at one input. -/
def fnExactWithdrawLastWrong : ChangeSpec := { name := "fnExactWithdrawLast", fn := fun _ => fun
  | [d] => { results := [.lit (.bool false)], args := [d] }
  | _ => none }
def FnExactWithdrawLastWrongFalsely : Prop := fnExactWithdrawLastRow.holds Try.pinned (OpenSpec.ofChange fnExactWithdrawLastWrong)

/-- 'laws.FnExactHistoryOf': WHATEVER THE INPUT: true; the input reads as it did. -/
def fnExactHistoryOfSpec : ChangeSpec := { name := "fnExactHistoryOf", fn := fun _ => fun
  | [d1, d2] => { results := [.lit (.bool true)], args := [d1, d2] }
  | _ => none }
def fnExactHistoryOfRow : OpenClaim := { program := "ytiakaglgfboepaa", sum := "99265ab5b0da9cb9eb612c6aa0950b8776459b985e6663433eb502c203c08ebd", func := "loop.example/g01017/laws.FnExactHistoryOf", spec := "fnExactHistoryOf", unfollowed := true, recurses := true, apart := false }
def FnExactHistoryOfSaid : Prop := fnExactHistoryOfRow.holds Try.pinned (OpenSpec.ofChange fnExactHistoryOfSpec)

/-- ITS FALSE NEIGHBOUR: 'it returns false'. Refute it at one input. -/
def fnExactHistoryOfWrong : ChangeSpec := { name := "fnExactHistoryOf", fn := fun _ => fun
  | [d1, d2] => { results := [.lit (.bool false)], args := [d1, d2] }
  | _ => none }
def FnExactHistoryOfWrongFalsely : Prop := fnExactHistoryOfRow.holds Try.pinned (OpenSpec.ofChange fnExactHistoryOfWrong)

/-- 'laws.FnExactRevisePick': WHATEVER THE INPUT: true; the input reads as it did. -/
def fnExactRevisePickSpec : ChangeSpec := { name := "fnExactRevisePick", fn := fun _ => fun
  | [d1, d2, d3, d4, d5] => { results := [.lit (.bool true)], args := [d1, d2, d3, d4, d5] }
  | _ => none }
def fnExactRevisePickRow : OpenClaim := { program := "ytiakaglgfboepaa", sum := "99265ab5b0da9cb9eb612c6aa0950b8776459b985e6663433eb502c203c08ebd", func := "loop.example/g01017/laws.FnExactRevisePick", spec := "fnExactRevisePick", unfollowed := true, recurses := true, apart := false }
def FnExactRevisePickSaid : Prop := fnExactRevisePickRow.holds Try.pinned (OpenSpec.ofChange fnExactRevisePickSpec)

/-- ITS FALSE NEIGHBOUR: 'it returns false'. Refute it at one input. -/
def fnExactRevisePickWrong : ChangeSpec := { name := "fnExactRevisePick", fn := fun _ => fun
  | [d1, d2, d3, d4, d5] => { results := [.lit (.bool false)], args := [d1, d2, d3, d4, d5] }
  | _ => none }
def FnExactRevisePickWrongFalsely : Prop := fnExactRevisePickRow.holds Try.pinned (OpenSpec.ofChange fnExactRevisePickWrong)

/-- 'laws.FnExactPairedPicks': WHATEVER THE INPUT: true; the input reads as it did. -/
def fnExactPairedPicksSpec : ChangeSpec := { name := "fnExactPairedPicks", fn := fun _ => fun
  | [d1, d2] => { results := [.lit (.bool true)], args := [d1, d2] }
  | _ => none }
def fnExactPairedPicksRow : OpenClaim := { program := "ytiakaglgfboepaa", sum := "99265ab5b0da9cb9eb612c6aa0950b8776459b985e6663433eb502c203c08ebd", func := "loop.example/g01017/laws.FnExactPairedPicks", spec := "fnExactPairedPicks", unfollowed := true, recurses := true, apart := false }
def FnExactPairedPicksSaid : Prop := fnExactPairedPicksRow.holds Try.pinned (OpenSpec.ofChange fnExactPairedPicksSpec)

/-- ITS FALSE NEIGHBOUR: 'it returns false'. Refute it at one input. -/
def fnExactPairedPicksWrong : ChangeSpec := { name := "fnExactPairedPicks", fn := fun _ => fun
  | [d1, d2] => { results := [.lit (.bool false)], args := [d1, d2] }
  | _ => none }
def FnExactPairedPicksWrongFalsely : Prop := fnExactPairedPicksRow.holds Try.pinned (OpenSpec.ofChange fnExactPairedPicksWrong)

/-- 'laws.FnExactCurrentPicks': WHATEVER THE INPUT: true; the input reads as it did. -/
def fnExactCurrentPicksSpec : ChangeSpec := { name := "fnExactCurrentPicks", fn := fun _ => fun
  | [d] => { results := [.lit (.bool true)], args := [d] }
  | _ => none }
def fnExactCurrentPicksRow : OpenClaim := { program := "ytiakaglgfboepaa", sum := "99265ab5b0da9cb9eb612c6aa0950b8776459b985e6663433eb502c203c08ebd", func := "loop.example/g01017/laws.FnExactCurrentPicks", spec := "fnExactCurrentPicks", unfollowed := true, recurses := true, apart := false }
def FnExactCurrentPicksSaid : Prop := fnExactCurrentPicksRow.holds Try.pinned (OpenSpec.ofChange fnExactCurrentPicksSpec)

/-- ITS FALSE NEIGHBOUR: 'it returns false'. Refute it at one input. -/
def fnExactCurrentPicksWrong : ChangeSpec := { name := "fnExactCurrentPicks", fn := fun _ => fun
  | [d] => { results := [.lit (.bool false)], args := [d] }
  | _ => none }
def FnExactCurrentPicksWrongFalsely : Prop := fnExactCurrentPicksRow.holds Try.pinned (OpenSpec.ofChange fnExactCurrentPicksWrong)

/-- 'laws.FnPicks': WHATEVER THE INPUT: true; the input reads as it did. -/
def fnPicksSpec : ChangeSpec := { name := "fnPicks", fn := fun _ => fun
  | [d] => { results := [.lit (.bool true)], args := [d] }
  | _ => none }
def fnPicksRow : OpenClaim := { program := "ytiakaglgfboepaa", sum := "99265ab5b0da9cb9eb612c6aa0950b8776459b985e6663433eb502c203c08ebd", func := "loop.example/g01017/laws.FnPicks", spec := "fnPicks", unfollowed := true, recurses := true, apart := false }
def FnPicksSaid : Prop := fnPicksRow.holds Try.pinned (OpenSpec.ofChange fnPicksSpec)

/-- ITS FALSE NEIGHBOUR: 'it returns false'. Refute it at one input. -/
def fnPicksWrong : ChangeSpec := { name := "fnPicks", fn := fun _ => fun
  | [d] => { results := [.lit (.bool false)], args := [d] }
  | _ => none }
def FnPicksWrongFalsely : Prop := fnPicksRow.holds Try.pinned (OpenSpec.ofChange fnPicksWrong)

/-- 'laws.FnOnsets': WHATEVER THE INPUT: true; the input reads as it did. -/
def fnOnsetsSpec : ChangeSpec := { name := "fnOnsets", fn := fun _ => fun
  | [d] => { results := [.lit (.bool true)], args := [d] }
  | _ => none }
def fnOnsetsRow : OpenClaim := { program := "ytiakaglgfboepaa", sum := "99265ab5b0da9cb9eb612c6aa0950b8776459b985e6663433eb502c203c08ebd", func := "loop.example/g01017/laws.FnOnsets", spec := "fnOnsets", unfollowed := true, recurses := true, apart := false }
def FnOnsetsSaid : Prop := fnOnsetsRow.holds Try.pinned (OpenSpec.ofChange fnOnsetsSpec)

/-- ITS FALSE NEIGHBOUR: 'it returns false'. Refute it at one input. -/
def fnOnsetsWrong : ChangeSpec := { name := "fnOnsets", fn := fun _ => fun
  | [d] => { results := [.lit (.bool false)], args := [d] }
  | _ => none }
def FnOnsetsWrongFalsely : Prop := fnOnsetsRow.holds Try.pinned (OpenSpec.ofChange fnOnsetsWrong)

/- THE SECOND FORM. 'bulk': how many values and letters a reading holds, each counted each time it is reached (what is shared counts as often as it is met; a slice's spare places count too). A statement '..UptoSaid' is the law's where the arguments, and the package variables that the reading takes, are together of bulk at most 1048576: NARROWER than '..Said'. Prove '..Said' where nothing that the law and all that it calls make is longer than what came in: it says more and counts as full. Else prove '..UptoSaid'. A law counts once. -/
mutual
def uptoBulk {H : Type} : DataW H → Nat
  | .lit (.string bytes) => bytes.length + 1
  | .lit _ => 1
  | .nil => 1
  | .ptr d => uptoBulk d + 1
  | .slice elems spare => uptoBulkAll elems + uptoBulkAll spare + 1
  | .agg parts => uptoBulkAll parts + 1
  | .iface _ d => uptoBulk d + 1
  | .map entries => uptoBulkEntries entries + 1
  | .held _ => 1
def uptoBulkAll {H : Type} : List (DataW H) → Nat
  | [] => 0
  | d :: r => uptoBulk d + uptoBulkAll r
def uptoBulkEntries {H : Type} : List (Lit × DataW H) → Nat
  | [] => 0
  | x :: r => uptoBulkEntry x + uptoBulkEntries r
def uptoBulkEntry {H : Type} : Lit × DataW H → Nat
  | (.string bytes, d) => bytes.length + uptoBulk d + 1
  | (_, d) => uptoBulk d + 1
 end
def uptoSmall : (H : Type) → List (DataW H) → Bool := fun _ ds => decide (uptoBulkAll ds ≤ 1048576)
def OpenSpec.upto (s : _root_.Go.ChangeSpec) : _root_.Go.OpenSpec := { _root_.Go.OpenSpec.ofChange s with cond := some uptoSmall }

/-- 'laws.FnExactIsPick', WHERE WHAT IT READS IS OF BULK AT MOST 1048576: true; the input reads as it did. -/
def fnExactIsPickUptoRow : OpenClaim := { program := "ytiakaglgfboepaa", sum := "99265ab5b0da9cb9eb612c6aa0950b8776459b985e6663433eb502c203c08ebd", func := "loop.example/g01017/laws.FnExactIsPick", spec := "fnExactIsPick", apart := false, narrowed := true }
def FnExactIsPickUptoSaid : Prop := fnExactIsPickUptoRow.holds Try.pinned (OpenSpec.upto fnExactIsPickSpec)

/-- 'laws.FnExactArePicks', WHERE WHAT IT READS IS OF BULK AT MOST 1048576: true; the input reads as it did. -/
def fnExactArePicksUptoRow : OpenClaim := { program := "ytiakaglgfboepaa", sum := "99265ab5b0da9cb9eb612c6aa0950b8776459b985e6663433eb502c203c08ebd", func := "loop.example/g01017/laws.FnExactArePicks", spec := "fnExactArePicks", unfollowed := true, recurses := true, apart := false, narrowed := true }
def FnExactArePicksUptoSaid : Prop := fnExactArePicksUptoRow.holds Try.pinned (OpenSpec.upto fnExactArePicksSpec)

/-- 'laws.FnExactRevisions', WHERE WHAT IT READS IS OF BULK AT MOST 1048576: true; the input reads as it did. -/
def fnExactRevisionsUptoRow : OpenClaim := { program := "ytiakaglgfboepaa", sum := "99265ab5b0da9cb9eb612c6aa0950b8776459b985e6663433eb502c203c08ebd", func := "loop.example/g01017/laws.FnExactRevisions", spec := "fnExactRevisions", unfollowed := true, recurses := true, apart := false, narrowed := true }
def FnExactRevisionsUptoSaid : Prop := fnExactRevisionsUptoRow.holds Try.pinned (OpenSpec.upto fnExactRevisionsSpec)

/-- 'laws.FnExactWindowOf', WHERE WHAT IT READS IS OF BULK AT MOST 1048576: true; the input reads as it did. -/
def fnExactWindowOfUptoRow : OpenClaim := { program := "ytiakaglgfboepaa", sum := "99265ab5b0da9cb9eb612c6aa0950b8776459b985e6663433eb502c203c08ebd", func := "loop.example/g01017/laws.FnExactWindowOf", spec := "fnExactWindowOf", unfollowed := true, recurses := true, apart := false, narrowed := true }
def FnExactWindowOfUptoSaid : Prop := fnExactWindowOfUptoRow.holds Try.pinned (OpenSpec.upto fnExactWindowOfSpec)

/-- 'laws.FnExactMovedMost', WHERE WHAT IT READS IS OF BULK AT MOST 1048576: true; the input reads as it did. -/
def fnExactMovedMostUptoRow : OpenClaim := { program := "ytiakaglgfboepaa", sum := "99265ab5b0da9cb9eb612c6aa0950b8776459b985e6663433eb502c203c08ebd", func := "loop.example/g01017/laws.FnExactMovedMost", spec := "fnExactMovedMost", unfollowed := true, recurses := true, apart := false, narrowed := true }
def FnExactMovedMostUptoSaid : Prop := fnExactMovedMostUptoRow.holds Try.pinned (OpenSpec.upto fnExactMovedMostSpec)

/-- 'laws.FnExactWithdrawLast', WHERE WHAT IT READS IS OF BULK AT MOST 1048576: true; the input reads as it did. -/
def fnExactWithdrawLastUptoRow : OpenClaim := { program := "ytiakaglgfboepaa", sum := "99265ab5b0da9cb9eb612c6aa0950b8776459b985e6663433eb502c203c08ebd", func := "loop.example/g01017/laws.FnExactWithdrawLast", spec := "fnExactWithdrawLast", unfollowed := true, recurses := true, apart := false, narrowed := true }
def FnExactWithdrawLastUptoSaid : Prop := fnExactWithdrawLastUptoRow.holds Try.pinned (OpenSpec.upto fnExactWithdrawLastSpec)

/-- 'laws.FnExactHistoryOf', WHERE WHAT IT READS IS OF BULK AT MOST 1048576: true; the input reads as it did. -/
def fnExactHistoryOfUptoRow : OpenClaim := { program := "ytiakaglgfboepaa", sum := "99265ab5b0da9cb9eb612c6aa0950b8776459b985e6663433eb502c203c08ebd", func := "loop.example/g01017/laws.FnExactHistoryOf", spec := "fnExactHistoryOf", unfollowed := true, recurses := true, apart := false, narrowed := true }
def FnExactHistoryOfUptoSaid : Prop := fnExactHistoryOfUptoRow.holds Try.pinned (OpenSpec.upto fnExactHistoryOfSpec)

/-- 'laws.FnExactRevisePick', WHERE WHAT IT READS IS OF BULK AT MOST 1048576: true; the input reads as it did. -/
def fnExactRevisePickUptoRow : OpenClaim := { program := "ytiakaglgfboepaa", sum := "99265ab5b0da9cb9eb612c6aa0950b8776459b985e6663433eb502c203c08ebd", func := "loop.example/g01017/laws.FnExactRevisePick", spec := "fnExactRevisePick", unfollowed := true, recurses := true, apart := false, narrowed := true }
def FnExactRevisePickUptoSaid : Prop := fnExactRevisePickUptoRow.holds Try.pinned (OpenSpec.upto fnExactRevisePickSpec)

/-- 'laws.FnExactPairedPicks', WHERE WHAT IT READS IS OF BULK AT MOST 1048576: true; the input reads as it did. -/
def fnExactPairedPicksUptoRow : OpenClaim := { program := "ytiakaglgfboepaa", sum := "99265ab5b0da9cb9eb612c6aa0950b8776459b985e6663433eb502c203c08ebd", func := "loop.example/g01017/laws.FnExactPairedPicks", spec := "fnExactPairedPicks", unfollowed := true, recurses := true, apart := false, narrowed := true }
def FnExactPairedPicksUptoSaid : Prop := fnExactPairedPicksUptoRow.holds Try.pinned (OpenSpec.upto fnExactPairedPicksSpec)

/-- 'laws.FnExactCurrentPicks', WHERE WHAT IT READS IS OF BULK AT MOST 1048576: true; the input reads as it did. -/
def fnExactCurrentPicksUptoRow : OpenClaim := { program := "ytiakaglgfboepaa", sum := "99265ab5b0da9cb9eb612c6aa0950b8776459b985e6663433eb502c203c08ebd", func := "loop.example/g01017/laws.FnExactCurrentPicks", spec := "fnExactCurrentPicks", unfollowed := true, recurses := true, apart := false, narrowed := true }
def FnExactCurrentPicksUptoSaid : Prop := fnExactCurrentPicksUptoRow.holds Try.pinned (OpenSpec.upto fnExactCurrentPicksSpec)

/-- 'laws.FnPicks', WHERE WHAT IT READS IS OF BULK AT MOST 1048576: true; the input reads as it did. -/
def fnPicksUptoRow : OpenClaim := { program := "ytiakaglgfboepaa", sum := "99265ab5b0da9cb9eb612c6aa0950b8776459b985e6663433eb502c203c08ebd", func := "loop.example/g01017/laws.FnPicks", spec := "fnPicks", unfollowed := true, recurses := true, apart := false, narrowed := true }
def FnPicksUptoSaid : Prop := fnPicksUptoRow.holds Try.pinned (OpenSpec.upto fnPicksSpec)

/-- 'laws.FnOnsets', WHERE WHAT IT READS IS OF BULK AT MOST 1048576: true; the input reads as it did. -/
def fnOnsetsUptoRow : OpenClaim := { program := "ytiakaglgfboepaa", sum := "99265ab5b0da9cb9eb612c6aa0950b8776459b985e6663433eb502c203c08ebd", func := "loop.example/g01017/laws.FnOnsets", spec := "fnOnsets", unfollowed := true, recurses := true, apart := false, narrowed := true }
def FnOnsetsUptoSaid : Prop := fnOnsetsUptoRow.holds Try.pinned (OpenSpec.upto fnOnsetsSpec)

end Rows
end Go.Proofs.Ytiakaglgfboepaa
