/-
  NARROWER THAN 'FOR EVERY INPUT', by the rows' own cells (each row's printed sentence says how): FnExactSizeOf: laid · FnExactMagnitudeText: laid · FnExactLeastWidth: laid · FnExactMagnitudeOf: laid · FnExactMedianMagnitude: laid · FnExactResiduals: laid · FnExactNewTerms: laid · FnMagnitudes: laid · FnTerms: laid.
  DERIVED. THE GIVEN ROWS OF THIS SEAT. 9 by the template 'for every input the law returns true; each argument reads behind the call as it read before'; 0 by the template 'total and deterministic' (their statements: YtjnaigpogloboaaDoorTotals.lean).
  GIVEN WITH THE SEED: the statements are not yours to turn. If you find one false, say at which input.
  Laid BY PROGRAM, IN A SANDBOX (cutbox-rows.mjs): the forced cells as the released guide's own fill.sh prints them over the translation 42a9c7642c2387fe… (all of the seat's roots in one cut). By AI agents, Wed Nov 11 2026. No macro, syntax, notation, axiom, sorry.
-/
import Derived.Test.YtjnaigpogloboaaDoorChecked
import GoSem.Claim
import GoSem.ClaimJoined
import GoSem.ClaimMapViews
import Derived.JoinedTies
import Derived.KernelRfl
namespace Go.Proofs.YtjnaigpogloboaaDoor
/- THE CELL 'sum', in the pinned program and in every row, IS THE sha256 OF THE DUMP (.gsa) THAT YtjnaigpogloboaaDoorProg.lean LOADS. Nothing in Lean hashes anything: it is a label: what it is worth is what the hold of that sum in a sandbox is worth. -/
noncomputable def Tryd.pinned : Pinned := { name := "ytjnaigpogloboaadoor", sum := "42a9c7642c2387fe83b94ca36afe0bbc4523bc01179caacf2530f0aea9faa965", checked := Tryd.checked }
namespace Rows
def none {H : Type} : Left H := { results := [], args := [] }

/- WHAT THE LISTED PACKAGE-LEVEL VARIABLES READ AS WHEN THE CALL BEGINS. Each datum BY PROGRAM (the guide's laid-datum.mjs) off the statement by which the dump's own 'gosem.cut.vars' lays the variable. In a bare row this is a premise. The card (YtjnaigpogloboaaDoorCards.lean) ties it to the program's text. -/
def laid_math_bits_deBruijn32tab {H : Type} : DataW H := .agg [.lit (.int .u8 0), .lit (.int .u8 1), .lit (.int .u8 28), .lit (.int .u8 2), .lit (.int .u8 29), .lit (.int .u8 14), .lit (.int .u8 24), .lit (.int .u8 3), .lit (.int .u8 30), .lit (.int .u8 22), .lit (.int .u8 20), .lit (.int .u8 15), .lit (.int .u8 25), .lit (.int .u8 17), .lit (.int .u8 4), .lit (.int .u8 8), .lit (.int .u8 31), .lit (.int .u8 27), .lit (.int .u8 13), .lit (.int .u8 23), .lit (.int .u8 21), .lit (.int .u8 19), .lit (.int .u8 16), .lit (.int .u8 7), .lit (.int .u8 26), .lit (.int .u8 12), .lit (.int .u8 18), .lit (.int .u8 6), .lit (.int .u8 11), .lit (.int .u8 5), .lit (.int .u8 10), .lit (.int .u8 9)]
def laid_math_bits_deBruijn64tab {H : Type} : DataW H := .agg [.lit (.int .u8 0), .lit (.int .u8 1), .lit (.int .u8 56), .lit (.int .u8 2), .lit (.int .u8 57), .lit (.int .u8 49), .lit (.int .u8 28), .lit (.int .u8 3), .lit (.int .u8 61), .lit (.int .u8 58), .lit (.int .u8 42), .lit (.int .u8 50), .lit (.int .u8 38), .lit (.int .u8 29), .lit (.int .u8 17), .lit (.int .u8 4), .lit (.int .u8 62), .lit (.int .u8 47), .lit (.int .u8 59), .lit (.int .u8 36), .lit (.int .u8 45), .lit (.int .u8 43), .lit (.int .u8 51), .lit (.int .u8 22), .lit (.int .u8 53), .lit (.int .u8 39), .lit (.int .u8 33), .lit (.int .u8 30), .lit (.int .u8 24), .lit (.int .u8 18), .lit (.int .u8 12), .lit (.int .u8 5), .lit (.int .u8 63), .lit (.int .u8 55), .lit (.int .u8 48), .lit (.int .u8 27), .lit (.int .u8 60), .lit (.int .u8 41), .lit (.int .u8 37), .lit (.int .u8 16), .lit (.int .u8 46), .lit (.int .u8 35), .lit (.int .u8 44), .lit (.int .u8 21), .lit (.int .u8 52), .lit (.int .u8 32), .lit (.int .u8 23), .lit (.int .u8 11), .lit (.int .u8 54), .lit (.int .u8 26), .lit (.int .u8 40), .lit (.int .u8 15), .lit (.int .u8 34), .lit (.int .u8 20), .lit (.int .u8 31), .lit (.int .u8 10), .lit (.int .u8 25), .lit (.int .u8 14), .lit (.int .u8 19), .lit (.int .u8 9), .lit (.int .u8 13), .lit (.int .u8 8), .lit (.int .u8 7), .lit (.int .u8 6)]
def laid_internal_strconv_uint64pow10 {H : Type} : DataW H := .agg [.lit (.int .u64 1), .lit (.int .u64 10), .lit (.int .u64 100), .lit (.int .u64 1000), .lit (.int .u64 10000), .lit (.int .u64 100000), .lit (.int .u64 1000000), .lit (.int .u64 10000000), .lit (.int .u64 100000000), .lit (.int .u64 1000000000), .lit (.int .u64 10000000000), .lit (.int .u64 100000000000), .lit (.int .u64 1000000000000), .lit (.int .u64 10000000000000), .lit (.int .u64 100000000000000), .lit (.int .u64 1000000000000000), .lit (.int .u64 10000000000000000), .lit (.int .u64 100000000000000000), .lit (.int .u64 1000000000000000000), .lit (.int .u64 10000000000000000000)]

/-- 'laws.FnExactSizeOf': WHATEVER THE INPUT: true; the input reads as it did. -/
def fnExactSizeOfSpec : ChangeSpec := { name := "fnExactSizeOf", fn := fun _ => fun
  | [d] => { results := [.lit (.bool true)], args := [d] }
  | _ => none }
def fnExactSizeOfRow : OpenClaim := { program := "ytjnaigpogloboaadoor", sum := "42a9c7642c2387fe83b94ca36afe0bbc4523bc01179caacf2530f0aea9faa965", func := "loop.example/g01017/laws.FnExactSizeOf", spec := "fnExactSizeOf", named := ["internal/strconv.uint64pow10", "math/bits.deBruijn32tab", "math/bits.deBruijn64tab"], apart := false, laid := [("math/bits.deBruijn32tab", laid_math_bits_deBruijn32tab), ("math/bits.deBruijn64tab", laid_math_bits_deBruijn64tab), ("internal/strconv.uint64pow10", laid_internal_strconv_uint64pow10)] }
def FnExactSizeOfSaid : Prop := fnExactSizeOfRow.holds Tryd.pinned (OpenSpec.ofChange fnExactSizeOfSpec)

/-- ITS FALSE NEIGHBOUR: 'it returns false'. Refute it at one input. -/
def fnExactSizeOfWrong : ChangeSpec := { name := "fnExactSizeOf", fn := fun _ => fun
  | [d] => { results := [.lit (.bool false)], args := [d] }
  | _ => none }
def FnExactSizeOfWrongFalsely : Prop := fnExactSizeOfRow.holds Tryd.pinned (OpenSpec.ofChange fnExactSizeOfWrong)

/-- 'laws.FnExactMagnitudeText': WHATEVER THE INPUT: true; the input reads as it did. -/
def fnExactMagnitudeTextSpec : ChangeSpec := { name := "fnExactMagnitudeText", fn := fun _ => fun
  | [d] => { results := [.lit (.bool true)], args := [d] }
  | _ => none }
def fnExactMagnitudeTextRow : OpenClaim := { program := "ytjnaigpogloboaadoor", sum := "42a9c7642c2387fe83b94ca36afe0bbc4523bc01179caacf2530f0aea9faa965", func := "loop.example/g01017/laws.FnExactMagnitudeText", spec := "fnExactMagnitudeText", recurses := true, named := ["internal/strconv.uint64pow10", "math/bits.deBruijn32tab", "math/bits.deBruijn64tab"], apart := false, laid := [("math/bits.deBruijn32tab", laid_math_bits_deBruijn32tab), ("math/bits.deBruijn64tab", laid_math_bits_deBruijn64tab), ("internal/strconv.uint64pow10", laid_internal_strconv_uint64pow10)] }
def FnExactMagnitudeTextSaid : Prop := fnExactMagnitudeTextRow.holds Tryd.pinned (OpenSpec.ofChange fnExactMagnitudeTextSpec)

/-- ITS FALSE NEIGHBOUR: 'it returns false'. Refute it at one input. -/
def fnExactMagnitudeTextWrong : ChangeSpec := { name := "fnExactMagnitudeText", fn := fun _ => fun
  | [d] => { results := [.lit (.bool false)], args := [d] }
  | _ => none }
def FnExactMagnitudeTextWrongFalsely : Prop := fnExactMagnitudeTextRow.holds Tryd.pinned (OpenSpec.ofChange fnExactMagnitudeTextWrong)

/-- 'laws.FnExactLeastWidth': WHATEVER THE INPUT: true; the input reads as it did. -/
def fnExactLeastWidthSpec : ChangeSpec := { name := "fnExactLeastWidth", fn := fun _ => fun
  | [d1, d2, d3] => { results := [.lit (.bool true)], args := [d1, d2, d3] }
  | _ => none }
def fnExactLeastWidthRow : OpenClaim := { program := "ytjnaigpogloboaadoor", sum := "42a9c7642c2387fe83b94ca36afe0bbc4523bc01179caacf2530f0aea9faa965", func := "loop.example/g01017/laws.FnExactLeastWidth", spec := "fnExactLeastWidth", named := ["internal/strconv.uint64pow10", "math/bits.deBruijn32tab", "math/bits.deBruijn64tab"], apart := false, laid := [("math/bits.deBruijn32tab", laid_math_bits_deBruijn32tab), ("math/bits.deBruijn64tab", laid_math_bits_deBruijn64tab), ("internal/strconv.uint64pow10", laid_internal_strconv_uint64pow10)] }
def FnExactLeastWidthSaid : Prop := fnExactLeastWidthRow.holds Tryd.pinned (OpenSpec.ofChange fnExactLeastWidthSpec)

/-- ITS FALSE NEIGHBOUR: 'it returns false'. Refute it at one input. -/
def fnExactLeastWidthWrong : ChangeSpec := { name := "fnExactLeastWidth", fn := fun _ => fun
  | [d1, d2, d3] => { results := [.lit (.bool false)], args := [d1, d2, d3] }
  | _ => none }
def FnExactLeastWidthWrongFalsely : Prop := fnExactLeastWidthRow.holds Tryd.pinned (OpenSpec.ofChange fnExactLeastWidthWrong)

/-- 'laws.FnExactMagnitudeOf': WHATEVER THE INPUT: true; the input reads as it did. -/
def fnExactMagnitudeOfSpec : ChangeSpec := { name := "fnExactMagnitudeOf", fn := fun _ => fun
  | [d1, d2] => { results := [.lit (.bool true)], args := [d1, d2] }
  | _ => none }
def fnExactMagnitudeOfRow : OpenClaim := { program := "ytjnaigpogloboaadoor", sum := "42a9c7642c2387fe83b94ca36afe0bbc4523bc01179caacf2530f0aea9faa965", func := "loop.example/g01017/laws.FnExactMagnitudeOf", spec := "fnExactMagnitudeOf", named := ["internal/strconv.uint64pow10", "math/bits.deBruijn32tab", "math/bits.deBruijn64tab"], apart := false, laid := [("math/bits.deBruijn32tab", laid_math_bits_deBruijn32tab), ("math/bits.deBruijn64tab", laid_math_bits_deBruijn64tab), ("internal/strconv.uint64pow10", laid_internal_strconv_uint64pow10)] }
def FnExactMagnitudeOfSaid : Prop := fnExactMagnitudeOfRow.holds Tryd.pinned (OpenSpec.ofChange fnExactMagnitudeOfSpec)

/-- ITS FALSE NEIGHBOUR: 'it returns false'. Refute it at one input. -/
def fnExactMagnitudeOfWrong : ChangeSpec := { name := "fnExactMagnitudeOf", fn := fun _ => fun
  | [d1, d2] => { results := [.lit (.bool false)], args := [d1, d2] }
  | _ => none }
def FnExactMagnitudeOfWrongFalsely : Prop := fnExactMagnitudeOfRow.holds Tryd.pinned (OpenSpec.ofChange fnExactMagnitudeOfWrong)

/-- 'laws.FnExactMedianMagnitude': WHATEVER THE INPUT: true; the input reads as it did. -/
def fnExactMedianMagnitudeSpec : ChangeSpec := { name := "fnExactMedianMagnitude", fn := fun _ => fun
  | [d1, d2] => { results := [.lit (.bool true)], args := [d1, d2] }
  | _ => none }
def fnExactMedianMagnitudeRow : OpenClaim := { program := "ytjnaigpogloboaadoor", sum := "42a9c7642c2387fe83b94ca36afe0bbc4523bc01179caacf2530f0aea9faa965", func := "loop.example/g01017/laws.FnExactMedianMagnitude", spec := "fnExactMedianMagnitude", unfollowed := true, recurses := true, named := ["internal/strconv.uint64pow10", "math/bits.deBruijn32tab", "math/bits.deBruijn64tab"], apart := false, laid := [("math/bits.deBruijn32tab", laid_math_bits_deBruijn32tab), ("math/bits.deBruijn64tab", laid_math_bits_deBruijn64tab), ("internal/strconv.uint64pow10", laid_internal_strconv_uint64pow10)] }
def FnExactMedianMagnitudeSaid : Prop := fnExactMedianMagnitudeRow.holds Tryd.pinned (OpenSpec.ofChange fnExactMedianMagnitudeSpec)

/-- ITS FALSE NEIGHBOUR: 'it returns false'. Refute it at one input. -/
def fnExactMedianMagnitudeWrong : ChangeSpec := { name := "fnExactMedianMagnitude", fn := fun _ => fun
  | [d1, d2] => { results := [.lit (.bool false)], args := [d1, d2] }
  | _ => none }
def FnExactMedianMagnitudeWrongFalsely : Prop := fnExactMedianMagnitudeRow.holds Tryd.pinned (OpenSpec.ofChange fnExactMedianMagnitudeWrong)

/-- 'laws.FnExactResiduals': WHATEVER THE INPUT: true; the input reads as it did. -/
def fnExactResidualsSpec : ChangeSpec := { name := "fnExactResiduals", fn := fun _ => fun
  | [d1, d2] => { results := [.lit (.bool true)], args := [d1, d2] }
  | _ => none }
def fnExactResidualsRow : OpenClaim := { program := "ytjnaigpogloboaadoor", sum := "42a9c7642c2387fe83b94ca36afe0bbc4523bc01179caacf2530f0aea9faa965", func := "loop.example/g01017/laws.FnExactResiduals", spec := "fnExactResiduals", unfollowed := true, recurses := true, named := ["internal/strconv.uint64pow10", "math/bits.deBruijn32tab", "math/bits.deBruijn64tab"], apart := false, laid := [("math/bits.deBruijn32tab", laid_math_bits_deBruijn32tab), ("math/bits.deBruijn64tab", laid_math_bits_deBruijn64tab), ("internal/strconv.uint64pow10", laid_internal_strconv_uint64pow10)] }
def FnExactResidualsSaid : Prop := fnExactResidualsRow.holds Tryd.pinned (OpenSpec.ofChange fnExactResidualsSpec)

/-- ITS FALSE NEIGHBOUR: 'it returns false'. Refute it at one input. -/
def fnExactResidualsWrong : ChangeSpec := { name := "fnExactResiduals", fn := fun _ => fun
  | [d1, d2] => { results := [.lit (.bool false)], args := [d1, d2] }
  | _ => none }
def FnExactResidualsWrongFalsely : Prop := fnExactResidualsRow.holds Tryd.pinned (OpenSpec.ofChange fnExactResidualsWrong)

/-- 'laws.FnExactNewTerms': WHATEVER THE INPUT: true; the input reads as it did. -/
def fnExactNewTermsSpec : ChangeSpec := { name := "fnExactNewTerms", fn := fun _ => fun
  | [d1, d2] => { results := [.lit (.bool true)], args := [d1, d2] }
  | _ => none }
def fnExactNewTermsRow : OpenClaim := { program := "ytjnaigpogloboaadoor", sum := "42a9c7642c2387fe83b94ca36afe0bbc4523bc01179caacf2530f0aea9faa965", func := "loop.example/g01017/laws.FnExactNewTerms", spec := "fnExactNewTerms", unfollowed := true, recurses := true, named := ["internal/strconv.uint64pow10", "math/bits.deBruijn32tab", "math/bits.deBruijn64tab"], apart := false, laid := [("math/bits.deBruijn32tab", laid_math_bits_deBruijn32tab), ("math/bits.deBruijn64tab", laid_math_bits_deBruijn64tab), ("internal/strconv.uint64pow10", laid_internal_strconv_uint64pow10)] }
def FnExactNewTermsSaid : Prop := fnExactNewTermsRow.holds Tryd.pinned (OpenSpec.ofChange fnExactNewTermsSpec)

/-- ITS FALSE NEIGHBOUR: 'it returns false'. Refute it at one input. -/
def fnExactNewTermsWrong : ChangeSpec := { name := "fnExactNewTerms", fn := fun _ => fun
  | [d1, d2] => { results := [.lit (.bool false)], args := [d1, d2] }
  | _ => none }
def FnExactNewTermsWrongFalsely : Prop := fnExactNewTermsRow.holds Tryd.pinned (OpenSpec.ofChange fnExactNewTermsWrong)

/-- 'laws.FnMagnitudes': WHATEVER THE INPUT: true; the input reads as it did. -/
def fnMagnitudesSpec : ChangeSpec := { name := "fnMagnitudes", fn := fun _ => fun
  | [d] => { results := [.lit (.bool true)], args := [d] }
  | _ => none }
def fnMagnitudesRow : OpenClaim := { program := "ytjnaigpogloboaadoor", sum := "42a9c7642c2387fe83b94ca36afe0bbc4523bc01179caacf2530f0aea9faa965", func := "loop.example/g01017/laws.FnMagnitudes", spec := "fnMagnitudes", recurses := true, named := ["internal/strconv.uint64pow10", "math/bits.deBruijn32tab", "math/bits.deBruijn64tab"], apart := false, laid := [("math/bits.deBruijn32tab", laid_math_bits_deBruijn32tab), ("math/bits.deBruijn64tab", laid_math_bits_deBruijn64tab), ("internal/strconv.uint64pow10", laid_internal_strconv_uint64pow10)] }
def FnMagnitudesSaid : Prop := fnMagnitudesRow.holds Tryd.pinned (OpenSpec.ofChange fnMagnitudesSpec)

/-- ITS FALSE NEIGHBOUR: 'it returns false'. Refute it at one input. -/
def fnMagnitudesWrong : ChangeSpec := { name := "fnMagnitudes", fn := fun _ => fun
  | [d] => { results := [.lit (.bool false)], args := [d] }
  | _ => none }
def FnMagnitudesWrongFalsely : Prop := fnMagnitudesRow.holds Tryd.pinned (OpenSpec.ofChange fnMagnitudesWrong)

/-- 'laws.FnTerms': WHATEVER THE INPUT: true; the input reads as it did. -/
def fnTermsSpec : ChangeSpec := { name := "fnTerms", fn := fun _ => fun
  | [d] => { results := [.lit (.bool true)], args := [d] }
  | _ => none }
def fnTermsRow : OpenClaim := { program := "ytjnaigpogloboaadoor", sum := "42a9c7642c2387fe83b94ca36afe0bbc4523bc01179caacf2530f0aea9faa965", func := "loop.example/g01017/laws.FnTerms", spec := "fnTerms", unfollowed := true, recurses := true, named := ["internal/strconv.uint64pow10", "math/bits.deBruijn32tab", "math/bits.deBruijn64tab"], apart := false, laid := [("math/bits.deBruijn32tab", laid_math_bits_deBruijn32tab), ("math/bits.deBruijn64tab", laid_math_bits_deBruijn64tab), ("internal/strconv.uint64pow10", laid_internal_strconv_uint64pow10)] }
def FnTermsSaid : Prop := fnTermsRow.holds Tryd.pinned (OpenSpec.ofChange fnTermsSpec)

/-- ITS FALSE NEIGHBOUR: 'it returns false'. Refute it at one input. -/
def fnTermsWrong : ChangeSpec := { name := "fnTerms", fn := fun _ => fun
  | [d] => { results := [.lit (.bool false)], args := [d] }
  | _ => none }
def FnTermsWrongFalsely : Prop := fnTermsRow.holds Tryd.pinned (OpenSpec.ofChange fnTermsWrong)

/- THE SECOND FORM. 'bulk': how many values and letters a reading holds, each counted each time it is reached (what is shared counts as often as it is met; a slice's spare places count too). A statement '..UptoSaid' is the law's where the arguments, and the package variables that the reading takes, are together of bulk at most 1048576: NARROWER than '..Said'. Prove '..Said' where nothing that the law and all that it calls make is longer than what came in: it says more and counts as full. Else prove '..UptoSaid'. A law counts once. -/
mutual
def uptoBulk {H : Type} : DataW H → Nat
  | .lit (.string bytes) => bytes.length + 1
  | .lit _ => 1
  | .nil => 1
  | .ptr d => uptoBulk d + 1
  | .slice elems spare => uptoBulkAll elems + uptoBulkAll spare + 1
  | .agg parts => uptoBulkAll parts + 1
  | .iface _ d => uptoBulk d + 1
  | .map entries => uptoBulkEntries entries + 1
  | .held _ => 1
def uptoBulkAll {H : Type} : List (DataW H) → Nat
  | [] => 0
  | d :: r => uptoBulk d + uptoBulkAll r
def uptoBulkEntries {H : Type} : List (Lit × DataW H) → Nat
  | [] => 0
  | x :: r => uptoBulkEntry x + uptoBulkEntries r
def uptoBulkEntry {H : Type} : Lit × DataW H → Nat
  | (.string bytes, d) => bytes.length + uptoBulk d + 1
  | (_, d) => uptoBulk d + 1
 end
def uptoSmall : (H : Type) → List (DataW H) → Bool := fun _ ds => decide (uptoBulkAll ds ≤ 1048576)
def OpenSpec.upto (s : _root_.Go.ChangeSpec) : _root_.Go.OpenSpec := { _root_.Go.OpenSpec.ofChange s with cond := some uptoSmall }

/-- 'laws.FnExactSizeOf', WHERE WHAT IT READS IS OF BULK AT MOST 1048576: true; the input reads as it did. -/
def fnExactSizeOfUptoRow : OpenClaim := { program := "ytjnaigpogloboaadoor", sum := "42a9c7642c2387fe83b94ca36afe0bbc4523bc01179caacf2530f0aea9faa965", func := "loop.example/g01017/laws.FnExactSizeOf", spec := "fnExactSizeOf", named := ["internal/strconv.uint64pow10", "math/bits.deBruijn32tab", "math/bits.deBruijn64tab"], apart := false, laid := [("math/bits.deBruijn32tab", laid_math_bits_deBruijn32tab), ("math/bits.deBruijn64tab", laid_math_bits_deBruijn64tab), ("internal/strconv.uint64pow10", laid_internal_strconv_uint64pow10)], narrowed := true }
def FnExactSizeOfUptoSaid : Prop := fnExactSizeOfUptoRow.holds Tryd.pinned (OpenSpec.upto fnExactSizeOfSpec)

/-- 'laws.FnExactMagnitudeText', WHERE WHAT IT READS IS OF BULK AT MOST 1048576: true; the input reads as it did. -/
def fnExactMagnitudeTextUptoRow : OpenClaim := { program := "ytjnaigpogloboaadoor", sum := "42a9c7642c2387fe83b94ca36afe0bbc4523bc01179caacf2530f0aea9faa965", func := "loop.example/g01017/laws.FnExactMagnitudeText", spec := "fnExactMagnitudeText", recurses := true, named := ["internal/strconv.uint64pow10", "math/bits.deBruijn32tab", "math/bits.deBruijn64tab"], apart := false, laid := [("math/bits.deBruijn32tab", laid_math_bits_deBruijn32tab), ("math/bits.deBruijn64tab", laid_math_bits_deBruijn64tab), ("internal/strconv.uint64pow10", laid_internal_strconv_uint64pow10)], narrowed := true }
def FnExactMagnitudeTextUptoSaid : Prop := fnExactMagnitudeTextUptoRow.holds Tryd.pinned (OpenSpec.upto fnExactMagnitudeTextSpec)

/-- 'laws.FnExactLeastWidth', WHERE WHAT IT READS IS OF BULK AT MOST 1048576: true; the input reads as it did. -/
def fnExactLeastWidthUptoRow : OpenClaim := { program := "ytjnaigpogloboaadoor", sum := "42a9c7642c2387fe83b94ca36afe0bbc4523bc01179caacf2530f0aea9faa965", func := "loop.example/g01017/laws.FnExactLeastWidth", spec := "fnExactLeastWidth", named := ["internal/strconv.uint64pow10", "math/bits.deBruijn32tab", "math/bits.deBruijn64tab"], apart := false, laid := [("math/bits.deBruijn32tab", laid_math_bits_deBruijn32tab), ("math/bits.deBruijn64tab", laid_math_bits_deBruijn64tab), ("internal/strconv.uint64pow10", laid_internal_strconv_uint64pow10)], narrowed := true }
def FnExactLeastWidthUptoSaid : Prop := fnExactLeastWidthUptoRow.holds Tryd.pinned (OpenSpec.upto fnExactLeastWidthSpec)

/-- 'laws.FnExactMagnitudeOf', WHERE WHAT IT READS IS OF BULK AT MOST 1048576: true; the input reads as it did. -/
def fnExactMagnitudeOfUptoRow : OpenClaim := { program := "ytjnaigpogloboaadoor", sum := "42a9c7642c2387fe83b94ca36afe0bbc4523bc01179caacf2530f0aea9faa965", func := "loop.example/g01017/laws.FnExactMagnitudeOf", spec := "fnExactMagnitudeOf", named := ["internal/strconv.uint64pow10", "math/bits.deBruijn32tab", "math/bits.deBruijn64tab"], apart := false, laid := [("math/bits.deBruijn32tab", laid_math_bits_deBruijn32tab), ("math/bits.deBruijn64tab", laid_math_bits_deBruijn64tab), ("internal/strconv.uint64pow10", laid_internal_strconv_uint64pow10)], narrowed := true }
def FnExactMagnitudeOfUptoSaid : Prop := fnExactMagnitudeOfUptoRow.holds Tryd.pinned (OpenSpec.upto fnExactMagnitudeOfSpec)

/-- 'laws.FnExactMedianMagnitude', WHERE WHAT IT READS IS OF BULK AT MOST 1048576: true; the input reads as it did. -/
def fnExactMedianMagnitudeUptoRow : OpenClaim := { program := "ytjnaigpogloboaadoor", sum := "42a9c7642c2387fe83b94ca36afe0bbc4523bc01179caacf2530f0aea9faa965", func := "loop.example/g01017/laws.FnExactMedianMagnitude", spec := "fnExactMedianMagnitude", unfollowed := true, recurses := true, named := ["internal/strconv.uint64pow10", "math/bits.deBruijn32tab", "math/bits.deBruijn64tab"], apart := false, laid := [("math/bits.deBruijn32tab", laid_math_bits_deBruijn32tab), ("math/bits.deBruijn64tab", laid_math_bits_deBruijn64tab), ("internal/strconv.uint64pow10", laid_internal_strconv_uint64pow10)], narrowed := true }
def FnExactMedianMagnitudeUptoSaid : Prop := fnExactMedianMagnitudeUptoRow.holds Tryd.pinned (OpenSpec.upto fnExactMedianMagnitudeSpec)

/-- 'laws.FnExactResiduals', WHERE WHAT IT READS IS OF BULK AT MOST 1048576: true; the input reads as it did. -/
def fnExactResidualsUptoRow : OpenClaim := { program := "ytjnaigpogloboaadoor", sum := "42a9c7642c2387fe83b94ca36afe0bbc4523bc01179caacf2530f0aea9faa965", func := "loop.example/g01017/laws.FnExactResiduals", spec := "fnExactResiduals", unfollowed := true, recurses := true, named := ["internal/strconv.uint64pow10", "math/bits.deBruijn32tab", "math/bits.deBruijn64tab"], apart := false, laid := [("math/bits.deBruijn32tab", laid_math_bits_deBruijn32tab), ("math/bits.deBruijn64tab", laid_math_bits_deBruijn64tab), ("internal/strconv.uint64pow10", laid_internal_strconv_uint64pow10)], narrowed := true }
def FnExactResidualsUptoSaid : Prop := fnExactResidualsUptoRow.holds Tryd.pinned (OpenSpec.upto fnExactResidualsSpec)

/-- 'laws.FnExactNewTerms', WHERE WHAT IT READS IS OF BULK AT MOST 1048576: true; the input reads as it did. -/
def fnExactNewTermsUptoRow : OpenClaim := { program := "ytjnaigpogloboaadoor", sum := "42a9c7642c2387fe83b94ca36afe0bbc4523bc01179caacf2530f0aea9faa965", func := "loop.example/g01017/laws.FnExactNewTerms", spec := "fnExactNewTerms", unfollowed := true, recurses := true, named := ["internal/strconv.uint64pow10", "math/bits.deBruijn32tab", "math/bits.deBruijn64tab"], apart := false, laid := [("math/bits.deBruijn32tab", laid_math_bits_deBruijn32tab), ("math/bits.deBruijn64tab", laid_math_bits_deBruijn64tab), ("internal/strconv.uint64pow10", laid_internal_strconv_uint64pow10)], narrowed := true }
def FnExactNewTermsUptoSaid : Prop := fnExactNewTermsUptoRow.holds Tryd.pinned (OpenSpec.upto fnExactNewTermsSpec)

/-- 'laws.FnMagnitudes', WHERE WHAT IT READS IS OF BULK AT MOST 1048576: true; the input reads as it did. -/
def fnMagnitudesUptoRow : OpenClaim := { program := "ytjnaigpogloboaadoor", sum := "42a9c7642c2387fe83b94ca36afe0bbc4523bc01179caacf2530f0aea9faa965", func := "loop.example/g01017/laws.FnMagnitudes", spec := "fnMagnitudes", recurses := true, named := ["internal/strconv.uint64pow10", "math/bits.deBruijn32tab", "math/bits.deBruijn64tab"], apart := false, laid := [("math/bits.deBruijn32tab", laid_math_bits_deBruijn32tab), ("math/bits.deBruijn64tab", laid_math_bits_deBruijn64tab), ("internal/strconv.uint64pow10", laid_internal_strconv_uint64pow10)], narrowed := true }
def FnMagnitudesUptoSaid : Prop := fnMagnitudesUptoRow.holds Tryd.pinned (OpenSpec.upto fnMagnitudesSpec)

/-- 'laws.FnTerms', WHERE WHAT IT READS IS OF BULK AT MOST 1048576: true; the input reads as it did. -/
def fnTermsUptoRow : OpenClaim := { program := "ytjnaigpogloboaadoor", sum := "42a9c7642c2387fe83b94ca36afe0bbc4523bc01179caacf2530f0aea9faa965", func := "loop.example/g01017/laws.FnTerms", spec := "fnTerms", unfollowed := true, recurses := true, named := ["internal/strconv.uint64pow10", "math/bits.deBruijn32tab", "math/bits.deBruijn64tab"], apart := false, laid := [("math/bits.deBruijn32tab", laid_math_bits_deBruijn32tab), ("math/bits.deBruijn64tab", laid_math_bits_deBruijn64tab), ("internal/strconv.uint64pow10", laid_internal_strconv_uint64pow10)], narrowed := true }
def FnTermsUptoSaid : Prop := fnTermsUptoRow.holds Tryd.pinned (OpenSpec.upto fnTermsSpec)

end Rows
end Go.Proofs.YtjnaigpogloboaaDoor
