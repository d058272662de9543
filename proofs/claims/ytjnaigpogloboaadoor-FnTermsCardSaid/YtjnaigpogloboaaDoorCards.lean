/-
  DERIVED. GIVEN WITH THE SEED: THE CARDS: each row of YtjnaigpogloboaaDoorRows.lean that lists a variable, with what it lists TIED to the program's text (the seventh form; the later family's looks); each row that meets fmt, with fmt's text TOLD by the authors' own Lean function (tested against real Go, not proved from fmt's source: count such statements apart). THE CARD IS WHAT COUNTS. Prove the row's statement (the work); the ties are given (YtjnaigpogloboaaDoorTie.lean); close each card by the builder's one call (the guide's Derived/Test/ToyasCard.lean, 'card_holds'). Laid BY PROGRAM, IN A SANDBOX (cutbox-door.mjs). By AI agents, Wed Nov 11 2026. No macro, syntax, notation, axiom, sorry.
-/
import Derived.Test.YtjnaigpogloboaaDoorRows
import GoSem.ClaimSeven
namespace Go.Proofs.YtjnaigpogloboaaDoor
namespace Rows

/-- THE TIED CARD OF 'laws.FnExactSizeOf'. -/
def fnExactSizeOfCard : Claim7 := { stood := { row := fnExactSizeOfRow, standIns := [], harness := (true, "cfc6e74f944e372a24122c840a6d9ef2499e58309a595b18804188f145bf391e"), looks := false }, kinds := [], alts := [], laidByText := true, laidKinds := [.data, .data, .data], laidTests := true, laidLooks := .later }
def FnExactSizeOfCardSaid : Prop := Claim7.holds Tryd.pinned (.plain (OpenSpec.ofChange fnExactSizeOfSpec)) fnExactSizeOfCard

/-- THE TIED CARD OF 'laws.FnExactMagnitudeText'. -/
def fnExactMagnitudeTextCard : Claim7 := { stood := { row := fnExactMagnitudeTextRow, standIns := [], harness := (true, "cfc6e74f944e372a24122c840a6d9ef2499e58309a595b18804188f145bf391e"), looks := false }, kinds := [], alts := [], laidByText := true, laidKinds := [.data, .data, .data], laidTests := true, laidLooks := .later }
def FnExactMagnitudeTextCardSaid : Prop := Claim7.holds Tryd.pinned (.plain (OpenSpec.ofChange fnExactMagnitudeTextSpec)) fnExactMagnitudeTextCard

/-- THE TIED CARD OF 'laws.FnExactLeastWidth'. -/
def fnExactLeastWidthCard : Claim7 := { stood := { row := fnExactLeastWidthRow, standIns := [], harness := (true, "cfc6e74f944e372a24122c840a6d9ef2499e58309a595b18804188f145bf391e"), looks := false }, kinds := [], alts := [], laidByText := true, laidKinds := [.data, .data, .data], laidTests := true, laidLooks := .later }
def FnExactLeastWidthCardSaid : Prop := Claim7.holds Tryd.pinned (.plain (OpenSpec.ofChange fnExactLeastWidthSpec)) fnExactLeastWidthCard

/-- THE TIED CARD OF 'laws.FnExactMagnitudeOf'. -/
def fnExactMagnitudeOfCard : Claim7 := { stood := { row := fnExactMagnitudeOfRow, standIns := [], harness := (true, "cfc6e74f944e372a24122c840a6d9ef2499e58309a595b18804188f145bf391e"), looks := false }, kinds := [], alts := [], laidByText := true, laidKinds := [.data, .data, .data], laidTests := true, laidLooks := .later }
def FnExactMagnitudeOfCardSaid : Prop := Claim7.holds Tryd.pinned (.plain (OpenSpec.ofChange fnExactMagnitudeOfSpec)) fnExactMagnitudeOfCard

/-- THE TIED CARD OF 'laws.FnExactMedianMagnitude'. -/
def fnExactMedianMagnitudeCard : Claim7 := { stood := { row := fnExactMedianMagnitudeRow, standIns := [], harness := (true, "cfc6e74f944e372a24122c840a6d9ef2499e58309a595b18804188f145bf391e"), looks := false }, kinds := [], alts := [], laidByText := true, laidKinds := [.data, .data, .data], laidTests := true, laidLooks := .later }
def FnExactMedianMagnitudeCardSaid : Prop := Claim7.holds Tryd.pinned (.plain (OpenSpec.ofChange fnExactMedianMagnitudeSpec)) fnExactMedianMagnitudeCard

/-- THE TIED CARD OF 'laws.FnExactResiduals'. -/
def fnExactResidualsCard : Claim7 := { stood := { row := fnExactResidualsRow, standIns := [], harness := (true, "cfc6e74f944e372a24122c840a6d9ef2499e58309a595b18804188f145bf391e"), looks := false }, kinds := [], alts := [], laidByText := true, laidKinds := [.data, .data, .data], laidTests := true, laidLooks := .later }
def FnExactResidualsCardSaid : Prop := Claim7.holds Tryd.pinned (.plain (OpenSpec.ofChange fnExactResidualsSpec)) fnExactResidualsCard

/-- THE TIED CARD OF 'laws.FnExactNewTerms'. -/
def fnExactNewTermsCard : Claim7 := { stood := { row := fnExactNewTermsRow, standIns := [], harness := (true, "cfc6e74f944e372a24122c840a6d9ef2499e58309a595b18804188f145bf391e"), looks := false }, kinds := [], alts := [], laidByText := true, laidKinds := [.data, .data, .data], laidTests := true, laidLooks := .later }
def FnExactNewTermsCardSaid : Prop := Claim7.holds Tryd.pinned (.plain (OpenSpec.ofChange fnExactNewTermsSpec)) fnExactNewTermsCard

/-- THE TIED CARD OF 'laws.FnMagnitudes'. -/
def fnMagnitudesCard : Claim7 := { stood := { row := fnMagnitudesRow, standIns := [], harness := (true, "cfc6e74f944e372a24122c840a6d9ef2499e58309a595b18804188f145bf391e"), looks := false }, kinds := [], alts := [], laidByText := true, laidKinds := [.data, .data, .data], laidTests := true, laidLooks := .later }
def FnMagnitudesCardSaid : Prop := Claim7.holds Tryd.pinned (.plain (OpenSpec.ofChange fnMagnitudesSpec)) fnMagnitudesCard

/-- THE TIED CARD OF 'laws.FnTerms'. -/
def fnTermsCard : Claim7 := { stood := { row := fnTermsRow, standIns := [], harness := (true, "cfc6e74f944e372a24122c840a6d9ef2499e58309a595b18804188f145bf391e"), looks := false }, kinds := [], alts := [], laidByText := true, laidKinds := [.data, .data, .data], laidTests := true, laidLooks := .later }
def FnTermsCardSaid : Prop := Claim7.holds Tryd.pinned (.plain (OpenSpec.ofChange fnTermsSpec)) fnTermsCard

/-- THE SECOND FORM's CARD OF 'laws.FnExactSizeOf'. -/
def fnExactSizeOfUptoCard : Claim7 := { stood := { row := fnExactSizeOfUptoRow, standIns := [], harness := (true, "cfc6e74f944e372a24122c840a6d9ef2499e58309a595b18804188f145bf391e"), looks := false }, kinds := [], alts := [], laidByText := true, laidKinds := [.data, .data, .data], laidTests := true, laidLooks := .later }
def FnExactSizeOfUptoCardSaid : Prop := Claim7.holds Tryd.pinned (.plain (OpenSpec.upto fnExactSizeOfSpec)) fnExactSizeOfUptoCard

/-- THE SECOND FORM's CARD OF 'laws.FnExactMagnitudeText'. -/
def fnExactMagnitudeTextUptoCard : Claim7 := { stood := { row := fnExactMagnitudeTextUptoRow, standIns := [], harness := (true, "cfc6e74f944e372a24122c840a6d9ef2499e58309a595b18804188f145bf391e"), looks := false }, kinds := [], alts := [], laidByText := true, laidKinds := [.data, .data, .data], laidTests := true, laidLooks := .later }
def FnExactMagnitudeTextUptoCardSaid : Prop := Claim7.holds Tryd.pinned (.plain (OpenSpec.upto fnExactMagnitudeTextSpec)) fnExactMagnitudeTextUptoCard

/-- THE SECOND FORM's CARD OF 'laws.FnExactLeastWidth'. -/
def fnExactLeastWidthUptoCard : Claim7 := { stood := { row := fnExactLeastWidthUptoRow, standIns := [], harness := (true, "cfc6e74f944e372a24122c840a6d9ef2499e58309a595b18804188f145bf391e"), looks := false }, kinds := [], alts := [], laidByText := true, laidKinds := [.data, .data, .data], laidTests := true, laidLooks := .later }
def FnExactLeastWidthUptoCardSaid : Prop := Claim7.holds Tryd.pinned (.plain (OpenSpec.upto fnExactLeastWidthSpec)) fnExactLeastWidthUptoCard

/-- THE SECOND FORM's CARD OF 'laws.FnExactMagnitudeOf'. -/
def fnExactMagnitudeOfUptoCard : Claim7 := { stood := { row := fnExactMagnitudeOfUptoRow, standIns := [], harness := (true, "cfc6e74f944e372a24122c840a6d9ef2499e58309a595b18804188f145bf391e"), looks := false }, kinds := [], alts := [], laidByText := true, laidKinds := [.data, .data, .data], laidTests := true, laidLooks := .later }
def FnExactMagnitudeOfUptoCardSaid : Prop := Claim7.holds Tryd.pinned (.plain (OpenSpec.upto fnExactMagnitudeOfSpec)) fnExactMagnitudeOfUptoCard

/-- THE SECOND FORM's CARD OF 'laws.FnExactMedianMagnitude'. -/
def fnExactMedianMagnitudeUptoCard : Claim7 := { stood := { row := fnExactMedianMagnitudeUptoRow, standIns := [], harness := (true, "cfc6e74f944e372a24122c840a6d9ef2499e58309a595b18804188f145bf391e"), looks := false }, kinds := [], alts := [], laidByText := true, laidKinds := [.data, .data, .data], laidTests := true, laidLooks := .later }
def FnExactMedianMagnitudeUptoCardSaid : Prop := Claim7.holds Tryd.pinned (.plain (OpenSpec.upto fnExactMedianMagnitudeSpec)) fnExactMedianMagnitudeUptoCard

/-- THE SECOND FORM's CARD OF 'laws.FnExactResiduals'. -/
def fnExactResidualsUptoCard : Claim7 := { stood := { row := fnExactResidualsUptoRow, standIns := [], harness := (true, "cfc6e74f944e372a24122c840a6d9ef2499e58309a595b18804188f145bf391e"), looks := false }, kinds := [], alts := [], laidByText := true, laidKinds := [.data, .data, .data], laidTests := true, laidLooks := .later }
def FnExactResidualsUptoCardSaid : Prop := Claim7.holds Tryd.pinned (.plain (OpenSpec.upto fnExactResidualsSpec)) fnExactResidualsUptoCard

/-- THE SECOND FORM's CARD OF 'laws.FnExactNewTerms'. -/
def fnExactNewTermsUptoCard : Claim7 := { stood := { row := fnExactNewTermsUptoRow, standIns := [], harness := (true, "cfc6e74f944e372a24122c840a6d9ef2499e58309a595b18804188f145bf391e"), looks := false }, kinds := [], alts := [], laidByText := true, laidKinds := [.data, .data, .data], laidTests := true, laidLooks := .later }
def FnExactNewTermsUptoCardSaid : Prop := Claim7.holds Tryd.pinned (.plain (OpenSpec.upto fnExactNewTermsSpec)) fnExactNewTermsUptoCard

/-- THE SECOND FORM's CARD OF 'laws.FnMagnitudes'. -/
def fnMagnitudesUptoCard : Claim7 := { stood := { row := fnMagnitudesUptoRow, standIns := [], harness := (true, "cfc6e74f944e372a24122c840a6d9ef2499e58309a595b18804188f145bf391e"), looks := false }, kinds := [], alts := [], laidByText := true, laidKinds := [.data, .data, .data], laidTests := true, laidLooks := .later }
def FnMagnitudesUptoCardSaid : Prop := Claim7.holds Tryd.pinned (.plain (OpenSpec.upto fnMagnitudesSpec)) fnMagnitudesUptoCard

/-- THE SECOND FORM's CARD OF 'laws.FnTerms'. -/
def fnTermsUptoCard : Claim7 := { stood := { row := fnTermsUptoRow, standIns := [], harness := (true, "cfc6e74f944e372a24122c840a6d9ef2499e58309a595b18804188f145bf391e"), looks := false }, kinds := [], alts := [], laidByText := true, laidKinds := [.data, .data, .data], laidTests := true, laidLooks := .later }
def FnTermsUptoCardSaid : Prop := Claim7.holds Tryd.pinned (.plain (OpenSpec.upto fnTermsSpec)) fnTermsUptoCard
end Rows
end Go.Proofs.YtjnaigpogloboaaDoor
