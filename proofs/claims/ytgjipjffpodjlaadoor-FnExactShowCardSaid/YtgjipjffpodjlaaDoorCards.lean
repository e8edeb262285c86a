/-
  DERIVED. GIVEN WITH THE SEED: THE CARDS: each row of YtgjipjffpodjlaaDoorRows.lean that lists a variable, with what it lists TIED to the program's text (the seventh form; the later family's looks); each row that meets fmt, with fmt's text TOLD by the authors' own Lean function (tested against real Go, not proved from fmt's source: count such statements apart). THE CARD IS WHAT COUNTS. Prove the row's statement (the work); the ties are given (YtgjipjffpodjlaaDoorTie.lean); close each card by the builder's one call (the guide's Derived/Test/ToyasCard.lean, 'card_holds'). Laid BY PROGRAM, IN A SANDBOX (cutbox-door.mjs). By AI agents, Wed Nov 11 2026. No macro, syntax, notation, axiom, sorry.
-/
import Derived.Test.YtgjipjffpodjlaaDoorRows
import GoSem.ClaimSeven
namespace Go.Proofs.YtgjipjffpodjlaaDoor
namespace Rows

/-- THE TIED CARD OF 'laws.FnExactMergeText'. -/
def fnExactMergeTextCard : Claim7 := { stood := { row := fnExactMergeTextRow, standIns := [], harness := (true, "ba6089c23f474c937b4408116eda1a3a144f651f7af5db15bb1ef3ed52f5b5b5"), looks := false }, kinds := [], alts := [], laidByText := true, laidKinds := [.data, .pinned], laidTests := true, laidLooks := .later }
def FnExactMergeTextCardSaid : Prop := Claim7.holds Tryd.pinned (.plain (OpenSpec.ofChange fnExactMergeTextSpec)) fnExactMergeTextCard

/-- THE TIED CARD OF 'laws.FnMergeText'. -/
def fnMergeTextCard : Claim7 := { stood := { row := fnMergeTextRow, standIns := [], harness := (true, "ba6089c23f474c937b4408116eda1a3a144f651f7af5db15bb1ef3ed52f5b5b5"), looks := false }, kinds := [], alts := [], laidByText := true, laidKinds := [.data, .pinned], laidTests := true, laidLooks := .later }
def FnMergeTextCardSaid : Prop := Claim7.holds Tryd.pinned (.plain (OpenSpec.ofChange fnMergeTextSpec)) fnMergeTextCard

/-- THE TIED CARD OF 'laws.FnExactShow'. -/
def fnExactShowCard : Claim7 := { stood := { row := fnExactShowRow, standIns := [], harness := (true, "ba6089c23f474c937b4408116eda1a3a144f651f7af5db15bb1ef3ed52f5b5b5"), looks := false }, kinds := [], alts := [], laidByText := true, laidKinds := [.data, .sentinel, .pinned], laidTests := true, laidLooks := .later }
def FnExactShowCardSaid : Prop := Claim7.holds Tryd.pinned (.plain (OpenSpec.ofChange fnExactShowSpec)) fnExactShowCard

/-- THE TIED CARD OF 'laws.FnGlobs'. -/
def fnGlobsCard : Claim7 := { stood := { row := fnGlobsRow, standIns := [], harness := (true, "ba6089c23f474c937b4408116eda1a3a144f651f7af5db15bb1ef3ed52f5b5b5"), looks := false }, kinds := [], alts := [], laidByText := true, laidKinds := [.data, .pinned], laidTests := true, laidLooks := .later }
def FnGlobsCardSaid : Prop := Claim7.holds Tryd.pinned (.plain (OpenSpec.ofChange fnGlobsSpec)) fnGlobsCard

/-- THE SECOND FORM's CARD OF 'laws.FnExactMergeText'. -/
def fnExactMergeTextUptoCard : Claim7 := { stood := { row := fnExactMergeTextUptoRow, standIns := [], harness := (true, "ba6089c23f474c937b4408116eda1a3a144f651f7af5db15bb1ef3ed52f5b5b5"), looks := false }, kinds := [], alts := [], laidByText := true, laidKinds := [.data, .pinned], laidTests := true, laidLooks := .later }
def FnExactMergeTextUptoCardSaid : Prop := Claim7.holds Tryd.pinned (.plain (OpenSpec.upto fnExactMergeTextSpec)) fnExactMergeTextUptoCard

/-- THE SECOND FORM's CARD OF 'laws.FnMergeText'. -/
def fnMergeTextUptoCard : Claim7 := { stood := { row := fnMergeTextUptoRow, standIns := [], harness := (true, "ba6089c23f474c937b4408116eda1a3a144f651f7af5db15bb1ef3ed52f5b5b5"), looks := false }, kinds := [], alts := [], laidByText := true, laidKinds := [.data, .pinned], laidTests := true, laidLooks := .later }
def FnMergeTextUptoCardSaid : Prop := Claim7.holds Tryd.pinned (.plain (OpenSpec.upto fnMergeTextSpec)) fnMergeTextUptoCard

/-- THE SECOND FORM's CARD OF 'laws.FnExactShow'. -/
def fnExactShowUptoCard : Claim7 := { stood := { row := fnExactShowUptoRow, standIns := [], harness := (true, "ba6089c23f474c937b4408116eda1a3a144f651f7af5db15bb1ef3ed52f5b5b5"), looks := false }, kinds := [], alts := [], laidByText := true, laidKinds := [.data, .sentinel, .pinned], laidTests := true, laidLooks := .later }
def FnExactShowUptoCardSaid : Prop := Claim7.holds Tryd.pinned (.plain (OpenSpec.upto fnExactShowSpec)) fnExactShowUptoCard

/-- THE SECOND FORM's CARD OF 'laws.FnGlobs'. -/
def fnGlobsUptoCard : Claim7 := { stood := { row := fnGlobsUptoRow, standIns := [], harness := (true, "ba6089c23f474c937b4408116eda1a3a144f651f7af5db15bb1ef3ed52f5b5b5"), looks := false }, kinds := [], alts := [], laidByText := true, laidKinds := [.data, .pinned], laidTests := true, laidLooks := .later }
def FnGlobsUptoCardSaid : Prop := Claim7.holds Tryd.pinned (.plain (OpenSpec.upto fnGlobsSpec)) fnGlobsUptoCard
end Rows
end Go.Proofs.YtgjipjffpodjlaaDoor
