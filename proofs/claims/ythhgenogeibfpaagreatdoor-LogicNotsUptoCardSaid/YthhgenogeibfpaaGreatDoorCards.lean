/-
  DERIVED. GIVEN WITH THE SEED: THE CARDS: each row of YthhgenogeibfpaaGreatDoorRows.lean that lists a variable, with what it lists TIED to the program's text (the seventh form; the later family's looks); each row that meets fmt, with fmt's text TOLD by the authors' own Lean function (tested against real Go, not proved from fmt's source: count such statements apart). THE CARD IS WHAT COUNTS. Prove the row's statement (the work); the ties are given (YthhgenogeibfpaaGreatDoorTie.lean); close each card by the builder's one call (the guide's Derived/Test/ToyasCard.lean, 'card_holds'). Laid BY PROGRAM, IN A SANDBOX (cutbox-door.mjs). By AI agents, Wed Nov 11 2026. No macro, syntax, notation, axiom, sorry.
-/
import Derived.Test.YthhgenogeibfpaaGreatDoorRows
import GoSem.ClaimSeven
namespace Go.Proofs.YthhgenogeibfpaaGreatDoor
namespace Rows

/-- THE TIED CARD OF 'smockinglaw10.LogicJust'. -/
def logicJustCard : Claim7 := { stood := { row := logicJustRow, standIns := [], harness := (true, "953406c2f22db84b361749044fb8572ae261eb8ec185a630ad712c387a88eace"), looks := true }, kinds := [], alts := [], laidByText := true, laidKinds := [.data, .data, .data], laidTests := true, laidLooks := .later }
def LogicJustCardSaid : Prop := Claim7.holds Tryz.pinned (.plain (OpenSpec.ofChange logicJustSpec)) logicJustCard

/-- THE TIED CARD OF 'smockinglaw10.LogicFar'. -/
def logicFarCard : Claim7 := { stood := { row := logicFarRow, standIns := [], harness := (true, "953406c2f22db84b361749044fb8572ae261eb8ec185a630ad712c387a88eace"), looks := true }, kinds := [], alts := [], laidByText := true, laidKinds := [.data, .data, .data], laidTests := true, laidLooks := .later }
def LogicFarCardSaid : Prop := Claim7.holds Tryz.pinned (.plain (OpenSpec.ofChange logicFarSpec)) logicFarCard

/-- THE TIED CARD OF 'smockinglaw10.LogicNots'. -/
def logicNotsCard : Claim7 := { stood := { row := logicNotsRow, standIns := [], harness := (true, "953406c2f22db84b361749044fb8572ae261eb8ec185a630ad712c387a88eace"), looks := true }, kinds := [], alts := [], laidByText := true, laidKinds := [.data, .data, .data], laidTests := true, laidLooks := .later }
def LogicNotsCardSaid : Prop := Claim7.holds Tryz.pinned (.plain (OpenSpec.ofChange logicNotsSpec)) logicNotsCard

/-- THE TIED CARD OF 'smockinglaw10.LogicDual'. -/
def logicDualCard : Claim7 := { stood := { row := logicDualRow, standIns := [], harness := (true, "953406c2f22db84b361749044fb8572ae261eb8ec185a630ad712c387a88eace"), looks := true }, kinds := [], alts := [], laidByText := true, laidKinds := [.data, .data, .data], laidTests := true, laidLooks := .later }
def LogicDualCardSaid : Prop := Claim7.holds Tryz.pinned (.plain (OpenSpec.ofChange logicDualSpec)) logicDualCard

/-- THE TIED CARD OF 'smockinglaw10.LogicRenames'. -/
def logicRenamesCard : Claim7 := { stood := { row := logicRenamesRow, standIns := [], harness := (true, "953406c2f22db84b361749044fb8572ae261eb8ec185a630ad712c387a88eace"), looks := true }, kinds := [], alts := [], laidByText := true, laidKinds := [.data, .data, .data], laidTests := true, laidLooks := .later }
def LogicRenamesCardSaid : Prop := Claim7.holds Tryz.pinned (.plain (OpenSpec.ofChange logicRenamesSpec)) logicRenamesCard

/-- THE TIED CARD OF 'smockinglaw10.LogicNames'. -/
def logicNamesCard : Claim7 := { stood := { row := logicNamesRow, standIns := [], harness := (true, "953406c2f22db84b361749044fb8572ae261eb8ec185a630ad712c387a88eace"), looks := true }, kinds := [], alts := [], laidByText := true, laidKinds := [.data, .data, .data], laidTests := true, laidLooks := .later }
def LogicNamesCardSaid : Prop := Claim7.holds Tryz.pinned (.plain (OpenSpec.ofChange logicNamesSpec)) logicNamesCard

/-- THE TIED CARD OF 'smockinglaw10.LogicTexts'. -/
def logicTextsCard : Claim7 := { stood := { row := logicTextsRow, standIns := [], harness := (true, "953406c2f22db84b361749044fb8572ae261eb8ec185a630ad712c387a88eace"), looks := true }, kinds := [], alts := [], laidByText := true, laidKinds := [.data, .data, .data, .sentinel, .sentinel], laidTests := true, laidLooks := .later }
def LogicTextsCardSaid : Prop := Claim7.holds Tryz.pinned (.plain (OpenSpec.ofChange logicTextsSpec)) logicTextsCard

/-- THE TIED CARD OF 'smockinglaw10.LogicBack'. -/
def logicBackCard : Claim7 := { stood := { row := logicBackRow, standIns := [], harness := (true, "953406c2f22db84b361749044fb8572ae261eb8ec185a630ad712c387a88eace"), looks := true }, kinds := [], alts := [], laidByText := true, laidKinds := [.data, .data, .data, .sentinel, .sentinel], laidTests := true, laidLooks := .later }
def LogicBackCardSaid : Prop := Claim7.holds Tryz.pinned (.plain (OpenSpec.ofChange logicBackSpec)) logicBackCard

/-- THE TIED CARD OF 'smockinglaw10.LogicHolds'. -/
def logicHoldsCard : Claim7 := { stood := { row := logicHoldsRow, standIns := [], harness := (true, "953406c2f22db84b361749044fb8572ae261eb8ec185a630ad712c387a88eace"), looks := true }, kinds := [], alts := [], laidByText := true, laidKinds := [.data, .data, .data, .data, .pinned, .pinned, .pinned, .pinned, .pinned, .pinned], laidTests := true, laidLooks := .later }
def LogicHoldsCardSaid : Prop := Claim7.holds Tryz.pinned (.plain (OpenSpec.ofChange logicHoldsSpec)) logicHoldsCard

/-- THE TIED CARD OF 'smockinglaw10.LogicMarks'. -/
def logicMarksCard : Claim7 := { stood := { row := logicMarksRow, standIns := [], harness := (true, "953406c2f22db84b361749044fb8572ae261eb8ec185a630ad712c387a88eace"), looks := true }, kinds := [], alts := [], laidByText := true, laidKinds := [.data, .data, .data, .data, .pinned, .pinned, .pinned, .pinned, .pinned, .pinned], laidTests := true, laidLooks := .later }
def LogicMarksCardSaid : Prop := Claim7.holds Tryz.pinned (.plain (OpenSpec.ofChange logicMarksSpec)) logicMarksCard

/-- THE SECOND FORM's CARD OF 'smockinglaw10.LogicJust'. -/
def logicJustUptoCard : Claim7 := { stood := { row := logicJustUptoRow, standIns := [], harness := (true, "953406c2f22db84b361749044fb8572ae261eb8ec185a630ad712c387a88eace"), looks := true }, kinds := [], alts := [], laidByText := true, laidKinds := [.data, .data, .data], laidTests := true, laidLooks := .later }
def LogicJustUptoCardSaid : Prop := Claim7.holds Tryz.pinned (.plain (OpenSpec.upto logicJustSpec)) logicJustUptoCard

/-- THE SECOND FORM's CARD OF 'smockinglaw10.LogicFar'. -/
def logicFarUptoCard : Claim7 := { stood := { row := logicFarUptoRow, standIns := [], harness := (true, "953406c2f22db84b361749044fb8572ae261eb8ec185a630ad712c387a88eace"), looks := true }, kinds := [], alts := [], laidByText := true, laidKinds := [.data, .data, .data], laidTests := true, laidLooks := .later }
def LogicFarUptoCardSaid : Prop := Claim7.holds Tryz.pinned (.plain (OpenSpec.upto logicFarSpec)) logicFarUptoCard

/-- THE SECOND FORM's CARD OF 'smockinglaw10.LogicNots'. -/
def logicNotsUptoCard : Claim7 := { stood := { row := logicNotsUptoRow, standIns := [], harness := (true, "953406c2f22db84b361749044fb8572ae261eb8ec185a630ad712c387a88eace"), looks := true }, kinds := [], alts := [], laidByText := true, laidKinds := [.data, .data, .data], laidTests := true, laidLooks := .later }
def LogicNotsUptoCardSaid : Prop := Claim7.holds Tryz.pinned (.plain (OpenSpec.upto logicNotsSpec)) logicNotsUptoCard

/-- THE SECOND FORM's CARD OF 'smockinglaw10.LogicDual'. -/
def logicDualUptoCard : Claim7 := { stood := { row := logicDualUptoRow, standIns := [], harness := (true, "953406c2f22db84b361749044fb8572ae261eb8ec185a630ad712c387a88eace"), looks := true }, kinds := [], alts := [], laidByText := true, laidKinds := [.data, .data, .data], laidTests := true, laidLooks := .later }
def LogicDualUptoCardSaid : Prop := Claim7.holds Tryz.pinned (.plain (OpenSpec.upto logicDualSpec)) logicDualUptoCard

/-- THE SECOND FORM's CARD OF 'smockinglaw10.LogicRenames'. -/
def logicRenamesUptoCard : Claim7 := { stood := { row := logicRenamesUptoRow, standIns := [], harness := (true, "953406c2f22db84b361749044fb8572ae261eb8ec185a630ad712c387a88eace"), looks := true }, kinds := [], alts := [], laidByText := true, laidKinds := [.data, .data, .data], laidTests := true, laidLooks := .later }
def LogicRenamesUptoCardSaid : Prop := Claim7.holds Tryz.pinned (.plain (OpenSpec.upto logicRenamesSpec)) logicRenamesUptoCard

/-- THE SECOND FORM's CARD OF 'smockinglaw10.LogicNames'. -/
def logicNamesUptoCard : Claim7 := { stood := { row := logicNamesUptoRow, standIns := [], harness := (true, "953406c2f22db84b361749044fb8572ae261eb8ec185a630ad712c387a88eace"), looks := true }, kinds := [], alts := [], laidByText := true, laidKinds := [.data, .data, .data], laidTests := true, laidLooks := .later }
def LogicNamesUptoCardSaid : Prop := Claim7.holds Tryz.pinned (.plain (OpenSpec.upto logicNamesSpec)) logicNamesUptoCard

/-- THE SECOND FORM's CARD OF 'smockinglaw10.LogicTexts'. -/
def logicTextsUptoCard : Claim7 := { stood := { row := logicTextsUptoRow, standIns := [], harness := (true, "953406c2f22db84b361749044fb8572ae261eb8ec185a630ad712c387a88eace"), looks := true }, kinds := [], alts := [], laidByText := true, laidKinds := [.data, .data, .data, .sentinel, .sentinel], laidTests := true, laidLooks := .later }
def LogicTextsUptoCardSaid : Prop := Claim7.holds Tryz.pinned (.plain (OpenSpec.upto logicTextsSpec)) logicTextsUptoCard

/-- THE SECOND FORM's CARD OF 'smockinglaw10.LogicBack'. -/
def logicBackUptoCard : Claim7 := { stood := { row := logicBackUptoRow, standIns := [], harness := (true, "953406c2f22db84b361749044fb8572ae261eb8ec185a630ad712c387a88eace"), looks := true }, kinds := [], alts := [], laidByText := true, laidKinds := [.data, .data, .data, .sentinel, .sentinel], laidTests := true, laidLooks := .later }
def LogicBackUptoCardSaid : Prop := Claim7.holds Tryz.pinned (.plain (OpenSpec.upto logicBackSpec)) logicBackUptoCard

/-- THE SECOND FORM's CARD OF 'smockinglaw10.LogicHolds'. -/
def logicHoldsUptoCard : Claim7 := { stood := { row := logicHoldsUptoRow, standIns := [], harness := (true, "953406c2f22db84b361749044fb8572ae261eb8ec185a630ad712c387a88eace"), looks := true }, kinds := [], alts := [], laidByText := true, laidKinds := [.data, .data, .data, .data, .pinned, .pinned, .pinned, .pinned, .pinned, .pinned], laidTests := true, laidLooks := .later }
def LogicHoldsUptoCardSaid : Prop := Claim7.holds Tryz.pinned (.plain (OpenSpec.upto logicHoldsSpec)) logicHoldsUptoCard

/-- THE SECOND FORM's CARD OF 'smockinglaw10.LogicMarks'. -/
def logicMarksUptoCard : Claim7 := { stood := { row := logicMarksUptoRow, standIns := [], harness := (true, "953406c2f22db84b361749044fb8572ae261eb8ec185a630ad712c387a88eace"), looks := true }, kinds := [], alts := [], laidByText := true, laidKinds := [.data, .data, .data, .data, .pinned, .pinned, .pinned, .pinned, .pinned, .pinned], laidTests := true, laidLooks := .later }
def LogicMarksUptoCardSaid : Prop := Claim7.holds Tryz.pinned (.plain (OpenSpec.upto logicMarksSpec)) logicMarksUptoCard
end Rows
end Go.Proofs.YthhgenogeibfpaaGreatDoor
