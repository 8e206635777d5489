/-
  DERIVED. GIVEN WITH THE SEED: THE CARDS: each row of YtpfinfneclmjkaaGreatDoorRows.lean that lists a variable, with what it lists TIED to the program's text (the seventh form; the later family's looks); each row that meets fmt, with fmt's text TOLD by the authors' own Lean function (tested against real Go, not proved from fmt's source: count such statements apart). THE CARD IS WHAT COUNTS. Prove the row's statement (the work); the ties are given (YtpfinfneclmjkaaGreatDoorTie.lean); close each card by the builder's one call (the guide's Derived/Test/ToyasCard.lean, 'card_holds'). Laid BY PROGRAM, IN A SANDBOX (cutbox-door.mjs). By AI agents, Wed Nov 11 2026. No macro, syntax, notation, axiom, sorry.
-/
import Derived.Test.YtpfinfneclmjkaaGreatDoorRows
import GoSem.ClaimSeven
namespace Go.Proofs.YtpfinfneclmjkaaGreatDoor
namespace Rows

/-- THE TIED CARD OF 'venntop.TopThree'. -/
def topThreeCard : Claim7 := { stood := { row := topThreeRow, standIns := [], harness := (true, "9a0a176aed108174c48f221157ef02a53feeb7a29c6b19988805471119dbd90d"), looks := true }, kinds := [], alts := [], laidByText := true, laidKinds := [.handle, .data], laidTests := true, laidLooks := .later }
def TopThreeCardSaid : Prop := Claim7.holds Tryz.pinned (.plain (OpenSpec.ofChange topThreeSpec)) topThreeCard

/-- THE TIED CARD OF 'venntop.TopSaid'. -/
def topSaidCard : Claim7 := { stood := { row := topSaidRow, standIns := [], harness := (true, "9a0a176aed108174c48f221157ef02a53feeb7a29c6b19988805471119dbd90d"), looks := true }, kinds := [], alts := [], laidByText := true, laidKinds := [.data, .data, .data, .handle, .data], laidTests := true, laidLooks := .later }
def TopSaidCardSaid : Prop := Claim7.holds Tryz.pinned (.plain (OpenSpec.ofChange topSaidSpec)) topSaidCard

/-- THE TIED CARD OF 'vennlaw3.LogKeeps'. -/
def logKeepsCard : Claim7 := { stood := { row := logKeepsRow, standIns := [], harness := (true, "9a0a176aed108174c48f221157ef02a53feeb7a29c6b19988805471119dbd90d"), looks := true }, kinds := [], alts := [], laidByText := true, laidKinds := [.data, .data, .data, .handle, .data], laidTests := true, laidLooks := .later }
def LogKeepsCardSaid : Prop := Claim7.holds Tryz.pinned (.plain (OpenSpec.ofChange logKeepsSpec)) logKeepsCard

/-- THE TIED CARD OF 'vennlaw3.LogStops'. -/
def logStopsCard : Claim7 := { stood := { row := logStopsRow, standIns := [], harness := (true, "9a0a176aed108174c48f221157ef02a53feeb7a29c6b19988805471119dbd90d"), looks := true }, kinds := [], alts := [], laidByText := true, laidKinds := [.data, .data, .data, .handle, .data], laidTests := true, laidLooks := .later }
def LogStopsCardSaid : Prop := Claim7.holds Tryz.pinned (.plain (OpenSpec.ofChange logStopsSpec)) logStopsCard

/-- THE TIED CARD OF 'vennlaw1.ModelTells'. -/
def modelTellsCard : Claim7 := { stood := { row := modelTellsRow, standIns := [], harness := (true, "9a0a176aed108174c48f221157ef02a53feeb7a29c6b19988805471119dbd90d"), looks := true }, kinds := [], alts := [], laidByText := true, laidKinds := [.handle, .data], laidTests := true, laidLooks := .later }
def ModelTellsCardSaid : Prop := Claim7.holds Tryz.pinned (.plain (OpenSpec.ofChange modelTellsSpec)) modelTellsCard

/-- THE TIED CARD OF 'vennlaw4.ModelMany'. -/
def modelManyCard : Claim7 := { stood := { row := modelManyRow, standIns := [], harness := (true, "9a0a176aed108174c48f221157ef02a53feeb7a29c6b19988805471119dbd90d"), looks := true }, kinds := [], alts := [], laidByText := true, laidKinds := [.handle, .data], laidTests := true, laidLooks := .later }
def ModelManyCardSaid : Prop := Claim7.holds Tryz.pinned (.plain (OpenSpec.ofChange modelManySpec)) modelManyCard

/-- THE TIED CARD OF 'vennlaw4.LeastMany'. -/
def leastManyCard : Claim7 := { stood := { row := leastManyRow, standIns := [], harness := (true, "9a0a176aed108174c48f221157ef02a53feeb7a29c6b19988805471119dbd90d"), looks := true }, kinds := [], alts := [], laidByText := true, laidKinds := [.handle, .data], laidTests := true, laidLooks := .later }
def LeastManyCardSaid : Prop := Claim7.holds Tryz.pinned (.plain (OpenSpec.ofChange leastManySpec)) leastManyCard

/-- THE TIED CARD OF 'vennlaw2.LeastTells'. -/
def leastTellsCard : Claim7 := { stood := { row := leastTellsRow, standIns := [], harness := (true, "9a0a176aed108174c48f221157ef02a53feeb7a29c6b19988805471119dbd90d"), looks := true }, kinds := [], alts := [], laidByText := true, laidKinds := [.handle, .data], laidTests := true, laidLooks := .later }
def LeastTellsCardSaid : Prop := Claim7.holds Tryz.pinned (.plain (OpenSpec.ofChange leastTellsSpec)) leastTellsCard

/-- THE TIED CARD OF 'vennlaw2.AlikeWorlds'. -/
def alikeWorldsCard : Claim7 := { stood := { row := alikeWorldsRow, standIns := [], harness := (true, "9a0a176aed108174c48f221157ef02a53feeb7a29c6b19988805471119dbd90d"), looks := true }, kinds := [], alts := [], laidByText := true, laidKinds := [.handle, .data], laidTests := true, laidLooks := .later }
def AlikeWorldsCardSaid : Prop := Claim7.holds Tryz.pinned (.plain (OpenSpec.ofChange alikeWorldsSpec)) alikeWorldsCard

/-- THE TIED CARD OF 'vennlaw1.ModelHolds'. -/
def modelHoldsCard : Claim7 := { stood := { row := modelHoldsRow, standIns := [], harness := (true, "9a0a176aed108174c48f221157ef02a53feeb7a29c6b19988805471119dbd90d"), looks := true }, kinds := [], alts := [], laidByText := true, laidKinds := [.handle, .data], laidTests := true, laidLooks := .later }
def ModelHoldsCardSaid : Prop := Claim7.holds Tryz.pinned (.plain (OpenSpec.ofChange modelHoldsSpec)) modelHoldsCard

/-- THE TIED CARD OF 'vennlaw2.WorldsAll'. -/
def worldsAllCard : Claim7 := { stood := { row := worldsAllRow, standIns := [], harness := (true, "9a0a176aed108174c48f221157ef02a53feeb7a29c6b19988805471119dbd90d"), looks := true }, kinds := [], alts := [], laidByText := true, laidKinds := [.handle, .data], laidTests := true, laidLooks := .later }
def WorldsAllCardSaid : Prop := Claim7.holds Tryz.pinned (.plain (OpenSpec.ofChange worldsAllSpec)) worldsAllCard

/-- THE TIED CARD OF 'vennlaw2.LeastFew'. -/
def leastFewCard : Claim7 := { stood := { row := leastFewRow, standIns := [], harness := (true, "9a0a176aed108174c48f221157ef02a53feeb7a29c6b19988805471119dbd90d"), looks := true }, kinds := [], alts := [], laidByText := true, laidKinds := [.handle, .data], laidTests := true, laidLooks := .later }
def LeastFewCardSaid : Prop := Claim7.holds Tryz.pinned (.plain (OpenSpec.ofChange leastFewSpec)) leastFewCard

/-- THE TIED CARD OF 'vennlaw4.TextLines'. -/
def textLinesCard : Claim7 := { stood := { row := textLinesRow, standIns := [], harness := (true, "9a0a176aed108174c48f221157ef02a53feeb7a29c6b19988805471119dbd90d"), looks := true }, kinds := [], alts := [], laidByText := true, laidKinds := [.data, .data, .data, .data, .handle, .sentinel, .sentinel, .data, .data, .pinned], laidTests := true, laidLooks := .later }
def TextLinesCardSaid : Prop := Claim7.holds Tryz.pinned (.plain (OpenSpec.ofChange textLinesSpec)) textLinesCard

/-- THE TIED CARD OF 'vennlaw2.TextTells'. -/
def textTellsCard : Claim7 := { stood := { row := textTellsRow, standIns := [], harness := (true, "9a0a176aed108174c48f221157ef02a53feeb7a29c6b19988805471119dbd90d"), looks := true }, kinds := [], alts := [], laidByText := true, laidKinds := [.data, .data, .data, .data, .handle, .sentinel, .sentinel, .data, .data, .pinned], laidTests := true, laidLooks := .later }
def TextTellsCardSaid : Prop := Claim7.holds Tryz.pinned (.plain (OpenSpec.ofChange textTellsSpec)) textTellsCard

/-- THE TIED CARD OF 'vennlaw1.AtomTells'. -/
def atomTellsCard : Claim7 := { stood := { row := atomTellsRow, standIns := [], harness := (true, "9a0a176aed108174c48f221157ef02a53feeb7a29c6b19988805471119dbd90d"), looks := true }, kinds := [], alts := [], laidByText := true, laidKinds := [.data, .data, .data, .data, .handle, .sentinel, .sentinel, .data, .pinned], laidTests := true, laidLooks := .later }
def AtomTellsCardSaid : Prop := Claim7.holds Tryz.pinned (.plain (OpenSpec.ofChange atomTellsSpec)) atomTellsCard

/-- THE TIED CARD OF 'vennlaw3.RunAnswers'. -/
def runAnswersCard : Claim7 := { stood := { row := runAnswersRow, standIns := [], harness := (true, "9a0a176aed108174c48f221157ef02a53feeb7a29c6b19988805471119dbd90d"), looks := true }, kinds := [], alts := [], laidByText := true, laidKinds := [.data, .data, .data, .data, .handle, .sentinel, .sentinel, .data, .wider, .pinned], laidTests := true, laidLooks := .later }
def RunAnswersCardSaid : Prop := Claim7.holds Tryz.pinned (.plain (OpenSpec.ofChange runAnswersSpec)) runAnswersCard

/-- THE TIED CARD OF 'vennlaw3.RunBegins'. -/
def runBeginsCard : Claim7 := { stood := { row := runBeginsRow, standIns := [], harness := (true, "9a0a176aed108174c48f221157ef02a53feeb7a29c6b19988805471119dbd90d"), looks := true }, kinds := [], alts := [], laidByText := true, laidKinds := [.data, .data, .data, .data, .handle, .sentinel, .sentinel, .data, .wider, .pinned], laidTests := true, laidLooks := .later }
def RunBeginsCardSaid : Prop := Claim7.holds Tryz.pinned (.plain (OpenSpec.ofChange runBeginsSpec)) runBeginsCard

/-- THE TIED CARD OF 'vennlaw3.RunCounts'. -/
def runCountsCard : Claim7 := { stood := { row := runCountsRow, standIns := [], harness := (true, "9a0a176aed108174c48f221157ef02a53feeb7a29c6b19988805471119dbd90d"), looks := true }, kinds := [], alts := [], laidByText := true, laidKinds := [.data, .data, .data, .data, .handle, .sentinel, .sentinel, .data, .wider, .pinned], laidTests := true, laidLooks := .later }
def RunCountsCardSaid : Prop := Claim7.holds Tryz.pinned (.plain (OpenSpec.ofChange runCountsSpec)) runCountsCard

/-- THE TIED CARD OF 'venntop.TopNames'. -/
def topNamesCard : Claim7 := { stood := { row := topNamesRow, standIns := [], harness := (true, "9a0a176aed108174c48f221157ef02a53feeb7a29c6b19988805471119dbd90d"), looks := true }, kinds := [], alts := [], laidByText := true, laidKinds := [.data, .data, .data, .data, .handle, .sentinel, .sentinel, .data, .data, .pinned], laidTests := true, laidLooks := .later }
def TopNamesCardSaid : Prop := Claim7.holds Tryz.pinned (.plain (OpenSpec.ofChange topNamesSpec)) topNamesCard

/-- THE SECOND FORM's CARD OF 'venntop.TopThree'. -/
def topThreeUptoCard : Claim7 := { stood := { row := topThreeUptoRow, standIns := [], harness := (true, "9a0a176aed108174c48f221157ef02a53feeb7a29c6b19988805471119dbd90d"), looks := true }, kinds := [], alts := [], laidByText := true, laidKinds := [.handle, .data], laidTests := true, laidLooks := .later }
def TopThreeUptoCardSaid : Prop := Claim7.holds Tryz.pinned (.plain (OpenSpec.upto topThreeSpec)) topThreeUptoCard

/-- THE SECOND FORM's CARD OF 'venntop.TopSaid'. -/
def topSaidUptoCard : Claim7 := { stood := { row := topSaidUptoRow, standIns := [], harness := (true, "9a0a176aed108174c48f221157ef02a53feeb7a29c6b19988805471119dbd90d"), looks := true }, kinds := [], alts := [], laidByText := true, laidKinds := [.data, .data, .data, .handle, .data], laidTests := true, laidLooks := .later }
def TopSaidUptoCardSaid : Prop := Claim7.holds Tryz.pinned (.plain (OpenSpec.upto topSaidSpec)) topSaidUptoCard

/-- THE SECOND FORM's CARD OF 'vennlaw3.LogKeeps'. -/
def logKeepsUptoCard : Claim7 := { stood := { row := logKeepsUptoRow, standIns := [], harness := (true, "9a0a176aed108174c48f221157ef02a53feeb7a29c6b19988805471119dbd90d"), looks := true }, kinds := [], alts := [], laidByText := true, laidKinds := [.data, .data, .data, .handle, .data], laidTests := true, laidLooks := .later }
def LogKeepsUptoCardSaid : Prop := Claim7.holds Tryz.pinned (.plain (OpenSpec.upto logKeepsSpec)) logKeepsUptoCard

/-- THE SECOND FORM's CARD OF 'vennlaw3.LogStops'. -/
def logStopsUptoCard : Claim7 := { stood := { row := logStopsUptoRow, standIns := [], harness := (true, "9a0a176aed108174c48f221157ef02a53feeb7a29c6b19988805471119dbd90d"), looks := true }, kinds := [], alts := [], laidByText := true, laidKinds := [.data, .data, .data, .handle, .data], laidTests := true, laidLooks := .later }
def LogStopsUptoCardSaid : Prop := Claim7.holds Tryz.pinned (.plain (OpenSpec.upto logStopsSpec)) logStopsUptoCard

/-- THE SECOND FORM's CARD OF 'vennlaw1.ModelTells'. -/
def modelTellsUptoCard : Claim7 := { stood := { row := modelTellsUptoRow, standIns := [], harness := (true, "9a0a176aed108174c48f221157ef02a53feeb7a29c6b19988805471119dbd90d"), looks := true }, kinds := [], alts := [], laidByText := true, laidKinds := [.handle, .data], laidTests := true, laidLooks := .later }
def ModelTellsUptoCardSaid : Prop := Claim7.holds Tryz.pinned (.plain (OpenSpec.upto modelTellsSpec)) modelTellsUptoCard

/-- THE SECOND FORM's CARD OF 'vennlaw4.ModelMany'. -/
def modelManyUptoCard : Claim7 := { stood := { row := modelManyUptoRow, standIns := [], harness := (true, "9a0a176aed108174c48f221157ef02a53feeb7a29c6b19988805471119dbd90d"), looks := true }, kinds := [], alts := [], laidByText := true, laidKinds := [.handle, .data], laidTests := true, laidLooks := .later }
def ModelManyUptoCardSaid : Prop := Claim7.holds Tryz.pinned (.plain (OpenSpec.upto modelManySpec)) modelManyUptoCard

/-- THE SECOND FORM's CARD OF 'vennlaw4.LeastMany'. -/
def leastManyUptoCard : Claim7 := { stood := { row := leastManyUptoRow, standIns := [], harness := (true, "9a0a176aed108174c48f221157ef02a53feeb7a29c6b19988805471119dbd90d"), looks := true }, kinds := [], alts := [], laidByText := true, laidKinds := [.handle, .data], laidTests := true, laidLooks := .later }
def LeastManyUptoCardSaid : Prop := Claim7.holds Tryz.pinned (.plain (OpenSpec.upto leastManySpec)) leastManyUptoCard

/-- THE SECOND FORM's CARD OF 'vennlaw2.LeastTells'. -/
def leastTellsUptoCard : Claim7 := { stood := { row := leastTellsUptoRow, standIns := [], harness := (true, "9a0a176aed108174c48f221157ef02a53feeb7a29c6b19988805471119dbd90d"), looks := true }, kinds := [], alts := [], laidByText := true, laidKinds := [.handle, .data], laidTests := true, laidLooks := .later }
def LeastTellsUptoCardSaid : Prop := Claim7.holds Tryz.pinned (.plain (OpenSpec.upto leastTellsSpec)) leastTellsUptoCard

/-- THE SECOND FORM's CARD OF 'vennlaw2.AlikeWorlds'. -/
def alikeWorldsUptoCard : Claim7 := { stood := { row := alikeWorldsUptoRow, standIns := [], harness := (true, "9a0a176aed108174c48f221157ef02a53feeb7a29c6b19988805471119dbd90d"), looks := true }, kinds := [], alts := [], laidByText := true, laidKinds := [.handle, .data], laidTests := true, laidLooks := .later }
def AlikeWorldsUptoCardSaid : Prop := Claim7.holds Tryz.pinned (.plain (OpenSpec.upto alikeWorldsSpec)) alikeWorldsUptoCard

/-- THE SECOND FORM's CARD OF 'vennlaw1.ModelHolds'. -/
def modelHoldsUptoCard : Claim7 := { stood := { row := modelHoldsUptoRow, standIns := [], harness := (true, "9a0a176aed108174c48f221157ef02a53feeb7a29c6b19988805471119dbd90d"), looks := true }, kinds := [], alts := [], laidByText := true, laidKinds := [.handle, .data], laidTests := true, laidLooks := .later }
def ModelHoldsUptoCardSaid : Prop := Claim7.holds Tryz.pinned (.plain (OpenSpec.upto modelHoldsSpec)) modelHoldsUptoCard

/-- THE SECOND FORM's CARD OF 'vennlaw2.WorldsAll'. -/
def worldsAllUptoCard : Claim7 := { stood := { row := worldsAllUptoRow, standIns := [], harness := (true, "9a0a176aed108174c48f221157ef02a53feeb7a29c6b19988805471119dbd90d"), looks := true }, kinds := [], alts := [], laidByText := true, laidKinds := [.handle, .data], laidTests := true, laidLooks := .later }
def WorldsAllUptoCardSaid : Prop := Claim7.holds Tryz.pinned (.plain (OpenSpec.upto worldsAllSpec)) worldsAllUptoCard

/-- THE SECOND FORM's CARD OF 'vennlaw2.LeastFew'. -/
def leastFewUptoCard : Claim7 := { stood := { row := leastFewUptoRow, standIns := [], harness := (true, "9a0a176aed108174c48f221157ef02a53feeb7a29c6b19988805471119dbd90d"), looks := true }, kinds := [], alts := [], laidByText := true, laidKinds := [.handle, .data], laidTests := true, laidLooks := .later }
def LeastFewUptoCardSaid : Prop := Claim7.holds Tryz.pinned (.plain (OpenSpec.upto leastFewSpec)) leastFewUptoCard

/-- THE SECOND FORM's CARD OF 'vennlaw4.TextLines'. -/
def textLinesUptoCard : Claim7 := { stood := { row := textLinesUptoRow, standIns := [], harness := (true, "9a0a176aed108174c48f221157ef02a53feeb7a29c6b19988805471119dbd90d"), looks := true }, kinds := [], alts := [], laidByText := true, laidKinds := [.data, .data, .data, .data, .handle, .sentinel, .sentinel, .data, .data, .pinned], laidTests := true, laidLooks := .later }
def TextLinesUptoCardSaid : Prop := Claim7.holds Tryz.pinned (.plain (OpenSpec.upto textLinesSpec)) textLinesUptoCard

/-- THE SECOND FORM's CARD OF 'vennlaw2.TextTells'. -/
def textTellsUptoCard : Claim7 := { stood := { row := textTellsUptoRow, standIns := [], harness := (true, "9a0a176aed108174c48f221157ef02a53feeb7a29c6b19988805471119dbd90d"), looks := true }, kinds := [], alts := [], laidByText := true, laidKinds := [.data, .data, .data, .data, .handle, .sentinel, .sentinel, .data, .data, .pinned], laidTests := true, laidLooks := .later }
def TextTellsUptoCardSaid : Prop := Claim7.holds Tryz.pinned (.plain (OpenSpec.upto textTellsSpec)) textTellsUptoCard

/-- THE SECOND FORM's CARD OF 'vennlaw1.AtomTells'. -/
def atomTellsUptoCard : Claim7 := { stood := { row := atomTellsUptoRow, standIns := [], harness := (true, "9a0a176aed108174c48f221157ef02a53feeb7a29c6b19988805471119dbd90d"), looks := true }, kinds := [], alts := [], laidByText := true, laidKinds := [.data, .data, .data, .data, .handle, .sentinel, .sentinel, .data, .pinned], laidTests := true, laidLooks := .later }
def AtomTellsUptoCardSaid : Prop := Claim7.holds Tryz.pinned (.plain (OpenSpec.upto atomTellsSpec)) atomTellsUptoCard

/-- THE SECOND FORM's CARD OF 'vennlaw3.RunAnswers'. -/
def runAnswersUptoCard : Claim7 := { stood := { row := runAnswersUptoRow, standIns := [], harness := (true, "9a0a176aed108174c48f221157ef02a53feeb7a29c6b19988805471119dbd90d"), looks := true }, kinds := [], alts := [], laidByText := true, laidKinds := [.data, .data, .data, .data, .handle, .sentinel, .sentinel, .data, .wider, .pinned], laidTests := true, laidLooks := .later }
def RunAnswersUptoCardSaid : Prop := Claim7.holds Tryz.pinned (.plain (OpenSpec.upto runAnswersSpec)) runAnswersUptoCard

/-- THE SECOND FORM's CARD OF 'vennlaw3.RunBegins'. -/
def runBeginsUptoCard : Claim7 := { stood := { row := runBeginsUptoRow, standIns := [], harness := (true, "9a0a176aed108174c48f221157ef02a53feeb7a29c6b19988805471119dbd90d"), looks := true }, kinds := [], alts := [], laidByText := true, laidKinds := [.data, .data, .data, .data, .handle, .sentinel, .sentinel, .data, .wider, .pinned], laidTests := true, laidLooks := .later }
def RunBeginsUptoCardSaid : Prop := Claim7.holds Tryz.pinned (.plain (OpenSpec.upto runBeginsSpec)) runBeginsUptoCard

/-- THE SECOND FORM's CARD OF 'vennlaw3.RunCounts'. -/
def runCountsUptoCard : Claim7 := { stood := { row := runCountsUptoRow, standIns := [], harness := (true, "9a0a176aed108174c48f221157ef02a53feeb7a29c6b19988805471119dbd90d"), looks := true }, kinds := [], alts := [], laidByText := true, laidKinds := [.data, .data, .data, .data, .handle, .sentinel, .sentinel, .data, .wider, .pinned], laidTests := true, laidLooks := .later }
def RunCountsUptoCardSaid : Prop := Claim7.holds Tryz.pinned (.plain (OpenSpec.upto runCountsSpec)) runCountsUptoCard

/-- THE SECOND FORM's CARD OF 'venntop.TopNames'. -/
def topNamesUptoCard : Claim7 := { stood := { row := topNamesUptoRow, standIns := [], harness := (true, "9a0a176aed108174c48f221157ef02a53feeb7a29c6b19988805471119dbd90d"), looks := true }, kinds := [], alts := [], laidByText := true, laidKinds := [.data, .data, .data, .data, .handle, .sentinel, .sentinel, .data, .data, .pinned], laidTests := true, laidLooks := .later }
def TopNamesUptoCardSaid : Prop := Claim7.holds Tryz.pinned (.plain (OpenSpec.upto topNamesSpec)) topNamesUptoCard
end Rows
end Go.Proofs.YtpfinfneclmjkaaGreatDoor
