/-
  DERIVED. GIVEN WITH THE SEED: THE CARDS: each row of YtgbahfggnbpnmaaDoorRows.lean that lists a variable, with what it lists TIED to the program's text (the seventh form; the later family's looks); each row that meets fmt, with fmt's text TOLD by the authors' own Lean function (tested against real Go, not proved from fmt's source: count such statements apart). THE CARD IS WHAT COUNTS. Prove the row's statement (the work); the ties are given (YtgbahfggnbpnmaaDoorTie.lean); close each card by the builder's one call (the guide's Derived/Test/ToyasCard.lean, 'card_holds'). Laid BY PROGRAM, IN A SANDBOX (cutbox-door.mjs). By AI agents, Wed Nov 11 2026. No macro, syntax, notation, axiom, sorry.
-/
import Derived.Test.YtgbahfggnbpnmaaDoorRows
import GoSem.ClaimSeven
namespace Go.Proofs.YtgbahfggnbpnmaaDoor
namespace Rows

/-- THE TIED CARD OF 'liverylaw02.Sha2Blocks'. -/
def sha2BlocksCard : Claim7 := { stood := { row := sha2BlocksRow, standIns := [], harness := (true, "2962bb582eeff3d6af7a949cc43795bac73eb605e7ccbfa1eef7e600f13ff1d0"), looks := false }, kinds := [], alts := [], laidByText := true, laidKinds := [.data, .data], laidTests := true, laidLooks := .later }
def Sha2BlocksCardSaid : Prop := Claim7.holds Tryd.pinned (.plain (OpenSpec.ofChange sha2BlocksSpec)) sha2BlocksCard

/-- THE TIED CARD OF 'liverylaw02.Sha2Pieces'. -/
def sha2PiecesCard : Claim7 := { stood := { row := sha2PiecesRow, standIns := [], harness := (true, "2962bb582eeff3d6af7a949cc43795bac73eb605e7ccbfa1eef7e600f13ff1d0"), looks := false }, kinds := [], alts := [], laidByText := true, laidKinds := [.data, .data], laidTests := true, laidLooks := .later }
def Sha2PiecesCardSaid : Prop := Claim7.holds Tryd.pinned (.plain (OpenSpec.ofChange sha2PiecesSpec)) sha2PiecesCard

/-- THE TIED CARD OF 'liverylaw02.Sha2Sums'. -/
def sha2SumsCard : Claim7 := { stood := { row := sha2SumsRow, standIns := [], harness := (true, "2962bb582eeff3d6af7a949cc43795bac73eb605e7ccbfa1eef7e600f13ff1d0"), looks := false }, kinds := [], alts := [], laidByText := true, laidKinds := [.data, .data], laidTests := true, laidLooks := .later }
def Sha2SumsCardSaid : Prop := Claim7.holds Tryd.pinned (.plain (OpenSpec.ofChange sha2SumsSpec)) sha2SumsCard

/-- THE TIED CARD OF 'liverylaw02.Sha2Hashes'. -/
def sha2HashesCard : Claim7 := { stood := { row := sha2HashesRow, standIns := [], harness := (true, "2962bb582eeff3d6af7a949cc43795bac73eb605e7ccbfa1eef7e600f13ff1d0"), looks := false }, kinds := [], alts := [], laidByText := true, laidKinds := [.data, .data], laidTests := true, laidLooks := .later }
def Sha2HashesCardSaid : Prop := Claim7.holds Tryd.pinned (.plain (OpenSpec.ofChange sha2HashesSpec)) sha2HashesCard

/-- THE TIED CARD OF 'liverylaw02.Sha2None'. -/
def sha2NoneCard : Claim7 := { stood := { row := sha2NoneRow, standIns := [], harness := (true, "2962bb582eeff3d6af7a949cc43795bac73eb605e7ccbfa1eef7e600f13ff1d0"), looks := false }, kinds := [], alts := [], laidByText := true, laidKinds := [.data, .data], laidTests := true, laidLooks := .later }
def Sha2NoneCardSaid : Prop := Claim7.holds Tryd.pinned (.plain (OpenSpec.ofChange sha2NoneSpec)) sha2NoneCard

/-- THE TIED CARD OF 'liverylaw02.Sha2Padded'. -/
def sha2PaddedCard : Claim7 := { stood := { row := sha2PaddedRow, standIns := [], harness := (true, "2962bb582eeff3d6af7a949cc43795bac73eb605e7ccbfa1eef7e600f13ff1d0"), looks := false }, kinds := [], alts := [], laidByText := true, laidKinds := [.data, .data], laidTests := true, laidLooks := .later }
def Sha2PaddedCardSaid : Prop := Claim7.holds Tryd.pinned (.plain (OpenSpec.ofChange sha2PaddedSpec)) sha2PaddedCard

/-- THE TIED CARD OF 'liverylaw02.Sha2Begins'. -/
def sha2BeginsCard : Claim7 := { stood := { row := sha2BeginsRow, standIns := [], harness := (true, "2962bb582eeff3d6af7a949cc43795bac73eb605e7ccbfa1eef7e600f13ff1d0"), looks := false }, kinds := [], alts := [], laidByText := true, laidKinds := [.data, .data], laidTests := true, laidLooks := .later }
def Sha2BeginsCardSaid : Prop := Claim7.holds Tryd.pinned (.plain (OpenSpec.ofChange sha2BeginsSpec)) sha2BeginsCard

/-- THE TIED CARD OF 'liverylaw02.Sha2Keys'. -/
def sha2KeysCard : Claim7 := { stood := { row := sha2KeysRow, standIns := [], harness := (true, "2962bb582eeff3d6af7a949cc43795bac73eb605e7ccbfa1eef7e600f13ff1d0"), looks := false }, kinds := [], alts := [], laidByText := true, laidKinds := [.data, .data], laidTests := true, laidLooks := .later }
def Sha2KeysCardSaid : Prop := Claim7.holds Tryd.pinned (.plain (OpenSpec.ofChange sha2KeysSpec)) sha2KeysCard

/-- THE TIED CARD OF 'liverylaw04.SealSeals'. -/
def sealSealsCard : Claim7 := { stood := { row := sealSealsRow, standIns := [], harness := (true, "2962bb582eeff3d6af7a949cc43795bac73eb605e7ccbfa1eef7e600f13ff1d0"), looks := false }, kinds := [], alts := [], laidByText := true, laidKinds := [.data, .data], laidTests := true, laidLooks := .later }
def SealSealsCardSaid : Prop := Claim7.holds Tryd.pinned (.plain (OpenSpec.ofChange sealSealsSpec)) sealSealsCard

/-- THE TIED CARD OF 'liverylaw04.SealOpens'. -/
def sealOpensCard : Claim7 := { stood := { row := sealOpensRow, standIns := [], harness := (true, "2962bb582eeff3d6af7a949cc43795bac73eb605e7ccbfa1eef7e600f13ff1d0"), looks := false }, kinds := [], alts := [], laidByText := true, laidKinds := [.data, .data], laidTests := true, laidLooks := .later }
def SealOpensCardSaid : Prop := Claim7.holds Tryd.pinned (.plain (OpenSpec.ofChange sealOpensSpec)) sealOpensCard

/-- THE TIED CARD OF 'liverylaw04.SealBack'. -/
def sealBackCard : Claim7 := { stood := { row := sealBackRow, standIns := [], harness := (true, "2962bb582eeff3d6af7a949cc43795bac73eb605e7ccbfa1eef7e600f13ff1d0"), looks := false }, kinds := [], alts := [], laidByText := true, laidKinds := [.data, .data], laidTests := true, laidLooks := .later }
def SealBackCardSaid : Prop := Claim7.holds Tryd.pinned (.plain (OpenSpec.ofChange sealBackSpec)) sealBackCard

/-- THE TIED CARD OF 'liverylaw04.SealTags'. -/
def sealTagsCard : Claim7 := { stood := { row := sealTagsRow, standIns := [], harness := (true, "2962bb582eeff3d6af7a949cc43795bac73eb605e7ccbfa1eef7e600f13ff1d0"), looks := false }, kinds := [], alts := [], laidByText := true, laidKinds := [.data, .data], laidTests := true, laidLooks := .later }
def SealTagsCardSaid : Prop := Claim7.holds Tryd.pinned (.plain (OpenSpec.ofChange sealTagsSpec)) sealTagsCard

/-- THE TIED CARD OF 'liverylaw04.SealBits'. -/
def sealBitsCard : Claim7 := { stood := { row := sealBitsRow, standIns := [], harness := (true, "2962bb582eeff3d6af7a949cc43795bac73eb605e7ccbfa1eef7e600f13ff1d0"), looks := false }, kinds := [], alts := [], laidByText := true, laidKinds := [.data, .data], laidTests := true, laidLooks := .later }
def SealBitsCardSaid : Prop := Claim7.holds Tryd.pinned (.plain (OpenSpec.ofChange sealBitsSpec)) sealBitsCard

/-- THE TIED CARD OF 'liverylaw04.SealKeys'. -/
def sealKeysCard : Claim7 := { stood := { row := sealKeysRow, standIns := [], harness := (true, "2962bb582eeff3d6af7a949cc43795bac73eb605e7ccbfa1eef7e600f13ff1d0"), looks := false }, kinds := [], alts := [], laidByText := true, laidKinds := [.data, .data], laidTests := true, laidLooks := .later }
def SealKeysCardSaid : Prop := Claim7.holds Tryd.pinned (.plain (OpenSpec.ofChange sealKeysSpec)) sealKeysCard

/-- THE TIED CARD OF 'liverylaw05.DrbgFull'. -/
def drbgFullCard : Claim7 := { stood := { row := drbgFullRow, standIns := [], harness := (true, "2962bb582eeff3d6af7a949cc43795bac73eb605e7ccbfa1eef7e600f13ff1d0"), looks := false }, kinds := [], alts := [], laidByText := true, laidKinds := [.data, .data], laidTests := true, laidLooks := .later }
def DrbgFullCardSaid : Prop := Claim7.holds Tryd.pinned (.plain (OpenSpec.ofChange drbgFullSpec)) drbgFullCard

/-- THE TIED CARD OF 'liverylaw05.DrbgSame'. -/
def drbgSameCard : Claim7 := { stood := { row := drbgSameRow, standIns := [], harness := (true, "2962bb582eeff3d6af7a949cc43795bac73eb605e7ccbfa1eef7e600f13ff1d0"), looks := false }, kinds := [], alts := [], laidByText := true, laidKinds := [.data, .data], laidTests := true, laidLooks := .later }
def DrbgSameCardSaid : Prop := Claim7.holds Tryd.pinned (.plain (OpenSpec.ofChange drbgSameSpec)) drbgSameCard

/-- THE TIED CARD OF 'liverylaw05.DrbgParts'. -/
def drbgPartsCard : Claim7 := { stood := { row := drbgPartsRow, standIns := [], harness := (true, "2962bb582eeff3d6af7a949cc43795bac73eb605e7ccbfa1eef7e600f13ff1d0"), looks := false }, kinds := [], alts := [], laidByText := true, laidKinds := [.data, .data], laidTests := true, laidLooks := .later }
def DrbgPartsCardSaid : Prop := Claim7.holds Tryd.pinned (.plain (OpenSpec.ofChange drbgPartsSpec)) drbgPartsCard

/-- THE TIED CARD OF 'liverylaw05.DrbgDoes'. -/
def drbgDoesCard : Claim7 := { stood := { row := drbgDoesRow, standIns := [], harness := (true, "2962bb582eeff3d6af7a949cc43795bac73eb605e7ccbfa1eef7e600f13ff1d0"), looks := false }, kinds := [], alts := [], laidByText := true, laidKinds := [.data, .data], laidTests := true, laidLooks := .later }
def DrbgDoesCardSaid : Prop := Claim7.holds Tryd.pinned (.plain (OpenSpec.ofChange drbgDoesSpec)) drbgDoesCard

/-- THE TIED CARD OF 'liverylaw05.DrbgNone'. -/
def drbgNoneCard : Claim7 := { stood := { row := drbgNoneRow, standIns := [], harness := (true, "2962bb582eeff3d6af7a949cc43795bac73eb605e7ccbfa1eef7e600f13ff1d0"), looks := false }, kinds := [], alts := [], laidByText := true, laidKinds := [.data, .data], laidTests := true, laidLooks := .later }
def DrbgNoneCardSaid : Prop := Claim7.holds Tryd.pinned (.plain (OpenSpec.ofChange drbgNoneSpec)) drbgNoneCard

/-- THE TIED CARD OF 'liverylaw18.JournalNone'. -/
def journalNoneCard : Claim7 := { stood := { row := journalNoneRow, standIns := [], harness := (true, "2962bb582eeff3d6af7a949cc43795bac73eb605e7ccbfa1eef7e600f13ff1d0"), looks := false }, kinds := [], alts := [], laidByText := true, laidKinds := [.data, .data], laidTests := true, laidLooks := .later }
def JournalNoneCardSaid : Prop := Claim7.holds Tryd.pinned (.plain (OpenSpec.ofChange journalNoneSpec)) journalNoneCard

/-- THE TIED CARD OF 'liverylaw18.JournalOpens'. -/
def journalOpensCard : Claim7 := { stood := { row := journalOpensRow, standIns := [], harness := (true, "2962bb582eeff3d6af7a949cc43795bac73eb605e7ccbfa1eef7e600f13ff1d0"), looks := false }, kinds := [], alts := [], laidByText := true, laidKinds := [.data, .data], laidTests := true, laidLooks := .later }
def JournalOpensCardSaid : Prop := Claim7.holds Tryd.pinned (.plain (OpenSpec.ofChange journalOpensSpec)) journalOpensCard

/-- THE TIED CARD OF 'liverylaw18.JournalBack'. -/
def journalBackCard : Claim7 := { stood := { row := journalBackRow, standIns := [], harness := (true, "2962bb582eeff3d6af7a949cc43795bac73eb605e7ccbfa1eef7e600f13ff1d0"), looks := false }, kinds := [], alts := [], laidByText := true, laidKinds := [.data, .data], laidTests := true, laidLooks := .later }
def JournalBackCardSaid : Prop := Claim7.holds Tryd.pinned (.plain (OpenSpec.ofChange journalBackSpec)) journalBackCard

/-- THE TIED CARD OF 'liverylaw18.JournalWhole'. -/
def journalWholeCard : Claim7 := { stood := { row := journalWholeRow, standIns := [], harness := (true, "2962bb582eeff3d6af7a949cc43795bac73eb605e7ccbfa1eef7e600f13ff1d0"), looks := false }, kinds := [], alts := [], laidByText := true, laidKinds := [.data, .data], laidTests := true, laidLooks := .later }
def JournalWholeCardSaid : Prop := Claim7.holds Tryd.pinned (.plain (OpenSpec.ofChange journalWholeSpec)) journalWholeCard

/-- THE SECOND FORM's CARD OF 'liverylaw02.Sha2Blocks'. -/
def sha2BlocksUptoCard : Claim7 := { stood := { row := sha2BlocksUptoRow, standIns := [], harness := (true, "2962bb582eeff3d6af7a949cc43795bac73eb605e7ccbfa1eef7e600f13ff1d0"), looks := false }, kinds := [], alts := [], laidByText := true, laidKinds := [.data, .data], laidTests := true, laidLooks := .later }
def Sha2BlocksUptoCardSaid : Prop := Claim7.holds Tryd.pinned (.plain (OpenSpec.upto sha2BlocksSpec)) sha2BlocksUptoCard

/-- THE SECOND FORM's CARD OF 'liverylaw02.Sha2Pieces'. -/
def sha2PiecesUptoCard : Claim7 := { stood := { row := sha2PiecesUptoRow, standIns := [], harness := (true, "2962bb582eeff3d6af7a949cc43795bac73eb605e7ccbfa1eef7e600f13ff1d0"), looks := false }, kinds := [], alts := [], laidByText := true, laidKinds := [.data, .data], laidTests := true, laidLooks := .later }
def Sha2PiecesUptoCardSaid : Prop := Claim7.holds Tryd.pinned (.plain (OpenSpec.upto sha2PiecesSpec)) sha2PiecesUptoCard

/-- THE SECOND FORM's CARD OF 'liverylaw02.Sha2Sums'. -/
def sha2SumsUptoCard : Claim7 := { stood := { row := sha2SumsUptoRow, standIns := [], harness := (true, "2962bb582eeff3d6af7a949cc43795bac73eb605e7ccbfa1eef7e600f13ff1d0"), looks := false }, kinds := [], alts := [], laidByText := true, laidKinds := [.data, .data], laidTests := true, laidLooks := .later }
def Sha2SumsUptoCardSaid : Prop := Claim7.holds Tryd.pinned (.plain (OpenSpec.upto sha2SumsSpec)) sha2SumsUptoCard

/-- THE SECOND FORM's CARD OF 'liverylaw02.Sha2Hashes'. -/
def sha2HashesUptoCard : Claim7 := { stood := { row := sha2HashesUptoRow, standIns := [], harness := (true, "2962bb582eeff3d6af7a949cc43795bac73eb605e7ccbfa1eef7e600f13ff1d0"), looks := false }, kinds := [], alts := [], laidByText := true, laidKinds := [.data, .data], laidTests := true, laidLooks := .later }
def Sha2HashesUptoCardSaid : Prop := Claim7.holds Tryd.pinned (.plain (OpenSpec.upto sha2HashesSpec)) sha2HashesUptoCard

/-- THE SECOND FORM's CARD OF 'liverylaw02.Sha2None'. -/
def sha2NoneUptoCard : Claim7 := { stood := { row := sha2NoneUptoRow, standIns := [], harness := (true, "2962bb582eeff3d6af7a949cc43795bac73eb605e7ccbfa1eef7e600f13ff1d0"), looks := false }, kinds := [], alts := [], laidByText := true, laidKinds := [.data, .data], laidTests := true, laidLooks := .later }
def Sha2NoneUptoCardSaid : Prop := Claim7.holds Tryd.pinned (.plain (OpenSpec.upto sha2NoneSpec)) sha2NoneUptoCard

/-- THE SECOND FORM's CARD OF 'liverylaw02.Sha2Padded'. -/
def sha2PaddedUptoCard : Claim7 := { stood := { row := sha2PaddedUptoRow, standIns := [], harness := (true, "2962bb582eeff3d6af7a949cc43795bac73eb605e7ccbfa1eef7e600f13ff1d0"), looks := false }, kinds := [], alts := [], laidByText := true, laidKinds := [.data, .data], laidTests := true, laidLooks := .later }
def Sha2PaddedUptoCardSaid : Prop := Claim7.holds Tryd.pinned (.plain (OpenSpec.upto sha2PaddedSpec)) sha2PaddedUptoCard

/-- THE SECOND FORM's CARD OF 'liverylaw02.Sha2Begins'. -/
def sha2BeginsUptoCard : Claim7 := { stood := { row := sha2BeginsUptoRow, standIns := [], harness := (true, "2962bb582eeff3d6af7a949cc43795bac73eb605e7ccbfa1eef7e600f13ff1d0"), looks := false }, kinds := [], alts := [], laidByText := true, laidKinds := [.data, .data], laidTests := true, laidLooks := .later }
def Sha2BeginsUptoCardSaid : Prop := Claim7.holds Tryd.pinned (.plain (OpenSpec.upto sha2BeginsSpec)) sha2BeginsUptoCard

/-- THE SECOND FORM's CARD OF 'liverylaw02.Sha2Keys'. -/
def sha2KeysUptoCard : Claim7 := { stood := { row := sha2KeysUptoRow, standIns := [], harness := (true, "2962bb582eeff3d6af7a949cc43795bac73eb605e7ccbfa1eef7e600f13ff1d0"), looks := false }, kinds := [], alts := [], laidByText := true, laidKinds := [.data, .data], laidTests := true, laidLooks := .later }
def Sha2KeysUptoCardSaid : Prop := Claim7.holds Tryd.pinned (.plain (OpenSpec.upto sha2KeysSpec)) sha2KeysUptoCard

/-- THE SECOND FORM's CARD OF 'liverylaw04.SealSeals'. -/
def sealSealsUptoCard : Claim7 := { stood := { row := sealSealsUptoRow, standIns := [], harness := (true, "2962bb582eeff3d6af7a949cc43795bac73eb605e7ccbfa1eef7e600f13ff1d0"), looks := false }, kinds := [], alts := [], laidByText := true, laidKinds := [.data, .data], laidTests := true, laidLooks := .later }
def SealSealsUptoCardSaid : Prop := Claim7.holds Tryd.pinned (.plain (OpenSpec.upto sealSealsSpec)) sealSealsUptoCard

/-- THE SECOND FORM's CARD OF 'liverylaw04.SealOpens'. -/
def sealOpensUptoCard : Claim7 := { stood := { row := sealOpensUptoRow, standIns := [], harness := (true, "2962bb582eeff3d6af7a949cc43795bac73eb605e7ccbfa1eef7e600f13ff1d0"), looks := false }, kinds := [], alts := [], laidByText := true, laidKinds := [.data, .data], laidTests := true, laidLooks := .later }
def SealOpensUptoCardSaid : Prop := Claim7.holds Tryd.pinned (.plain (OpenSpec.upto sealOpensSpec)) sealOpensUptoCard

/-- THE SECOND FORM's CARD OF 'liverylaw04.SealBack'. -/
def sealBackUptoCard : Claim7 := { stood := { row := sealBackUptoRow, standIns := [], harness := (true, "2962bb582eeff3d6af7a949cc43795bac73eb605e7ccbfa1eef7e600f13ff1d0"), looks := false }, kinds := [], alts := [], laidByText := true, laidKinds := [.data, .data], laidTests := true, laidLooks := .later }
def SealBackUptoCardSaid : Prop := Claim7.holds Tryd.pinned (.plain (OpenSpec.upto sealBackSpec)) sealBackUptoCard

/-- THE SECOND FORM's CARD OF 'liverylaw04.SealTags'. -/
def sealTagsUptoCard : Claim7 := { stood := { row := sealTagsUptoRow, standIns := [], harness := (true, "2962bb582eeff3d6af7a949cc43795bac73eb605e7ccbfa1eef7e600f13ff1d0"), looks := false }, kinds := [], alts := [], laidByText := true, laidKinds := [.data, .data], laidTests := true, laidLooks := .later }
def SealTagsUptoCardSaid : Prop := Claim7.holds Tryd.pinned (.plain (OpenSpec.upto sealTagsSpec)) sealTagsUptoCard

/-- THE SECOND FORM's CARD OF 'liverylaw04.SealBits'. -/
def sealBitsUptoCard : Claim7 := { stood := { row := sealBitsUptoRow, standIns := [], harness := (true, "2962bb582eeff3d6af7a949cc43795bac73eb605e7ccbfa1eef7e600f13ff1d0"), looks := false }, kinds := [], alts := [], laidByText := true, laidKinds := [.data, .data], laidTests := true, laidLooks := .later }
def SealBitsUptoCardSaid : Prop := Claim7.holds Tryd.pinned (.plain (OpenSpec.upto sealBitsSpec)) sealBitsUptoCard

/-- THE SECOND FORM's CARD OF 'liverylaw04.SealKeys'. -/
def sealKeysUptoCard : Claim7 := { stood := { row := sealKeysUptoRow, standIns := [], harness := (true, "2962bb582eeff3d6af7a949cc43795bac73eb605e7ccbfa1eef7e600f13ff1d0"), looks := false }, kinds := [], alts := [], laidByText := true, laidKinds := [.data, .data], laidTests := true, laidLooks := .later }
def SealKeysUptoCardSaid : Prop := Claim7.holds Tryd.pinned (.plain (OpenSpec.upto sealKeysSpec)) sealKeysUptoCard

/-- THE SECOND FORM's CARD OF 'liverylaw05.DrbgFull'. -/
def drbgFullUptoCard : Claim7 := { stood := { row := drbgFullUptoRow, standIns := [], harness := (true, "2962bb582eeff3d6af7a949cc43795bac73eb605e7ccbfa1eef7e600f13ff1d0"), looks := false }, kinds := [], alts := [], laidByText := true, laidKinds := [.data, .data], laidTests := true, laidLooks := .later }
def DrbgFullUptoCardSaid : Prop := Claim7.holds Tryd.pinned (.plain (OpenSpec.upto drbgFullSpec)) drbgFullUptoCard

/-- THE SECOND FORM's CARD OF 'liverylaw05.DrbgSame'. -/
def drbgSameUptoCard : Claim7 := { stood := { row := drbgSameUptoRow, standIns := [], harness := (true, "2962bb582eeff3d6af7a949cc43795bac73eb605e7ccbfa1eef7e600f13ff1d0"), looks := false }, kinds := [], alts := [], laidByText := true, laidKinds := [.data, .data], laidTests := true, laidLooks := .later }
def DrbgSameUptoCardSaid : Prop := Claim7.holds Tryd.pinned (.plain (OpenSpec.upto drbgSameSpec)) drbgSameUptoCard

/-- THE SECOND FORM's CARD OF 'liverylaw05.DrbgParts'. -/
def drbgPartsUptoCard : Claim7 := { stood := { row := drbgPartsUptoRow, standIns := [], harness := (true, "2962bb582eeff3d6af7a949cc43795bac73eb605e7ccbfa1eef7e600f13ff1d0"), looks := false }, kinds := [], alts := [], laidByText := true, laidKinds := [.data, .data], laidTests := true, laidLooks := .later }
def DrbgPartsUptoCardSaid : Prop := Claim7.holds Tryd.pinned (.plain (OpenSpec.upto drbgPartsSpec)) drbgPartsUptoCard

/-- THE SECOND FORM's CARD OF 'liverylaw05.DrbgDoes'. -/
def drbgDoesUptoCard : Claim7 := { stood := { row := drbgDoesUptoRow, standIns := [], harness := (true, "2962bb582eeff3d6af7a949cc43795bac73eb605e7ccbfa1eef7e600f13ff1d0"), looks := false }, kinds := [], alts := [], laidByText := true, laidKinds := [.data, .data], laidTests := true, laidLooks := .later }
def DrbgDoesUptoCardSaid : Prop := Claim7.holds Tryd.pinned (.plain (OpenSpec.upto drbgDoesSpec)) drbgDoesUptoCard

/-- THE SECOND FORM's CARD OF 'liverylaw05.DrbgNone'. -/
def drbgNoneUptoCard : Claim7 := { stood := { row := drbgNoneUptoRow, standIns := [], harness := (true, "2962bb582eeff3d6af7a949cc43795bac73eb605e7ccbfa1eef7e600f13ff1d0"), looks := false }, kinds := [], alts := [], laidByText := true, laidKinds := [.data, .data], laidTests := true, laidLooks := .later }
def DrbgNoneUptoCardSaid : Prop := Claim7.holds Tryd.pinned (.plain (OpenSpec.upto drbgNoneSpec)) drbgNoneUptoCard

/-- THE SECOND FORM's CARD OF 'liverylaw18.JournalNone'. -/
def journalNoneUptoCard : Claim7 := { stood := { row := journalNoneUptoRow, standIns := [], harness := (true, "2962bb582eeff3d6af7a949cc43795bac73eb605e7ccbfa1eef7e600f13ff1d0"), looks := false }, kinds := [], alts := [], laidByText := true, laidKinds := [.data, .data], laidTests := true, laidLooks := .later }
def JournalNoneUptoCardSaid : Prop := Claim7.holds Tryd.pinned (.plain (OpenSpec.upto journalNoneSpec)) journalNoneUptoCard

/-- THE SECOND FORM's CARD OF 'liverylaw18.JournalOpens'. -/
def journalOpensUptoCard : Claim7 := { stood := { row := journalOpensUptoRow, standIns := [], harness := (true, "2962bb582eeff3d6af7a949cc43795bac73eb605e7ccbfa1eef7e600f13ff1d0"), looks := false }, kinds := [], alts := [], laidByText := true, laidKinds := [.data, .data], laidTests := true, laidLooks := .later }
def JournalOpensUptoCardSaid : Prop := Claim7.holds Tryd.pinned (.plain (OpenSpec.upto journalOpensSpec)) journalOpensUptoCard

/-- THE SECOND FORM's CARD OF 'liverylaw18.JournalBack'. -/
def journalBackUptoCard : Claim7 := { stood := { row := journalBackUptoRow, standIns := [], harness := (true, "2962bb582eeff3d6af7a949cc43795bac73eb605e7ccbfa1eef7e600f13ff1d0"), looks := false }, kinds := [], alts := [], laidByText := true, laidKinds := [.data, .data], laidTests := true, laidLooks := .later }
def JournalBackUptoCardSaid : Prop := Claim7.holds Tryd.pinned (.plain (OpenSpec.upto journalBackSpec)) journalBackUptoCard

/-- THE SECOND FORM's CARD OF 'liverylaw18.JournalWhole'. -/
def journalWholeUptoCard : Claim7 := { stood := { row := journalWholeUptoRow, standIns := [], harness := (true, "2962bb582eeff3d6af7a949cc43795bac73eb605e7ccbfa1eef7e600f13ff1d0"), looks := false }, kinds := [], alts := [], laidByText := true, laidKinds := [.data, .data], laidTests := true, laidLooks := .later }
def JournalWholeUptoCardSaid : Prop := Claim7.holds Tryd.pinned (.plain (OpenSpec.upto journalWholeSpec)) journalWholeUptoCard
end Rows
end Go.Proofs.YtgbahfggnbpnmaaDoor
