/-
  DERIVED. GIVEN WITH THE SEED: THE CARDS: each row of YtibgcbngnfaaiaaDoorRows.lean that lists a variable, with what it lists TIED to the program's text (the seventh form; the later family's looks); each row that meets fmt, with fmt's text TOLD by the authors' own Lean function (tested against real Go, not proved from fmt's source: count such statements apart). THE CARD IS WHAT COUNTS. Prove the row's statement (the work); the ties are given (YtibgcbngnfaaiaaDoorTie.lean); close each card by the builder's one call (the guide's Derived/Test/ToyasCard.lean, 'card_holds'). Laid BY PROGRAM, IN A SANDBOX (cutbox-door.mjs). By AI agents, Wed Nov 11 2026. No macro, syntax, notation, axiom, sorry.
-/
import Derived.Test.YtibgcbngnfaaiaaDoorRows
import GoSem.ClaimSeven
namespace Go.Proofs.YtibgcbngnfaaiaaDoor
namespace Rows

/-- THE TIED CARD OF 'ambrylaw11.ChunkBack'. -/
def chunkBackCard : Claim7 := { stood := { row := chunkBackRow, standIns := [], harness := (true, "16ec312fa40fce0f6dc4ac7e26a44868bffbd447d5d930efbf5e26551e8ef943"), looks := true }, kinds := [], alts := [], laidByText := true, laidKinds := [.data, .data, .data], laidTests := true, laidLooks := .later }
def ChunkBackCardSaid : Prop := Claim7.holds Tryd.pinned (.plain (OpenSpec.ofChange chunkBackSpec)) chunkBackCard

/-- THE TIED CARD OF 'ambrylaw11.ChunkCuts'. -/
def chunkCutsCard : Claim7 := { stood := { row := chunkCutsRow, standIns := [], harness := (true, "16ec312fa40fce0f6dc4ac7e26a44868bffbd447d5d930efbf5e26551e8ef943"), looks := true }, kinds := [], alts := [], laidByText := true, laidKinds := [.data, .data, .data], laidTests := true, laidLooks := .later }
def ChunkCutsCardSaid : Prop := Claim7.holds Tryd.pinned (.plain (OpenSpec.ofChange chunkCutsSpec)) chunkCutsCard

/-- THE TIED CARD OF 'ambrylaw11.ChunkGreat'. -/
def chunkGreatCard : Claim7 := { stood := { row := chunkGreatRow, standIns := [], harness := (true, "16ec312fa40fce0f6dc4ac7e26a44868bffbd447d5d930efbf5e26551e8ef943"), looks := true }, kinds := [], alts := [], laidByText := true, laidKinds := [.data, .data, .data], laidTests := true, laidLooks := .later }
def ChunkGreatCardSaid : Prop := Claim7.holds Tryd.pinned (.plain (OpenSpec.ofChange chunkGreatSpec)) chunkGreatCard

/-- THE TIED CARD OF 'ambrylaw11.ChunkLines'. -/
def chunkLinesCard : Claim7 := { stood := { row := chunkLinesRow, standIns := [], harness := (true, "16ec312fa40fce0f6dc4ac7e26a44868bffbd447d5d930efbf5e26551e8ef943"), looks := true }, kinds := [], alts := [], laidByText := true, laidKinds := [.data, .data, .data], laidTests := true, laidLooks := .later }
def ChunkLinesCardSaid : Prop := Claim7.holds Tryd.pinned (.plain (OpenSpec.ofChange chunkLinesSpec)) chunkLinesCard

/-- THE TIED CARD OF 'ambrylaw11.ChunkMany'. -/
def chunkManyCard : Claim7 := { stood := { row := chunkManyRow, standIns := [], harness := (true, "16ec312fa40fce0f6dc4ac7e26a44868bffbd447d5d930efbf5e26551e8ef943"), looks := true }, kinds := [], alts := [], laidByText := true, laidKinds := [.data, .data, .data], laidTests := true, laidLooks := .later }
def ChunkManyCardSaid : Prop := Claim7.holds Tryd.pinned (.plain (OpenSpec.ofChange chunkManySpec)) chunkManyCard

/-- THE TIED CARD OF 'ambrylaw12.HttpFrames'. -/
def httpFramesCard : Claim7 := { stood := { row := httpFramesRow, standIns := [], harness := (true, "16ec312fa40fce0f6dc4ac7e26a44868bffbd447d5d930efbf5e26551e8ef943"), looks := true }, kinds := [], alts := [], laidByText := true, laidKinds := [.data, .pinned], laidTests := true, laidLooks := .later }
def HttpFramesCardSaid : Prop := Claim7.holds Tryd.pinned (.plain (OpenSpec.ofChange httpFramesSpec)) httpFramesCard

/-- THE TIED CARD OF 'ambrylaw12.HttpGreat'. -/
def httpGreatCard : Claim7 := { stood := { row := httpGreatRow, standIns := [], harness := (true, "16ec312fa40fce0f6dc4ac7e26a44868bffbd447d5d930efbf5e26551e8ef943"), looks := true }, kinds := [], alts := [], laidByText := true, laidKinds := [.data, .pinned], laidTests := true, laidLooks := .later }
def HttpGreatCardSaid : Prop := Claim7.holds Tryd.pinned (.plain (OpenSpec.ofChange httpGreatSpec)) httpGreatCard

/-- THE TIED CARD OF 'ambrylaw12.HttpLines'. -/
def httpLinesCard : Claim7 := { stood := { row := httpLinesRow, standIns := [], harness := (true, "16ec312fa40fce0f6dc4ac7e26a44868bffbd447d5d930efbf5e26551e8ef943"), looks := true }, kinds := [], alts := [], laidByText := true, laidKinds := [.data, .pinned], laidTests := true, laidLooks := .later }
def HttpLinesCardSaid : Prop := Claim7.holds Tryd.pinned (.plain (OpenSpec.ofChange httpLinesSpec)) httpLinesCard

/-- THE TIED CARD OF 'ambrylaw12.HttpStatus'. -/
def httpStatusCard : Claim7 := { stood := { row := httpStatusRow, standIns := [], harness := (true, "16ec312fa40fce0f6dc4ac7e26a44868bffbd447d5d930efbf5e26551e8ef943"), looks := true }, kinds := [], alts := [], laidByText := true, laidKinds := [.data, .pinned], laidTests := true, laidLooks := .later }
def HttpStatusCardSaid : Prop := Claim7.holds Tryd.pinned (.plain (OpenSpec.ofChange httpStatusSpec)) httpStatusCard

/-- THE TIED CARD OF 'ambrylaw12.HttpMany'. -/
def httpManyCard : Claim7 := { stood := { row := httpManyRow, standIns := [], harness := (true, "16ec312fa40fce0f6dc4ac7e26a44868bffbd447d5d930efbf5e26551e8ef943"), looks := true }, kinds := [], alts := [], laidByText := true, laidKinds := [.data, .pinned], laidTests := true, laidLooks := .later }
def HttpManyCardSaid : Prop := Claim7.holds Tryd.pinned (.plain (OpenSpec.ofChange httpManySpec)) httpManyCard

/-- THE SECOND FORM's CARD OF 'ambrylaw11.ChunkBack'. -/
def chunkBackUptoCard : Claim7 := { stood := { row := chunkBackUptoRow, standIns := [], harness := (true, "16ec312fa40fce0f6dc4ac7e26a44868bffbd447d5d930efbf5e26551e8ef943"), looks := true }, kinds := [], alts := [], laidByText := true, laidKinds := [.data, .data, .data], laidTests := true, laidLooks := .later }
def ChunkBackUptoCardSaid : Prop := Claim7.holds Tryd.pinned (.plain (OpenSpec.upto chunkBackSpec)) chunkBackUptoCard

/-- THE SECOND FORM's CARD OF 'ambrylaw11.ChunkCuts'. -/
def chunkCutsUptoCard : Claim7 := { stood := { row := chunkCutsUptoRow, standIns := [], harness := (true, "16ec312fa40fce0f6dc4ac7e26a44868bffbd447d5d930efbf5e26551e8ef943"), looks := true }, kinds := [], alts := [], laidByText := true, laidKinds := [.data, .data, .data], laidTests := true, laidLooks := .later }
def ChunkCutsUptoCardSaid : Prop := Claim7.holds Tryd.pinned (.plain (OpenSpec.upto chunkCutsSpec)) chunkCutsUptoCard

/-- THE SECOND FORM's CARD OF 'ambrylaw11.ChunkGreat'. -/
def chunkGreatUptoCard : Claim7 := { stood := { row := chunkGreatUptoRow, standIns := [], harness := (true, "16ec312fa40fce0f6dc4ac7e26a44868bffbd447d5d930efbf5e26551e8ef943"), looks := true }, kinds := [], alts := [], laidByText := true, laidKinds := [.data, .data, .data], laidTests := true, laidLooks := .later }
def ChunkGreatUptoCardSaid : Prop := Claim7.holds Tryd.pinned (.plain (OpenSpec.upto chunkGreatSpec)) chunkGreatUptoCard

/-- THE SECOND FORM's CARD OF 'ambrylaw11.ChunkLines'. -/
def chunkLinesUptoCard : Claim7 := { stood := { row := chunkLinesUptoRow, standIns := [], harness := (true, "16ec312fa40fce0f6dc4ac7e26a44868bffbd447d5d930efbf5e26551e8ef943"), looks := true }, kinds := [], alts := [], laidByText := true, laidKinds := [.data, .data, .data], laidTests := true, laidLooks := .later }
def ChunkLinesUptoCardSaid : Prop := Claim7.holds Tryd.pinned (.plain (OpenSpec.upto chunkLinesSpec)) chunkLinesUptoCard

/-- THE SECOND FORM's CARD OF 'ambrylaw11.ChunkMany'. -/
def chunkManyUptoCard : Claim7 := { stood := { row := chunkManyUptoRow, standIns := [], harness := (true, "16ec312fa40fce0f6dc4ac7e26a44868bffbd447d5d930efbf5e26551e8ef943"), looks := true }, kinds := [], alts := [], laidByText := true, laidKinds := [.data, .data, .data], laidTests := true, laidLooks := .later }
def ChunkManyUptoCardSaid : Prop := Claim7.holds Tryd.pinned (.plain (OpenSpec.upto chunkManySpec)) chunkManyUptoCard

/-- THE SECOND FORM's CARD OF 'ambrylaw12.HttpFrames'. -/
def httpFramesUptoCard : Claim7 := { stood := { row := httpFramesUptoRow, standIns := [], harness := (true, "16ec312fa40fce0f6dc4ac7e26a44868bffbd447d5d930efbf5e26551e8ef943"), looks := true }, kinds := [], alts := [], laidByText := true, laidKinds := [.data, .pinned], laidTests := true, laidLooks := .later }
def HttpFramesUptoCardSaid : Prop := Claim7.holds Tryd.pinned (.plain (OpenSpec.upto httpFramesSpec)) httpFramesUptoCard

/-- THE SECOND FORM's CARD OF 'ambrylaw12.HttpGreat'. -/
def httpGreatUptoCard : Claim7 := { stood := { row := httpGreatUptoRow, standIns := [], harness := (true, "16ec312fa40fce0f6dc4ac7e26a44868bffbd447d5d930efbf5e26551e8ef943"), looks := true }, kinds := [], alts := [], laidByText := true, laidKinds := [.data, .pinned], laidTests := true, laidLooks := .later }
def HttpGreatUptoCardSaid : Prop := Claim7.holds Tryd.pinned (.plain (OpenSpec.upto httpGreatSpec)) httpGreatUptoCard

/-- THE SECOND FORM's CARD OF 'ambrylaw12.HttpLines'. -/
def httpLinesUptoCard : Claim7 := { stood := { row := httpLinesUptoRow, standIns := [], harness := (true, "16ec312fa40fce0f6dc4ac7e26a44868bffbd447d5d930efbf5e26551e8ef943"), looks := true }, kinds := [], alts := [], laidByText := true, laidKinds := [.data, .pinned], laidTests := true, laidLooks := .later }
def HttpLinesUptoCardSaid : Prop := Claim7.holds Tryd.pinned (.plain (OpenSpec.upto httpLinesSpec)) httpLinesUptoCard

/-- THE SECOND FORM's CARD OF 'ambrylaw12.HttpStatus'. -/
def httpStatusUptoCard : Claim7 := { stood := { row := httpStatusUptoRow, standIns := [], harness := (true, "16ec312fa40fce0f6dc4ac7e26a44868bffbd447d5d930efbf5e26551e8ef943"), looks := true }, kinds := [], alts := [], laidByText := true, laidKinds := [.data, .pinned], laidTests := true, laidLooks := .later }
def HttpStatusUptoCardSaid : Prop := Claim7.holds Tryd.pinned (.plain (OpenSpec.upto httpStatusSpec)) httpStatusUptoCard

/-- THE SECOND FORM's CARD OF 'ambrylaw12.HttpMany'. -/
def httpManyUptoCard : Claim7 := { stood := { row := httpManyUptoRow, standIns := [], harness := (true, "16ec312fa40fce0f6dc4ac7e26a44868bffbd447d5d930efbf5e26551e8ef943"), looks := true }, kinds := [], alts := [], laidByText := true, laidKinds := [.data, .pinned], laidTests := true, laidLooks := .later }
def HttpManyUptoCardSaid : Prop := Claim7.holds Tryd.pinned (.plain (OpenSpec.upto httpManySpec)) httpManyUptoCard
end Rows
end Go.Proofs.YtibgcbngnfaaiaaDoor
