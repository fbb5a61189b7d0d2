/-
  DERIVED. GIVEN WITH THE SEED: THE CARDS: each row of YtmhmbmogodofeaaDoorRows.lean that lists a variable, with what it lists TIED to the program's text (the seventh form; the later family's looks); each row that meets fmt, with fmt's text TOLD by the authors' own Lean function (tested against real Go, not proved from fmt's source: count such statements apart). THE CARD IS WHAT COUNTS. Prove the row's statement (the work); the ties are given (YtmhmbmogodofeaaDoorTie.lean); close each card by the builder's one call (the guide's Derived/Test/ToyasCard.lean, 'card_holds'). Laid BY PROGRAM, IN A SANDBOX (cutbox-door.mjs). By AI agents, Wed Nov 11 2026. No macro, syntax, notation, axiom, sorry.
-/
import Derived.Test.YtmhmbmogodofeaaDoorRows
import GoSem.ClaimSeven
namespace Go.Proofs.YtmhmbmogodofeaaDoor
namespace Rows

/-- THE TIED CARD OF 'tidepolelaw08.ChunkReads'. -/
def chunkReadsCard : Claim7 := { stood := { row := chunkReadsRow, standIns := [], harness := (true, "fa955c6139ef0e9798d982023277c97b1bd75e9036c771eb3c693b96514f5a68"), looks := false }, kinds := [], alts := [], laidByText := true, laidKinds := [.data, .data], laidTests := true, laidLooks := .later }
def ChunkReadsCardSaid : Prop := Claim7.holds Tryd.pinned (.plain (OpenSpec.ofChange chunkReadsSpec)) chunkReadsCard

/-- THE TIED CARD OF 'tidepolelaw08.ChunkOnce'. -/
def chunkOnceCard : Claim7 := { stood := { row := chunkOnceRow, standIns := [], harness := (true, "fa955c6139ef0e9798d982023277c97b1bd75e9036c771eb3c693b96514f5a68"), looks := false }, kinds := [], alts := [], laidByText := true, laidKinds := [.data, .data], laidTests := true, laidLooks := .later }
def ChunkOnceCardSaid : Prop := Claim7.holds Tryd.pinned (.plain (OpenSpec.ofChange chunkOnceSpec)) chunkOnceCard

/-- THE TIED CARD OF 'tidepolelaw08.ChunkPuts'. -/
def chunkPutsCard : Claim7 := { stood := { row := chunkPutsRow, standIns := [], harness := (true, "fa955c6139ef0e9798d982023277c97b1bd75e9036c771eb3c693b96514f5a68"), looks := false }, kinds := [], alts := [], laidByText := true, laidKinds := [.data, .data], laidTests := true, laidLooks := .later }
def ChunkPutsCardSaid : Prop := Claim7.holds Tryd.pinned (.plain (OpenSpec.ofChange chunkPutsSpec)) chunkPutsCard

/-- THE TIED CARD OF 'tidepolelaw08.ChunkBack'. -/
def chunkBackCard : Claim7 := { stood := { row := chunkBackRow, standIns := [], harness := (true, "fa955c6139ef0e9798d982023277c97b1bd75e9036c771eb3c693b96514f5a68"), looks := false }, kinds := [], alts := [], laidByText := true, laidKinds := [.data, .data], laidTests := true, laidLooks := .later }
def ChunkBackCardSaid : Prop := Claim7.holds Tryd.pinned (.plain (OpenSpec.ofChange chunkBackSpec)) chunkBackCard

/-- THE TIED CARD OF 'tidepolelaw08.ChunkMerges'. -/
def chunkMergesCard : Claim7 := { stood := { row := chunkMergesRow, standIns := [], harness := (true, "fa955c6139ef0e9798d982023277c97b1bd75e9036c771eb3c693b96514f5a68"), looks := false }, kinds := [], alts := [], laidByText := true, laidKinds := [.data, .data], laidTests := true, laidLooks := .later }
def ChunkMergesCardSaid : Prop := Claim7.holds Tryd.pinned (.plain (OpenSpec.ofChange chunkMergesSpec)) chunkMergesCard

/-- THE SECOND FORM's CARD OF 'tidepolelaw08.ChunkReads'. -/
def chunkReadsUptoCard : Claim7 := { stood := { row := chunkReadsUptoRow, standIns := [], harness := (true, "fa955c6139ef0e9798d982023277c97b1bd75e9036c771eb3c693b96514f5a68"), looks := false }, kinds := [], alts := [], laidByText := true, laidKinds := [.data, .data], laidTests := true, laidLooks := .later }
def ChunkReadsUptoCardSaid : Prop := Claim7.holds Tryd.pinned (.plain (OpenSpec.upto chunkReadsSpec)) chunkReadsUptoCard

/-- THE SECOND FORM's CARD OF 'tidepolelaw08.ChunkOnce'. -/
def chunkOnceUptoCard : Claim7 := { stood := { row := chunkOnceUptoRow, standIns := [], harness := (true, "fa955c6139ef0e9798d982023277c97b1bd75e9036c771eb3c693b96514f5a68"), looks := false }, kinds := [], alts := [], laidByText := true, laidKinds := [.data, .data], laidTests := true, laidLooks := .later }
def ChunkOnceUptoCardSaid : Prop := Claim7.holds Tryd.pinned (.plain (OpenSpec.upto chunkOnceSpec)) chunkOnceUptoCard

/-- THE SECOND FORM's CARD OF 'tidepolelaw08.ChunkPuts'. -/
def chunkPutsUptoCard : Claim7 := { stood := { row := chunkPutsUptoRow, standIns := [], harness := (true, "fa955c6139ef0e9798d982023277c97b1bd75e9036c771eb3c693b96514f5a68"), looks := false }, kinds := [], alts := [], laidByText := true, laidKinds := [.data, .data], laidTests := true, laidLooks := .later }
def ChunkPutsUptoCardSaid : Prop := Claim7.holds Tryd.pinned (.plain (OpenSpec.upto chunkPutsSpec)) chunkPutsUptoCard

/-- THE SECOND FORM's CARD OF 'tidepolelaw08.ChunkBack'. -/
def chunkBackUptoCard : Claim7 := { stood := { row := chunkBackUptoRow, standIns := [], harness := (true, "fa955c6139ef0e9798d982023277c97b1bd75e9036c771eb3c693b96514f5a68"), looks := false }, kinds := [], alts := [], laidByText := true, laidKinds := [.data, .data], laidTests := true, laidLooks := .later }
def ChunkBackUptoCardSaid : Prop := Claim7.holds Tryd.pinned (.plain (OpenSpec.upto chunkBackSpec)) chunkBackUptoCard

/-- THE SECOND FORM's CARD OF 'tidepolelaw08.ChunkMerges'. -/
def chunkMergesUptoCard : Claim7 := { stood := { row := chunkMergesUptoRow, standIns := [], harness := (true, "fa955c6139ef0e9798d982023277c97b1bd75e9036c771eb3c693b96514f5a68"), looks := false }, kinds := [], alts := [], laidByText := true, laidKinds := [.data, .data], laidTests := true, laidLooks := .later }
def ChunkMergesUptoCardSaid : Prop := Claim7.holds Tryd.pinned (.plain (OpenSpec.upto chunkMergesSpec)) chunkMergesUptoCard
end Rows
end Go.Proofs.YtmhmbmogodofeaaDoor
