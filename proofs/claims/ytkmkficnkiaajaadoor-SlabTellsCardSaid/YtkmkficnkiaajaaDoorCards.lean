/-
  DERIVED. GIVEN WITH THE SEED: THE CARDS: each row of YtkmkficnkiaajaaDoorRows.lean that lists a variable, with what it lists TIED to the program's text (the seventh form; the later family's looks); each row that meets fmt, with fmt's text TOLD by the authors' own Lean function (tested against real Go, not proved from fmt's source: count such statements apart). THE CARD IS WHAT COUNTS. Prove the row's statement (the work); the ties are given (YtkmkficnkiaajaaDoorTie.lean); close each card by the builder's one call (the guide's Derived/Test/ToyasCard.lean, 'card_holds'). Laid BY PROGRAM, IN A SANDBOX (cutbox-door.mjs). By AI agents, Wed Nov 11 2026. No macro, syntax, notation, axiom, sorry.
-/
import Derived.Test.YtkmkficnkiaajaaDoorRows
import GoSem.ClaimSeven
namespace Go.Proofs.YtkmkficnkiaajaaDoor
namespace Rows

/-- THE TIED CARD OF 'stillroomlaw01.WordBits'. -/
def wordBitsCard : Claim7 := { stood := { row := wordBitsRow, standIns := [], harness := (true, "dfcf2c1645965d99662b9534dab5009e496f88b4cbda1f278e110a55710f8220"), looks := false }, kinds := [], alts := [], laidByText := true, laidKinds := [.data], laidTests := true, laidLooks := .later }
def WordBitsCardSaid : Prop := Claim7.holds Tryd.pinned (.plain (OpenSpec.ofChange wordBitsSpec)) wordBitsCard

/-- THE TIED CARD OF 'stillroomlaw01.WordBack'. -/
def wordBackCard : Claim7 := { stood := { row := wordBackRow, standIns := [], harness := (true, "dfcf2c1645965d99662b9534dab5009e496f88b4cbda1f278e110a55710f8220"), looks := false }, kinds := [], alts := [], laidByText := true, laidKinds := [.data], laidTests := true, laidLooks := .later }
def WordBackCardSaid : Prop := Claim7.holds Tryd.pinned (.plain (OpenSpec.ofChange wordBackSpec)) wordBackCard

/-- THE TIED CARD OF 'stillroomlaw01.WordFields'. -/
def wordFieldsCard : Claim7 := { stood := { row := wordFieldsRow, standIns := [], harness := (true, "dfcf2c1645965d99662b9534dab5009e496f88b4cbda1f278e110a55710f8220"), looks := false }, kinds := [], alts := [], laidByText := true, laidKinds := [.data], laidTests := true, laidLooks := .later }
def WordFieldsCardSaid : Prop := Claim7.holds Tryd.pinned (.plain (OpenSpec.ofChange wordFieldsSpec)) wordFieldsCard

/-- THE TIED CARD OF 'stillroomlaw01.WordOthers'. -/
def wordOthersCard : Claim7 := { stood := { row := wordOthersRow, standIns := [], harness := (true, "dfcf2c1645965d99662b9534dab5009e496f88b4cbda1f278e110a55710f8220"), looks := false }, kinds := [], alts := [], laidByText := true, laidKinds := [.data], laidTests := true, laidLooks := .later }
def WordOthersCardSaid : Prop := Claim7.holds Tryd.pinned (.plain (OpenSpec.ofChange wordOthersSpec)) wordOthersCard

/-- THE TIED CARD OF 'stillroomlaw01.WordLow'. -/
def wordLowCard : Claim7 := { stood := { row := wordLowRow, standIns := [], harness := (true, "dfcf2c1645965d99662b9534dab5009e496f88b4cbda1f278e110a55710f8220"), looks := false }, kinds := [], alts := [], laidByText := true, laidKinds := [.data], laidTests := true, laidLooks := .later }
def WordLowCardSaid : Prop := Claim7.holds Tryd.pinned (.plain (OpenSpec.ofChange wordLowSpec)) wordLowCard

/-- THE TIED CARD OF 'stillroomlaw06.SlabTakes'. -/
def slabTakesCard : Claim7 := { stood := { row := slabTakesRow, standIns := [], harness := (true, "dfcf2c1645965d99662b9534dab5009e496f88b4cbda1f278e110a55710f8220"), looks := false }, kinds := [], alts := [], laidByText := true, laidKinds := [.data, .data], laidTests := true, laidLooks := .later }
def SlabTakesCardSaid : Prop := Claim7.holds Tryd.pinned (.plain (OpenSpec.ofChange slabTakesSpec)) slabTakesCard

/-- THE TIED CARD OF 'stillroomlaw06.SlabFills'. -/
def slabFillsCard : Claim7 := { stood := { row := slabFillsRow, standIns := [], harness := (true, "dfcf2c1645965d99662b9534dab5009e496f88b4cbda1f278e110a55710f8220"), looks := false }, kinds := [], alts := [], laidByText := true, laidKinds := [.data, .data], laidTests := true, laidLooks := .later }
def SlabFillsCardSaid : Prop := Claim7.holds Tryd.pinned (.plain (OpenSpec.ofChange slabFillsSpec)) slabFillsCard

/-- THE TIED CARD OF 'stillroomlaw06.SlabWords'. -/
def slabWordsCard : Claim7 := { stood := { row := slabWordsRow, standIns := [], harness := (true, "dfcf2c1645965d99662b9534dab5009e496f88b4cbda1f278e110a55710f8220"), looks := false }, kinds := [], alts := [], laidByText := true, laidKinds := [.data, .data], laidTests := true, laidLooks := .later }
def SlabWordsCardSaid : Prop := Claim7.holds Tryd.pinned (.plain (OpenSpec.ofChange slabWordsSpec)) slabWordsCard

/-- THE TIED CARD OF 'stillroomlaw06.SlabOrder'. -/
def slabOrderCard : Claim7 := { stood := { row := slabOrderRow, standIns := [], harness := (true, "dfcf2c1645965d99662b9534dab5009e496f88b4cbda1f278e110a55710f8220"), looks := false }, kinds := [], alts := [], laidByText := true, laidKinds := [.data, .data], laidTests := true, laidLooks := .later }
def SlabOrderCardSaid : Prop := Claim7.holds Tryd.pinned (.plain (OpenSpec.ofChange slabOrderSpec)) slabOrderCard

/-- THE TIED CARD OF 'stillroomlaw06.SlabTells'. -/
def slabTellsCard : Claim7 := { stood := { row := slabTellsRow, standIns := [], harness := (true, "dfcf2c1645965d99662b9534dab5009e496f88b4cbda1f278e110a55710f8220"), looks := false }, kinds := [], alts := [], laidByText := true, laidKinds := [.data, .data, .data], laidTests := true, laidLooks := .later }
def SlabTellsCardSaid : Prop := Claim7.holds Tryd.pinned (.plain (OpenSpec.ofChange slabTellsSpec)) slabTellsCard

/-- THE SECOND FORM's CARD OF 'stillroomlaw01.WordBits'. -/
def wordBitsUptoCard : Claim7 := { stood := { row := wordBitsUptoRow, standIns := [], harness := (true, "dfcf2c1645965d99662b9534dab5009e496f88b4cbda1f278e110a55710f8220"), looks := false }, kinds := [], alts := [], laidByText := true, laidKinds := [.data], laidTests := true, laidLooks := .later }
def WordBitsUptoCardSaid : Prop := Claim7.holds Tryd.pinned (.plain (OpenSpec.upto wordBitsSpec)) wordBitsUptoCard

/-- THE SECOND FORM's CARD OF 'stillroomlaw01.WordBack'. -/
def wordBackUptoCard : Claim7 := { stood := { row := wordBackUptoRow, standIns := [], harness := (true, "dfcf2c1645965d99662b9534dab5009e496f88b4cbda1f278e110a55710f8220"), looks := false }, kinds := [], alts := [], laidByText := true, laidKinds := [.data], laidTests := true, laidLooks := .later }
def WordBackUptoCardSaid : Prop := Claim7.holds Tryd.pinned (.plain (OpenSpec.upto wordBackSpec)) wordBackUptoCard

/-- THE SECOND FORM's CARD OF 'stillroomlaw01.WordFields'. -/
def wordFieldsUptoCard : Claim7 := { stood := { row := wordFieldsUptoRow, standIns := [], harness := (true, "dfcf2c1645965d99662b9534dab5009e496f88b4cbda1f278e110a55710f8220"), looks := false }, kinds := [], alts := [], laidByText := true, laidKinds := [.data], laidTests := true, laidLooks := .later }
def WordFieldsUptoCardSaid : Prop := Claim7.holds Tryd.pinned (.plain (OpenSpec.upto wordFieldsSpec)) wordFieldsUptoCard

/-- THE SECOND FORM's CARD OF 'stillroomlaw01.WordOthers'. -/
def wordOthersUptoCard : Claim7 := { stood := { row := wordOthersUptoRow, standIns := [], harness := (true, "dfcf2c1645965d99662b9534dab5009e496f88b4cbda1f278e110a55710f8220"), looks := false }, kinds := [], alts := [], laidByText := true, laidKinds := [.data], laidTests := true, laidLooks := .later }
def WordOthersUptoCardSaid : Prop := Claim7.holds Tryd.pinned (.plain (OpenSpec.upto wordOthersSpec)) wordOthersUptoCard

/-- THE SECOND FORM's CARD OF 'stillroomlaw01.WordLow'. -/
def wordLowUptoCard : Claim7 := { stood := { row := wordLowUptoRow, standIns := [], harness := (true, "dfcf2c1645965d99662b9534dab5009e496f88b4cbda1f278e110a55710f8220"), looks := false }, kinds := [], alts := [], laidByText := true, laidKinds := [.data], laidTests := true, laidLooks := .later }
def WordLowUptoCardSaid : Prop := Claim7.holds Tryd.pinned (.plain (OpenSpec.upto wordLowSpec)) wordLowUptoCard

/-- THE SECOND FORM's CARD OF 'stillroomlaw06.SlabTakes'. -/
def slabTakesUptoCard : Claim7 := { stood := { row := slabTakesUptoRow, standIns := [], harness := (true, "dfcf2c1645965d99662b9534dab5009e496f88b4cbda1f278e110a55710f8220"), looks := false }, kinds := [], alts := [], laidByText := true, laidKinds := [.data, .data], laidTests := true, laidLooks := .later }
def SlabTakesUptoCardSaid : Prop := Claim7.holds Tryd.pinned (.plain (OpenSpec.upto slabTakesSpec)) slabTakesUptoCard

/-- THE SECOND FORM's CARD OF 'stillroomlaw06.SlabFills'. -/
def slabFillsUptoCard : Claim7 := { stood := { row := slabFillsUptoRow, standIns := [], harness := (true, "dfcf2c1645965d99662b9534dab5009e496f88b4cbda1f278e110a55710f8220"), looks := false }, kinds := [], alts := [], laidByText := true, laidKinds := [.data, .data], laidTests := true, laidLooks := .later }
def SlabFillsUptoCardSaid : Prop := Claim7.holds Tryd.pinned (.plain (OpenSpec.upto slabFillsSpec)) slabFillsUptoCard

/-- THE SECOND FORM's CARD OF 'stillroomlaw06.SlabWords'. -/
def slabWordsUptoCard : Claim7 := { stood := { row := slabWordsUptoRow, standIns := [], harness := (true, "dfcf2c1645965d99662b9534dab5009e496f88b4cbda1f278e110a55710f8220"), looks := false }, kinds := [], alts := [], laidByText := true, laidKinds := [.data, .data], laidTests := true, laidLooks := .later }
def SlabWordsUptoCardSaid : Prop := Claim7.holds Tryd.pinned (.plain (OpenSpec.upto slabWordsSpec)) slabWordsUptoCard

/-- THE SECOND FORM's CARD OF 'stillroomlaw06.SlabOrder'. -/
def slabOrderUptoCard : Claim7 := { stood := { row := slabOrderUptoRow, standIns := [], harness := (true, "dfcf2c1645965d99662b9534dab5009e496f88b4cbda1f278e110a55710f8220"), looks := false }, kinds := [], alts := [], laidByText := true, laidKinds := [.data, .data], laidTests := true, laidLooks := .later }
def SlabOrderUptoCardSaid : Prop := Claim7.holds Tryd.pinned (.plain (OpenSpec.upto slabOrderSpec)) slabOrderUptoCard

/-- THE SECOND FORM's CARD OF 'stillroomlaw06.SlabTells'. -/
def slabTellsUptoCard : Claim7 := { stood := { row := slabTellsUptoRow, standIns := [], harness := (true, "dfcf2c1645965d99662b9534dab5009e496f88b4cbda1f278e110a55710f8220"), looks := false }, kinds := [], alts := [], laidByText := true, laidKinds := [.data, .data, .data], laidTests := true, laidLooks := .later }
def SlabTellsUptoCardSaid : Prop := Claim7.holds Tryd.pinned (.plain (OpenSpec.upto slabTellsSpec)) slabTellsUptoCard
end Rows
end Go.Proofs.YtkmkficnkiaajaaDoor
