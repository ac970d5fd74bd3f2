/-
  NARROWER THAN 'FOR EVERY INPUT', by the rows' own cells (each row's printed sentence says how): WordBits: laid · WordBack: laid · WordFields: laid · WordOthers: laid · WordLow: laid · SlabTakes: laid · SlabFills: laid · SlabWords: laid · SlabOrder: laid · SlabTells: laid.
  DERIVED. THE GIVEN ROWS OF THIS SEAT. 10 by the template 'for every input the law returns true; each argument reads behind the call as it read before'; 0 by the template 'total and deterministic' (their statements: YtkmkficnkiaajaaDoorTotals.lean).
  GIVEN WITH THE SEED: the statements are not yours to turn. If you find one false, say at which input.
  Laid BY PROGRAM, IN A SANDBOX (cutbox-rows.mjs): the forced cells as the released guide's own fill.sh prints them over the translation c55259b72460f632… (all of the seat's roots in one cut). By AI agents, Wed Nov 11 2026. No macro, syntax, notation, axiom, sorry.
-/
import Derived.Test.YtkmkficnkiaajaaDoorChecked
import GoSem.Claim
import GoSem.ClaimJoined
import GoSem.ClaimMapViews
import Derived.JoinedTies
import Derived.KernelRfl
namespace Go.Proofs.YtkmkficnkiaajaaDoor
/- THE CELL 'sum', in the pinned program and in every row, IS THE sha256 OF THE DUMP (.gsa) THAT YtkmkficnkiaajaaDoorProg.lean LOADS. Nothing in Lean hashes anything: it is a label: what it is worth is what the hold of that sum in a sandbox is worth. -/
noncomputable def Tryd.pinned : Pinned := { name := "ytkmkficnkiaajaadoor", sum := "c55259b72460f63212c556678780e3030b9975ee4020b9f19d2ad00a830d866e", checked := Tryd.checked }
namespace Rows
def none {H : Type} : Left H := { results := [], args := [] }

/- WHAT THE LISTED PACKAGE-LEVEL VARIABLES READ AS WHEN THE CALL BEGINS. Each datum BY PROGRAM (the guide's laid-datum.mjs) off the statement by which the dump's own 'gosem.cut.vars' lays the variable. In a bare row this is a premise. The card (YtkmkficnkiaajaaDoorCards.lean) ties it to the program's text. -/
def laid_math_bits_deBruijn64tab {H : Type} : DataW H := .agg [.lit (.int .u8 0), .lit (.int .u8 1), .lit (.int .u8 56), .lit (.int .u8 2), .lit (.int .u8 57), .lit (.int .u8 49), .lit (.int .u8 28), .lit (.int .u8 3), .lit (.int .u8 61), .lit (.int .u8 58), .lit (.int .u8 42), .lit (.int .u8 50), .lit (.int .u8 38), .lit (.int .u8 29), .lit (.int .u8 17), .lit (.int .u8 4), .lit (.int .u8 62), .lit (.int .u8 47), .lit (.int .u8 59), .lit (.int .u8 36), .lit (.int .u8 45), .lit (.int .u8 43), .lit (.int .u8 51), .lit (.int .u8 22), .lit (.int .u8 53), .lit (.int .u8 39), .lit (.int .u8 33), .lit (.int .u8 30), .lit (.int .u8 24), .lit (.int .u8 18), .lit (.int .u8 12), .lit (.int .u8 5), .lit (.int .u8 63), .lit (.int .u8 55), .lit (.int .u8 48), .lit (.int .u8 27), .lit (.int .u8 60), .lit (.int .u8 41), .lit (.int .u8 37), .lit (.int .u8 16), .lit (.int .u8 46), .lit (.int .u8 35), .lit (.int .u8 44), .lit (.int .u8 21), .lit (.int .u8 52), .lit (.int .u8 32), .lit (.int .u8 23), .lit (.int .u8 11), .lit (.int .u8 54), .lit (.int .u8 26), .lit (.int .u8 40), .lit (.int .u8 15), .lit (.int .u8 34), .lit (.int .u8 20), .lit (.int .u8 31), .lit (.int .u8 10), .lit (.int .u8 25), .lit (.int .u8 14), .lit (.int .u8 19), .lit (.int .u8 9), .lit (.int .u8 13), .lit (.int .u8 8), .lit (.int .u8 7), .lit (.int .u8 6)]
def laid_stillroom_slab_blocks {H : Type} : DataW H := .agg [.lit (.int .i64 0), .lit (.int .i64 16), .lit (.int .i64 4)]
def laid_stillroom_slab_lines {H : Type} : DataW H := .agg [.lit (.int .i64 0), .lit (.int .i64 1), .lit (.int .i64 4)]

/-- 'stillroomlaw01.WordBits': WHATEVER THE INPUT: true; the input reads as it did. -/
def wordBitsSpec : ChangeSpec := { name := "wordBits", fn := fun _ => fun
  | [d1, d2, d3] => { results := [.lit (.bool true)], args := [d1, d2, d3] }
  | _ => none }
def wordBitsRow : OpenClaim := { program := "ytkmkficnkiaajaadoor", sum := "c55259b72460f63212c556678780e3030b9975ee4020b9f19d2ad00a830d866e", func := "stillroom/stillroomlaw01.WordBits", spec := "wordBits", named := ["math/bits.deBruijn64tab"], apart := false, laid := [("math/bits.deBruijn64tab", laid_math_bits_deBruijn64tab)] }
def WordBitsSaid : Prop := wordBitsRow.holds Tryd.pinned (OpenSpec.ofChange wordBitsSpec)

/-- ITS FALSE NEIGHBOUR: 'it returns false'. Refute it at one input. -/
def wordBitsWrong : ChangeSpec := { name := "wordBits", fn := fun _ => fun
  | [d1, d2, d3] => { results := [.lit (.bool false)], args := [d1, d2, d3] }
  | _ => none }
def WordBitsWrongFalsely : Prop := wordBitsRow.holds Tryd.pinned (OpenSpec.ofChange wordBitsWrong)

/-- 'stillroomlaw01.WordBack': WHATEVER THE INPUT: true; the input reads as it did. -/
def wordBackSpec : ChangeSpec := { name := "wordBack", fn := fun _ => fun
  | [d1, d2, d3] => { results := [.lit (.bool true)], args := [d1, d2, d3] }
  | _ => none }
def wordBackRow : OpenClaim := { program := "ytkmkficnkiaajaadoor", sum := "c55259b72460f63212c556678780e3030b9975ee4020b9f19d2ad00a830d866e", func := "stillroom/stillroomlaw01.WordBack", spec := "wordBack", named := ["math/bits.deBruijn64tab"], apart := false, laid := [("math/bits.deBruijn64tab", laid_math_bits_deBruijn64tab)] }
def WordBackSaid : Prop := wordBackRow.holds Tryd.pinned (OpenSpec.ofChange wordBackSpec)

/-- ITS FALSE NEIGHBOUR: 'it returns false'. Refute it at one input. -/
def wordBackWrong : ChangeSpec := { name := "wordBack", fn := fun _ => fun
  | [d1, d2, d3] => { results := [.lit (.bool false)], args := [d1, d2, d3] }
  | _ => none }
def WordBackWrongFalsely : Prop := wordBackRow.holds Tryd.pinned (OpenSpec.ofChange wordBackWrong)

/-- 'stillroomlaw01.WordFields': WHATEVER THE INPUT: true; the input reads as it did. -/
def wordFieldsSpec : ChangeSpec := { name := "wordFields", fn := fun _ => fun
  | [d] => { results := [.lit (.bool true)], args := [d] }
  | _ => none }
def wordFieldsRow : OpenClaim := { program := "ytkmkficnkiaajaadoor", sum := "c55259b72460f63212c556678780e3030b9975ee4020b9f19d2ad00a830d866e", func := "stillroom/stillroomlaw01.WordFields", spec := "wordFields", named := ["math/bits.deBruijn64tab"], apart := false, laid := [("math/bits.deBruijn64tab", laid_math_bits_deBruijn64tab)] }
def WordFieldsSaid : Prop := wordFieldsRow.holds Tryd.pinned (OpenSpec.ofChange wordFieldsSpec)

/-- ITS FALSE NEIGHBOUR: 'it returns false'. Refute it at one input. -/
def wordFieldsWrong : ChangeSpec := { name := "wordFields", fn := fun _ => fun
  | [d] => { results := [.lit (.bool false)], args := [d] }
  | _ => none }
def WordFieldsWrongFalsely : Prop := wordFieldsRow.holds Tryd.pinned (OpenSpec.ofChange wordFieldsWrong)

/-- 'stillroomlaw01.WordOthers': WHATEVER THE INPUT: true; the input reads as it did. -/
def wordOthersSpec : ChangeSpec := { name := "wordOthers", fn := fun _ => fun
  | [d1, d2, d3] => { results := [.lit (.bool true)], args := [d1, d2, d3] }
  | _ => none }
def wordOthersRow : OpenClaim := { program := "ytkmkficnkiaajaadoor", sum := "c55259b72460f63212c556678780e3030b9975ee4020b9f19d2ad00a830d866e", func := "stillroom/stillroomlaw01.WordOthers", spec := "wordOthers", named := ["math/bits.deBruijn64tab"], apart := false, laid := [("math/bits.deBruijn64tab", laid_math_bits_deBruijn64tab)] }
def WordOthersSaid : Prop := wordOthersRow.holds Tryd.pinned (OpenSpec.ofChange wordOthersSpec)

/-- ITS FALSE NEIGHBOUR: 'it returns false'. Refute it at one input. -/
def wordOthersWrong : ChangeSpec := { name := "wordOthers", fn := fun _ => fun
  | [d1, d2, d3] => { results := [.lit (.bool false)], args := [d1, d2, d3] }
  | _ => none }
def WordOthersWrongFalsely : Prop := wordOthersRow.holds Tryd.pinned (OpenSpec.ofChange wordOthersWrong)

/-- 'stillroomlaw01.WordLow': WHATEVER THE INPUT: true; the input reads as it did. -/
def wordLowSpec : ChangeSpec := { name := "wordLow", fn := fun _ => fun
  | [d1, d2] => { results := [.lit (.bool true)], args := [d1, d2] }
  | _ => none }
def wordLowRow : OpenClaim := { program := "ytkmkficnkiaajaadoor", sum := "c55259b72460f63212c556678780e3030b9975ee4020b9f19d2ad00a830d866e", func := "stillroom/stillroomlaw01.WordLow", spec := "wordLow", named := ["math/bits.deBruijn64tab"], apart := false, laid := [("math/bits.deBruijn64tab", laid_math_bits_deBruijn64tab)] }
def WordLowSaid : Prop := wordLowRow.holds Tryd.pinned (OpenSpec.ofChange wordLowSpec)

/-- ITS FALSE NEIGHBOUR: 'it returns false'. Refute it at one input. -/
def wordLowWrong : ChangeSpec := { name := "wordLow", fn := fun _ => fun
  | [d1, d2] => { results := [.lit (.bool false)], args := [d1, d2] }
  | _ => none }
def WordLowWrongFalsely : Prop := wordLowRow.holds Tryd.pinned (OpenSpec.ofChange wordLowWrong)

/-- 'stillroomlaw06.SlabTakes': WHATEVER THE INPUT: true; the input reads as it did. -/
def slabTakesSpec : ChangeSpec := { name := "slabTakes", fn := fun _ => fun
  | [d1, d2, d3] => { results := [.lit (.bool true)], args := [d1, d2, d3] }
  | _ => none }
def slabTakesRow : OpenClaim := { program := "ytkmkficnkiaajaadoor", sum := "c55259b72460f63212c556678780e3030b9975ee4020b9f19d2ad00a830d866e", func := "stillroom/stillroomlaw06.SlabTakes", spec := "slabTakes", named := ["stillroom/slab.blocks", "math/bits.deBruijn64tab"], apart := false, laid := [("math/bits.deBruijn64tab", laid_math_bits_deBruijn64tab), ("stillroom/slab.blocks", laid_stillroom_slab_blocks)] }
def SlabTakesSaid : Prop := slabTakesRow.holds Tryd.pinned (OpenSpec.ofChange slabTakesSpec)

/-- ITS FALSE NEIGHBOUR: 'it returns false'. Refute it at one input. -/
def slabTakesWrong : ChangeSpec := { name := "slabTakes", fn := fun _ => fun
  | [d1, d2, d3] => { results := [.lit (.bool false)], args := [d1, d2, d3] }
  | _ => none }
def SlabTakesWrongFalsely : Prop := slabTakesRow.holds Tryd.pinned (OpenSpec.ofChange slabTakesWrong)

/-- 'stillroomlaw06.SlabFills': WHATEVER THE INPUT: true; the input reads as it did. -/
def slabFillsSpec : ChangeSpec := { name := "slabFills", fn := fun _ => fun
  | [d1, d2] => { results := [.lit (.bool true)], args := [d1, d2] }
  | _ => none }
def slabFillsRow : OpenClaim := { program := "ytkmkficnkiaajaadoor", sum := "c55259b72460f63212c556678780e3030b9975ee4020b9f19d2ad00a830d866e", func := "stillroom/stillroomlaw06.SlabFills", spec := "slabFills", named := ["stillroom/slab.blocks", "math/bits.deBruijn64tab"], apart := false, laid := [("math/bits.deBruijn64tab", laid_math_bits_deBruijn64tab), ("stillroom/slab.blocks", laid_stillroom_slab_blocks)] }
def SlabFillsSaid : Prop := slabFillsRow.holds Tryd.pinned (OpenSpec.ofChange slabFillsSpec)

/-- ITS FALSE NEIGHBOUR: 'it returns false'. Refute it at one input. -/
def slabFillsWrong : ChangeSpec := { name := "slabFills", fn := fun _ => fun
  | [d1, d2] => { results := [.lit (.bool false)], args := [d1, d2] }
  | _ => none }
def SlabFillsWrongFalsely : Prop := slabFillsRow.holds Tryd.pinned (OpenSpec.ofChange slabFillsWrong)

/-- 'stillroomlaw06.SlabWords': WHATEVER THE INPUT: true; the input reads as it did. -/
def slabWordsSpec : ChangeSpec := { name := "slabWords", fn := fun _ => fun
  | [d1, d2] => { results := [.lit (.bool true)], args := [d1, d2] }
  | _ => none }
def slabWordsRow : OpenClaim := { program := "ytkmkficnkiaajaadoor", sum := "c55259b72460f63212c556678780e3030b9975ee4020b9f19d2ad00a830d866e", func := "stillroom/stillroomlaw06.SlabWords", spec := "slabWords", named := ["stillroom/slab.blocks", "math/bits.deBruijn64tab"], apart := false, laid := [("math/bits.deBruijn64tab", laid_math_bits_deBruijn64tab), ("stillroom/slab.blocks", laid_stillroom_slab_blocks)] }
def SlabWordsSaid : Prop := slabWordsRow.holds Tryd.pinned (OpenSpec.ofChange slabWordsSpec)

/-- ITS FALSE NEIGHBOUR: 'it returns false'. Refute it at one input. -/
def slabWordsWrong : ChangeSpec := { name := "slabWords", fn := fun _ => fun
  | [d1, d2] => { results := [.lit (.bool false)], args := [d1, d2] }
  | _ => none }
def SlabWordsWrongFalsely : Prop := slabWordsRow.holds Tryd.pinned (OpenSpec.ofChange slabWordsWrong)

/-- 'stillroomlaw06.SlabOrder': WHATEVER THE INPUT: true; the input reads as it did. -/
def slabOrderSpec : ChangeSpec := { name := "slabOrder", fn := fun _ => fun
  | [d] => { results := [.lit (.bool true)], args := [d] }
  | _ => none }
def slabOrderRow : OpenClaim := { program := "ytkmkficnkiaajaadoor", sum := "c55259b72460f63212c556678780e3030b9975ee4020b9f19d2ad00a830d866e", func := "stillroom/stillroomlaw06.SlabOrder", spec := "slabOrder", named := ["stillroom/slab.blocks", "math/bits.deBruijn64tab"], apart := false, laid := [("math/bits.deBruijn64tab", laid_math_bits_deBruijn64tab), ("stillroom/slab.blocks", laid_stillroom_slab_blocks)] }
def SlabOrderSaid : Prop := slabOrderRow.holds Tryd.pinned (OpenSpec.ofChange slabOrderSpec)

/-- ITS FALSE NEIGHBOUR: 'it returns false'. Refute it at one input. -/
def slabOrderWrong : ChangeSpec := { name := "slabOrder", fn := fun _ => fun
  | [d] => { results := [.lit (.bool false)], args := [d] }
  | _ => none }
def SlabOrderWrongFalsely : Prop := slabOrderRow.holds Tryd.pinned (OpenSpec.ofChange slabOrderWrong)

/-- 'stillroomlaw06.SlabTells': WHATEVER THE INPUT: true; the input reads as it did. -/
def slabTellsSpec : ChangeSpec := { name := "slabTells", fn := fun _ => fun
  | [d1, d2, d3] => { results := [.lit (.bool true)], args := [d1, d2, d3] }
  | _ => none }
def slabTellsRow : OpenClaim := { program := "ytkmkficnkiaajaadoor", sum := "c55259b72460f63212c556678780e3030b9975ee4020b9f19d2ad00a830d866e", func := "stillroom/stillroomlaw06.SlabTells", spec := "slabTells", named := ["stillroom/slab.blocks", "math/bits.deBruijn64tab", "stillroom/slab.lines"], apart := false, laid := [("math/bits.deBruijn64tab", laid_math_bits_deBruijn64tab), ("stillroom/slab.blocks", laid_stillroom_slab_blocks), ("stillroom/slab.lines", laid_stillroom_slab_lines)] }
def SlabTellsSaid : Prop := slabTellsRow.holds Tryd.pinned (OpenSpec.ofChange slabTellsSpec)

/-- ITS FALSE NEIGHBOUR: 'it returns false'. Refute it at one input. -/
def slabTellsWrong : ChangeSpec := { name := "slabTells", fn := fun _ => fun
  | [d1, d2, d3] => { results := [.lit (.bool false)], args := [d1, d2, d3] }
  | _ => none }
def SlabTellsWrongFalsely : Prop := slabTellsRow.holds Tryd.pinned (OpenSpec.ofChange slabTellsWrong)

/- THE SECOND FORM. 'bulk': how many values and letters a reading holds, each counted each time it is reached (what is shared counts as often as it is met; a slice's spare places count too). A statement '..UptoSaid' is the law's where the arguments, and the package variables that the reading takes, are together of bulk at most 1048576: NARROWER than '..Said'. Prove '..Said' where nothing that the law and all that it calls make is longer than what came in: it says more and counts as full. Else prove '..UptoSaid'. A law counts once. -/
mutual
def uptoBulk {H : Type} : DataW H → Nat
  | .lit (.string bytes) => bytes.length + 1
  | .lit _ => 1
  | .nil => 1
  | .ptr d => uptoBulk d + 1
  | .slice elems spare => uptoBulkAll elems + uptoBulkAll spare + 1
  | .agg parts => uptoBulkAll parts + 1
  | .iface _ d => uptoBulk d + 1
  | .map entries => uptoBulkEntries entries + 1
  | .held _ => 1
def uptoBulkAll {H : Type} : List (DataW H) → Nat
  | [] => 0
  | d :: r => uptoBulk d + uptoBulkAll r
def uptoBulkEntries {H : Type} : List (Lit × DataW H) → Nat
  | [] => 0
  | x :: r => uptoBulkEntry x + uptoBulkEntries r
def uptoBulkEntry {H : Type} : Lit × DataW H → Nat
  | (.string bytes, d) => bytes.length + uptoBulk d + 1
  | (_, d) => uptoBulk d + 1
 end
def uptoSmall : (H : Type) → List (DataW H) → Bool := fun _ ds => decide (uptoBulkAll ds ≤ 1048576)
def OpenSpec.upto (s : _root_.Go.ChangeSpec) : _root_.Go.OpenSpec := { _root_.Go.OpenSpec.ofChange s with cond := some uptoSmall }

/-- 'stillroomlaw01.WordBits', WHERE WHAT IT READS IS OF BULK AT MOST 1048576: true; the input reads as it did. -/
def wordBitsUptoRow : OpenClaim := { program := "ytkmkficnkiaajaadoor", sum := "c55259b72460f63212c556678780e3030b9975ee4020b9f19d2ad00a830d866e", func := "stillroom/stillroomlaw01.WordBits", spec := "wordBits", named := ["math/bits.deBruijn64tab"], apart := false, laid := [("math/bits.deBruijn64tab", laid_math_bits_deBruijn64tab)], narrowed := true }
def WordBitsUptoSaid : Prop := wordBitsUptoRow.holds Tryd.pinned (OpenSpec.upto wordBitsSpec)

/-- 'stillroomlaw01.WordBack', WHERE WHAT IT READS IS OF BULK AT MOST 1048576: true; the input reads as it did. -/
def wordBackUptoRow : OpenClaim := { program := "ytkmkficnkiaajaadoor", sum := "c55259b72460f63212c556678780e3030b9975ee4020b9f19d2ad00a830d866e", func := "stillroom/stillroomlaw01.WordBack", spec := "wordBack", named := ["math/bits.deBruijn64tab"], apart := false, laid := [("math/bits.deBruijn64tab", laid_math_bits_deBruijn64tab)], narrowed := true }
def WordBackUptoSaid : Prop := wordBackUptoRow.holds Tryd.pinned (OpenSpec.upto wordBackSpec)

/-- 'stillroomlaw01.WordFields', WHERE WHAT IT READS IS OF BULK AT MOST 1048576: true; the input reads as it did. -/
def wordFieldsUptoRow : OpenClaim := { program := "ytkmkficnkiaajaadoor", sum := "c55259b72460f63212c556678780e3030b9975ee4020b9f19d2ad00a830d866e", func := "stillroom/stillroomlaw01.WordFields", spec := "wordFields", named := ["math/bits.deBruijn64tab"], apart := false, laid := [("math/bits.deBruijn64tab", laid_math_bits_deBruijn64tab)], narrowed := true }
def WordFieldsUptoSaid : Prop := wordFieldsUptoRow.holds Tryd.pinned (OpenSpec.upto wordFieldsSpec)

/-- 'stillroomlaw01.WordOthers', WHERE WHAT IT READS IS OF BULK AT MOST 1048576: true; the input reads as it did. -/
def wordOthersUptoRow : OpenClaim := { program := "ytkmkficnkiaajaadoor", sum := "c55259b72460f63212c556678780e3030b9975ee4020b9f19d2ad00a830d866e", func := "stillroom/stillroomlaw01.WordOthers", spec := "wordOthers", named := ["math/bits.deBruijn64tab"], apart := false, laid := [("math/bits.deBruijn64tab", laid_math_bits_deBruijn64tab)], narrowed := true }
def WordOthersUptoSaid : Prop := wordOthersUptoRow.holds Tryd.pinned (OpenSpec.upto wordOthersSpec)

/-- 'stillroomlaw01.WordLow', WHERE WHAT IT READS IS OF BULK AT MOST 1048576: true; the input reads as it did. -/
def wordLowUptoRow : OpenClaim := { program := "ytkmkficnkiaajaadoor", sum := "c55259b72460f63212c556678780e3030b9975ee4020b9f19d2ad00a830d866e", func := "stillroom/stillroomlaw01.WordLow", spec := "wordLow", named := ["math/bits.deBruijn64tab"], apart := false, laid := [("math/bits.deBruijn64tab", laid_math_bits_deBruijn64tab)], narrowed := true }
def WordLowUptoSaid : Prop := wordLowUptoRow.holds Tryd.pinned (OpenSpec.upto wordLowSpec)

/-- 'stillroomlaw06.SlabTakes', WHERE WHAT IT READS IS OF BULK AT MOST 1048576: true; the input reads as it did. -/
def slabTakesUptoRow : OpenClaim := { program := "ytkmkficnkiaajaadoor", sum := "c55259b72460f63212c556678780e3030b9975ee4020b9f19d2ad00a830d866e", func := "stillroom/stillroomlaw06.SlabTakes", spec := "slabTakes", named := ["stillroom/slab.blocks", "math/bits.deBruijn64tab"], apart := false, laid := [("math/bits.deBruijn64tab", laid_math_bits_deBruijn64tab), ("stillroom/slab.blocks", laid_stillroom_slab_blocks)], narrowed := true }
def SlabTakesUptoSaid : Prop := slabTakesUptoRow.holds Tryd.pinned (OpenSpec.upto slabTakesSpec)

/-- 'stillroomlaw06.SlabFills', WHERE WHAT IT READS IS OF BULK AT MOST 1048576: true; the input reads as it did. -/
def slabFillsUptoRow : OpenClaim := { program := "ytkmkficnkiaajaadoor", sum := "c55259b72460f63212c556678780e3030b9975ee4020b9f19d2ad00a830d866e", func := "stillroom/stillroomlaw06.SlabFills", spec := "slabFills", named := ["stillroom/slab.blocks", "math/bits.deBruijn64tab"], apart := false, laid := [("math/bits.deBruijn64tab", laid_math_bits_deBruijn64tab), ("stillroom/slab.blocks", laid_stillroom_slab_blocks)], narrowed := true }
def SlabFillsUptoSaid : Prop := slabFillsUptoRow.holds Tryd.pinned (OpenSpec.upto slabFillsSpec)

/-- 'stillroomlaw06.SlabWords', WHERE WHAT IT READS IS OF BULK AT MOST 1048576: true; the input reads as it did. -/
def slabWordsUptoRow : OpenClaim := { program := "ytkmkficnkiaajaadoor", sum := "c55259b72460f63212c556678780e3030b9975ee4020b9f19d2ad00a830d866e", func := "stillroom/stillroomlaw06.SlabWords", spec := "slabWords", named := ["stillroom/slab.blocks", "math/bits.deBruijn64tab"], apart := false, laid := [("math/bits.deBruijn64tab", laid_math_bits_deBruijn64tab), ("stillroom/slab.blocks", laid_stillroom_slab_blocks)], narrowed := true }
def SlabWordsUptoSaid : Prop := slabWordsUptoRow.holds Tryd.pinned (OpenSpec.upto slabWordsSpec)

/-- 'stillroomlaw06.SlabOrder', WHERE WHAT IT READS IS OF BULK AT MOST 1048576: true; the input reads as it did. -/
def slabOrderUptoRow : OpenClaim := { program := "ytkmkficnkiaajaadoor", sum := "c55259b72460f63212c556678780e3030b9975ee4020b9f19d2ad00a830d866e", func := "stillroom/stillroomlaw06.SlabOrder", spec := "slabOrder", named := ["stillroom/slab.blocks", "math/bits.deBruijn64tab"], apart := false, laid := [("math/bits.deBruijn64tab", laid_math_bits_deBruijn64tab), ("stillroom/slab.blocks", laid_stillroom_slab_blocks)], narrowed := true }
def SlabOrderUptoSaid : Prop := slabOrderUptoRow.holds Tryd.pinned (OpenSpec.upto slabOrderSpec)

/-- 'stillroomlaw06.SlabTells', WHERE WHAT IT READS IS OF BULK AT MOST 1048576: true; the input reads as it did. -/
def slabTellsUptoRow : OpenClaim := { program := "ytkmkficnkiaajaadoor", sum := "c55259b72460f63212c556678780e3030b9975ee4020b9f19d2ad00a830d866e", func := "stillroom/stillroomlaw06.SlabTells", spec := "slabTells", named := ["stillroom/slab.blocks", "math/bits.deBruijn64tab", "stillroom/slab.lines"], apart := false, laid := [("math/bits.deBruijn64tab", laid_math_bits_deBruijn64tab), ("stillroom/slab.blocks", laid_stillroom_slab_blocks), ("stillroom/slab.lines", laid_stillroom_slab_lines)], narrowed := true }
def SlabTellsUptoSaid : Prop := slabTellsUptoRow.holds Tryd.pinned (OpenSpec.upto slabTellsSpec)

end Rows
end Go.Proofs.YtkmkficnkiaajaaDoor
