/-
  No cell of these rows narrows 'for every input' (looked for: loops, veiled, ifaces, maps, wideKeys, modest, calm, conditions, laid).
  DERIVED. THE GIVEN ROWS OF THIS SEAT. 11 by the template 'for every input the law returns true; each argument reads behind the call as it read before'; 0 by the template 'total and deterministic' (their statements: YtflobafmmfigoaaTotals.lean).
  GIVEN WITH THE SEED: the statements are not yours to turn. If you find one false, say at which input.
  Laid BY PROGRAM, IN A SANDBOX (cutbox-rows.mjs): the forced cells as the released guide's own fill.sh prints them over the translation d7cb86e052022d39… (all of the seat's roots in one cut). By AI agents, Wed Nov 11 2026. No macro, syntax, notation, axiom, sorry.
-/
import Derived.Test.YtflobafmmfigoaaChecked
import GoSem.Claim
import GoSem.ClaimJoined
import GoSem.ClaimMapViews
import Derived.JoinedTies
import Derived.KernelRfl
namespace Go.Proofs.Ytflobafmmfigoaa
/- THE CELL 'sum', in the pinned program and in every row, IS THE sha256 OF THE DUMP (.gsa) THAT YtflobafmmfigoaaProg.lean LOADS. Nothing in Lean hashes anything: it is a label: what it is worth is what the hold of that sum in a sandbox is worth. -/
noncomputable def Try.pinned : Pinned := { name := "ytflobafmmfigoaa", sum := "d7cb86e052022d391e45c2cd9dcb6e7dfb4fe7ed8f58310c737774d67d9d5b6c", checked := Try.checked }
namespace Rows
def none {H : Type} : Left H := { results := [], args := [] }

/-- 'stillroomlaw12.RecTells': WHATEVER THE INPUT: true; the input reads as it did. -/
def recTellsSpec : ChangeSpec := { name := "recTells", fn := fun _ => fun
  | [d1, d2] => { results := [.lit (.bool true)], args := [d1, d2] }
  | _ => none }
def recTellsRow : OpenClaim := { program := "ytflobafmmfigoaa", sum := "d7cb86e052022d391e45c2cd9dcb6e7dfb4fe7ed8f58310c737774d67d9d5b6c", func := "stillroom/stillroomlaw12.RecTells", spec := "recTells", apart := false }
def RecTellsSaid : Prop := recTellsRow.holds Try.pinned (OpenSpec.ofChange recTellsSpec)

/-- ITS FALSE NEIGHBOUR: 'it returns false'. Refute it at one input. -/
def recTellsWrong : ChangeSpec := { name := "recTells", fn := fun _ => fun
  | [d1, d2] => { results := [.lit (.bool false)], args := [d1, d2] }
  | _ => none }
def RecTellsWrongFalsely : Prop := recTellsRow.holds Try.pinned (OpenSpec.ofChange recTellsWrong)

/-- 'stillroomlaw12.RecBack': WHATEVER THE INPUT: true; the input reads as it did. -/
def recBackSpec : ChangeSpec := { name := "recBack", fn := fun _ => fun
  | [d1, d2, d3] => { results := [.lit (.bool true)], args := [d1, d2, d3] }
  | _ => none }
def recBackRow : OpenClaim := { program := "ytflobafmmfigoaa", sum := "d7cb86e052022d391e45c2cd9dcb6e7dfb4fe7ed8f58310c737774d67d9d5b6c", func := "stillroom/stillroomlaw12.RecBack", spec := "recBack", apart := false }
def RecBackSaid : Prop := recBackRow.holds Try.pinned (OpenSpec.ofChange recBackSpec)

/-- ITS FALSE NEIGHBOUR: 'it returns false'. Refute it at one input. -/
def recBackWrong : ChangeSpec := { name := "recBack", fn := fun _ => fun
  | [d1, d2, d3] => { results := [.lit (.bool false)], args := [d1, d2, d3] }
  | _ => none }
def RecBackWrongFalsely : Prop := recBackRow.holds Try.pinned (OpenSpec.ofChange recBackWrong)

/-- 'stillroomlaw12.RecNext': WHATEVER THE INPUT: true; the input reads as it did. -/
def recNextSpec : ChangeSpec := { name := "recNext", fn := fun _ => fun
  | [d1, d2] => { results := [.lit (.bool true)], args := [d1, d2] }
  | _ => none }
def recNextRow : OpenClaim := { program := "ytflobafmmfigoaa", sum := "d7cb86e052022d391e45c2cd9dcb6e7dfb4fe7ed8f58310c737774d67d9d5b6c", func := "stillroom/stillroomlaw12.RecNext", spec := "recNext", apart := false }
def RecNextSaid : Prop := recNextRow.holds Try.pinned (OpenSpec.ofChange recNextSpec)

/-- ITS FALSE NEIGHBOUR: 'it returns false'. Refute it at one input. -/
def recNextWrong : ChangeSpec := { name := "recNext", fn := fun _ => fun
  | [d1, d2] => { results := [.lit (.bool false)], args := [d1, d2] }
  | _ => none }
def RecNextWrongFalsely : Prop := recNextRow.holds Try.pinned (OpenSpec.ofChange recNextWrong)

/-- 'stillroomlaw12.RecSizes': WHATEVER THE INPUT: true; the input reads as it did. -/
def recSizesSpec : ChangeSpec := { name := "recSizes", fn := fun _ => fun
  | [d] => { results := [.lit (.bool true)], args := [d] }
  | _ => none }
def recSizesRow : OpenClaim := { program := "ytflobafmmfigoaa", sum := "d7cb86e052022d391e45c2cd9dcb6e7dfb4fe7ed8f58310c737774d67d9d5b6c", func := "stillroom/stillroomlaw12.RecSizes", spec := "recSizes", apart := false }
def RecSizesSaid : Prop := recSizesRow.holds Try.pinned (OpenSpec.ofChange recSizesSpec)

/-- ITS FALSE NEIGHBOUR: 'it returns false'. Refute it at one input. -/
def recSizesWrong : ChangeSpec := { name := "recSizes", fn := fun _ => fun
  | [d] => { results := [.lit (.bool false)], args := [d] }
  | _ => none }
def RecSizesWrongFalsely : Prop := recSizesRow.holds Try.pinned (OpenSpec.ofChange recSizesWrong)

/-- 'stillroomlaw12.RecTurned': WHATEVER THE INPUT: true; the input reads as it did. -/
def recTurnedSpec : ChangeSpec := { name := "recTurned", fn := fun _ => fun
  | [d1, d2, d3] => { results := [.lit (.bool true)], args := [d1, d2, d3] }
  | _ => none }
def recTurnedRow : OpenClaim := { program := "ytflobafmmfigoaa", sum := "d7cb86e052022d391e45c2cd9dcb6e7dfb4fe7ed8f58310c737774d67d9d5b6c", func := "stillroom/stillroomlaw12.RecTurned", spec := "recTurned", apart := false }
def RecTurnedSaid : Prop := recTurnedRow.holds Try.pinned (OpenSpec.ofChange recTurnedSpec)

/-- ITS FALSE NEIGHBOUR: 'it returns false'. Refute it at one input. -/
def recTurnedWrong : ChangeSpec := { name := "recTurned", fn := fun _ => fun
  | [d1, d2, d3] => { results := [.lit (.bool false)], args := [d1, d2, d3] }
  | _ => none }
def RecTurnedWrongFalsely : Prop := recTurnedRow.holds Try.pinned (OpenSpec.ofChange recTurnedWrong)

/-- 'stillroomlaw08.NibTells': WHATEVER THE INPUT: true; the input reads as it did. -/
def nibTellsSpec : ChangeSpec := { name := "nibTells", fn := fun _ => fun
  | [d1, d2, d3] => { results := [.lit (.bool true)], args := [d1, d2, d3] }
  | _ => none }
def nibTellsRow : OpenClaim := { program := "ytflobafmmfigoaa", sum := "d7cb86e052022d391e45c2cd9dcb6e7dfb4fe7ed8f58310c737774d67d9d5b6c", func := "stillroom/stillroomlaw08.NibTells", spec := "nibTells", apart := false }
def NibTellsSaid : Prop := nibTellsRow.holds Try.pinned (OpenSpec.ofChange nibTellsSpec)

/-- ITS FALSE NEIGHBOUR: 'it returns false'. Refute it at one input. -/
def nibTellsWrong : ChangeSpec := { name := "nibTells", fn := fun _ => fun
  | [d1, d2, d3] => { results := [.lit (.bool false)], args := [d1, d2, d3] }
  | _ => none }
def NibTellsWrongFalsely : Prop := nibTellsRow.holds Try.pinned (OpenSpec.ofChange nibTellsWrong)

/-- 'stillroomlaw08.NibPacks': WHATEVER THE INPUT: true; the input reads as it did. -/
def nibPacksSpec : ChangeSpec := { name := "nibPacks", fn := fun _ => fun
  | [d1, d2] => { results := [.lit (.bool true)], args := [d1, d2] }
  | _ => none }
def nibPacksRow : OpenClaim := { program := "ytflobafmmfigoaa", sum := "d7cb86e052022d391e45c2cd9dcb6e7dfb4fe7ed8f58310c737774d67d9d5b6c", func := "stillroom/stillroomlaw08.NibPacks", spec := "nibPacks", apart := false }
def NibPacksSaid : Prop := nibPacksRow.holds Try.pinned (OpenSpec.ofChange nibPacksSpec)

/-- ITS FALSE NEIGHBOUR: 'it returns false'. Refute it at one input. -/
def nibPacksWrong : ChangeSpec := { name := "nibPacks", fn := fun _ => fun
  | [d1, d2] => { results := [.lit (.bool false)], args := [d1, d2] }
  | _ => none }
def NibPacksWrongFalsely : Prop := nibPacksRow.holds Try.pinned (OpenSpec.ofChange nibPacksWrong)

/-- 'stillroomlaw08.NibBack': WHATEVER THE INPUT: true; the input reads as it did. -/
def nibBackSpec : ChangeSpec := { name := "nibBack", fn := fun _ => fun
  | [d1, d2, d3] => { results := [.lit (.bool true)], args := [d1, d2, d3] }
  | _ => none }
def nibBackRow : OpenClaim := { program := "ytflobafmmfigoaa", sum := "d7cb86e052022d391e45c2cd9dcb6e7dfb4fe7ed8f58310c737774d67d9d5b6c", func := "stillroom/stillroomlaw08.NibBack", spec := "nibBack", apart := false }
def NibBackSaid : Prop := nibBackRow.holds Try.pinned (OpenSpec.ofChange nibBackSpec)

/-- ITS FALSE NEIGHBOUR: 'it returns false'. Refute it at one input. -/
def nibBackWrong : ChangeSpec := { name := "nibBack", fn := fun _ => fun
  | [d1, d2, d3] => { results := [.lit (.bool false)], args := [d1, d2, d3] }
  | _ => none }
def NibBackWrongFalsely : Prop := nibBackRow.holds Try.pinned (OpenSpec.ofChange nibBackWrong)

/-- 'stillroomlaw08.NibOrder': WHATEVER THE INPUT: true; the input reads as it did. -/
def nibOrderSpec : ChangeSpec := { name := "nibOrder", fn := fun _ => fun
  | [d1, d2] => { results := [.lit (.bool true)], args := [d1, d2] }
  | _ => none }
def nibOrderRow : OpenClaim := { program := "ytflobafmmfigoaa", sum := "d7cb86e052022d391e45c2cd9dcb6e7dfb4fe7ed8f58310c737774d67d9d5b6c", func := "stillroom/stillroomlaw08.NibOrder", spec := "nibOrder", apart := false }
def NibOrderSaid : Prop := nibOrderRow.holds Try.pinned (OpenSpec.ofChange nibOrderSpec)

/-- ITS FALSE NEIGHBOUR: 'it returns false'. Refute it at one input. -/
def nibOrderWrong : ChangeSpec := { name := "nibOrder", fn := fun _ => fun
  | [d1, d2] => { results := [.lit (.bool false)], args := [d1, d2] }
  | _ => none }
def NibOrderWrongFalsely : Prop := nibOrderRow.holds Try.pinned (OpenSpec.ofChange nibOrderWrong)

/-- 'stillroomlaw08.NibCommon': WHATEVER THE INPUT: true; the input reads as it did. -/
def nibCommonSpec : ChangeSpec := { name := "nibCommon", fn := fun _ => fun
  | [d1, d2] => { results := [.lit (.bool true)], args := [d1, d2] }
  | _ => none }
def nibCommonRow : OpenClaim := { program := "ytflobafmmfigoaa", sum := "d7cb86e052022d391e45c2cd9dcb6e7dfb4fe7ed8f58310c737774d67d9d5b6c", func := "stillroom/stillroomlaw08.NibCommon", spec := "nibCommon", apart := false }
def NibCommonSaid : Prop := nibCommonRow.holds Try.pinned (OpenSpec.ofChange nibCommonSpec)

/-- ITS FALSE NEIGHBOUR: 'it returns false'. Refute it at one input. -/
def nibCommonWrong : ChangeSpec := { name := "nibCommon", fn := fun _ => fun
  | [d1, d2] => { results := [.lit (.bool false)], args := [d1, d2] }
  | _ => none }
def NibCommonWrongFalsely : Prop := nibCommonRow.holds Try.pinned (OpenSpec.ofChange nibCommonWrong)

/-- 'stillroomlaw08.NibJoins': WHATEVER THE INPUT: true; the input reads as it did. -/
def nibJoinsSpec : ChangeSpec := { name := "nibJoins", fn := fun _ => fun
  | [d1, d2] => { results := [.lit (.bool true)], args := [d1, d2] }
  | _ => none }
def nibJoinsRow : OpenClaim := { program := "ytflobafmmfigoaa", sum := "d7cb86e052022d391e45c2cd9dcb6e7dfb4fe7ed8f58310c737774d67d9d5b6c", func := "stillroom/stillroomlaw08.NibJoins", spec := "nibJoins", apart := false }
def NibJoinsSaid : Prop := nibJoinsRow.holds Try.pinned (OpenSpec.ofChange nibJoinsSpec)

/-- ITS FALSE NEIGHBOUR: 'it returns false'. Refute it at one input. -/
def nibJoinsWrong : ChangeSpec := { name := "nibJoins", fn := fun _ => fun
  | [d1, d2] => { results := [.lit (.bool false)], args := [d1, d2] }
  | _ => none }
def NibJoinsWrongFalsely : Prop := nibJoinsRow.holds Try.pinned (OpenSpec.ofChange nibJoinsWrong)

/- THE SECOND FORM. 'bulk': how many values and letters a reading holds, each counted each time it is reached (what is shared counts as often as it is met; a slice's spare places count too). A statement '..UptoSaid' is the law's where the arguments, and the package variables that the reading takes, are together of bulk at most 1048576: NARROWER than '..Said'. Prove '..Said' where nothing that the law and all that it calls make is longer than what came in: it says more and counts as full. Else prove '..UptoSaid'. A law counts once. -/
mutual
def uptoBulk {H : Type} : DataW H → Nat
  | .lit (.string bytes) => bytes.length + 1
  | .lit _ => 1
  | .nil => 1
  | .ptr d => uptoBulk d + 1
  | .slice elems spare => uptoBulkAll elems + uptoBulkAll spare + 1
  | .agg parts => uptoBulkAll parts + 1
  | .iface _ d => uptoBulk d + 1
  | .map entries => uptoBulkEntries entries + 1
  | .held _ => 1
def uptoBulkAll {H : Type} : List (DataW H) → Nat
  | [] => 0
  | d :: r => uptoBulk d + uptoBulkAll r
def uptoBulkEntries {H : Type} : List (Lit × DataW H) → Nat
  | [] => 0
  | x :: r => uptoBulkEntry x + uptoBulkEntries r
def uptoBulkEntry {H : Type} : Lit × DataW H → Nat
  | (.string bytes, d) => bytes.length + uptoBulk d + 1
  | (_, d) => uptoBulk d + 1
 end
def uptoSmall : (H : Type) → List (DataW H) → Bool := fun _ ds => decide (uptoBulkAll ds ≤ 1048576)
def OpenSpec.upto (s : _root_.Go.ChangeSpec) : _root_.Go.OpenSpec := { _root_.Go.OpenSpec.ofChange s with cond := some uptoSmall }

/-- 'stillroomlaw12.RecTells', WHERE WHAT IT READS IS OF BULK AT MOST 1048576: true; the input reads as it did. -/
def recTellsUptoRow : OpenClaim := { program := "ytflobafmmfigoaa", sum := "d7cb86e052022d391e45c2cd9dcb6e7dfb4fe7ed8f58310c737774d67d9d5b6c", func := "stillroom/stillroomlaw12.RecTells", spec := "recTells", apart := false, narrowed := true }
def RecTellsUptoSaid : Prop := recTellsUptoRow.holds Try.pinned (OpenSpec.upto recTellsSpec)

/-- 'stillroomlaw12.RecBack', WHERE WHAT IT READS IS OF BULK AT MOST 1048576: true; the input reads as it did. -/
def recBackUptoRow : OpenClaim := { program := "ytflobafmmfigoaa", sum := "d7cb86e052022d391e45c2cd9dcb6e7dfb4fe7ed8f58310c737774d67d9d5b6c", func := "stillroom/stillroomlaw12.RecBack", spec := "recBack", apart := false, narrowed := true }
def RecBackUptoSaid : Prop := recBackUptoRow.holds Try.pinned (OpenSpec.upto recBackSpec)

/-- 'stillroomlaw12.RecNext', WHERE WHAT IT READS IS OF BULK AT MOST 1048576: true; the input reads as it did. -/
def recNextUptoRow : OpenClaim := { program := "ytflobafmmfigoaa", sum := "d7cb86e052022d391e45c2cd9dcb6e7dfb4fe7ed8f58310c737774d67d9d5b6c", func := "stillroom/stillroomlaw12.RecNext", spec := "recNext", apart := false, narrowed := true }
def RecNextUptoSaid : Prop := recNextUptoRow.holds Try.pinned (OpenSpec.upto recNextSpec)

/-- 'stillroomlaw12.RecSizes', WHERE WHAT IT READS IS OF BULK AT MOST 1048576: true; the input reads as it did. -/
def recSizesUptoRow : OpenClaim := { program := "ytflobafmmfigoaa", sum := "d7cb86e052022d391e45c2cd9dcb6e7dfb4fe7ed8f58310c737774d67d9d5b6c", func := "stillroom/stillroomlaw12.RecSizes", spec := "recSizes", apart := false, narrowed := true }
def RecSizesUptoSaid : Prop := recSizesUptoRow.holds Try.pinned (OpenSpec.upto recSizesSpec)

/-- 'stillroomlaw12.RecTurned', WHERE WHAT IT READS IS OF BULK AT MOST 1048576: true; the input reads as it did. -/
def recTurnedUptoRow : OpenClaim := { program := "ytflobafmmfigoaa", sum := "d7cb86e052022d391e45c2cd9dcb6e7dfb4fe7ed8f58310c737774d67d9d5b6c", func := "stillroom/stillroomlaw12.RecTurned", spec := "recTurned", apart := false, narrowed := true }
def RecTurnedUptoSaid : Prop := recTurnedUptoRow.holds Try.pinned (OpenSpec.upto recTurnedSpec)

/-- 'stillroomlaw08.NibTells', WHERE WHAT IT READS IS OF BULK AT MOST 1048576: true; the input reads as it did. -/
def nibTellsUptoRow : OpenClaim := { program := "ytflobafmmfigoaa", sum := "d7cb86e052022d391e45c2cd9dcb6e7dfb4fe7ed8f58310c737774d67d9d5b6c", func := "stillroom/stillroomlaw08.NibTells", spec := "nibTells", apart := false, narrowed := true }
def NibTellsUptoSaid : Prop := nibTellsUptoRow.holds Try.pinned (OpenSpec.upto nibTellsSpec)

/-- 'stillroomlaw08.NibPacks', WHERE WHAT IT READS IS OF BULK AT MOST 1048576: true; the input reads as it did. -/
def nibPacksUptoRow : OpenClaim := { program := "ytflobafmmfigoaa", sum := "d7cb86e052022d391e45c2cd9dcb6e7dfb4fe7ed8f58310c737774d67d9d5b6c", func := "stillroom/stillroomlaw08.NibPacks", spec := "nibPacks", apart := false, narrowed := true }
def NibPacksUptoSaid : Prop := nibPacksUptoRow.holds Try.pinned (OpenSpec.upto nibPacksSpec)

/-- 'stillroomlaw08.NibBack', WHERE WHAT IT READS IS OF BULK AT MOST 1048576: true; the input reads as it did. -/
def nibBackUptoRow : OpenClaim := { program := "ytflobafmmfigoaa", sum := "d7cb86e052022d391e45c2cd9dcb6e7dfb4fe7ed8f58310c737774d67d9d5b6c", func := "stillroom/stillroomlaw08.NibBack", spec := "nibBack", apart := false, narrowed := true }
def NibBackUptoSaid : Prop := nibBackUptoRow.holds Try.pinned (OpenSpec.upto nibBackSpec)

/-- 'stillroomlaw08.NibOrder', WHERE WHAT IT READS IS OF BULK AT MOST 1048576: true; the input reads as it did. -/
def nibOrderUptoRow : OpenClaim := { program := "ytflobafmmfigoaa", sum := "d7cb86e052022d391e45c2cd9dcb6e7dfb4fe7ed8f58310c737774d67d9d5b6c", func := "stillroom/stillroomlaw08.NibOrder", spec := "nibOrder", apart := false, narrowed := true }
def NibOrderUptoSaid : Prop := nibOrderUptoRow.holds Try.pinned (OpenSpec.upto nibOrderSpec)

/-- 'stillroomlaw08.NibCommon', WHERE WHAT IT READS IS OF BULK AT MOST 1048576: true; the input reads as it did. -/
def nibCommonUptoRow : OpenClaim := { program := "ytflobafmmfigoaa", sum := "d7cb86e052022d391e45c2cd9dcb6e7dfb4fe7ed8f58310c737774d67d9d5b6c", func := "stillroom/stillroomlaw08.NibCommon", spec := "nibCommon", apart := false, narrowed := true }
def NibCommonUptoSaid : Prop := nibCommonUptoRow.holds Try.pinned (OpenSpec.upto nibCommonSpec)

/-- 'stillroomlaw08.NibJoins', WHERE WHAT IT READS IS OF BULK AT MOST 1048576: true; the input reads as it did. -/
def nibJoinsUptoRow : OpenClaim := { program := "ytflobafmmfigoaa", sum := "d7cb86e052022d391e45c2cd9dcb6e7dfb4fe7ed8f58310c737774d67d9d5b6c", func := "stillroom/stillroomlaw08.NibJoins", spec := "nibJoins", apart := false, narrowed := true }
def NibJoinsUptoSaid : Prop := nibJoinsUptoRow.holds Try.pinned (OpenSpec.upto nibJoinsSpec)

end Rows
end Go.Proofs.Ytflobafmmfigoaa
