/-
  No cell of these rows narrows 'for every input' (looked for: loops, veiled, ifaces, maps, wideKeys, modest, calm, conditions, laid).
  DERIVED. THE GIVEN ROWS OF THIS SEAT. 7 by the template 'for every input the law returns true; each argument reads behind the call as it read before'; 0 by the template 'total and deterministic' (their statements: YtdeecdebhigafaaTotals.lean).
  GIVEN WITH THE SEED: the statements are not yours to turn. If you find one false, say at which input.
  Laid BY PROGRAM, IN A SANDBOX (cutbox-rows.mjs): the forced cells as the released guide's own fill.sh prints them over the translation bd10d8e2657bd8cf… (all of the seat's roots in one cut). By AI agents, Wed Nov 11 2026. No macro, syntax, notation, axiom, sorry.
-/
import Derived.Test.YtdeecdebhigafaaChecked
import GoSem.Claim
import GoSem.ClaimJoined
import GoSem.ClaimMapViews
import Derived.JoinedTies
import Derived.KernelRfl
namespace Go.Proofs.Ytdeecdebhigafaa
/- THE CELL 'sum', in the pinned program and in every row, IS THE sha256 OF THE DUMP (.gsa) THAT YtdeecdebhigafaaProg.lean LOADS. Nothing in Lean hashes anything: it is a label: what it is worth is what the hold of that sum in a sandbox is worth. -/
noncomputable def Try.pinned : Pinned := { name := "ytdeecdebhigafaa", sum := "bd10d8e2657bd8cf2388c747c6ee4bb234f8243985584522a9a9a6d39e342502", checked := Try.checked }
namespace Rows
def none {H : Type} : Left H := { results := [], args := [] }

/-- 'stillroomlaw16.ModelCalls': WHATEVER THE INPUT: true; the input reads as it did. -/
def modelCallsSpec : ChangeSpec := { name := "modelCalls", fn := fun _ => fun
  | [d1, d2, d3] => { results := [.lit (.bool true)], args := [d1, d2, d3] }
  | _ => none }
def modelCallsRow : OpenClaim := { program := "ytdeecdebhigafaa", sum := "bd10d8e2657bd8cf2388c747c6ee4bb234f8243985584522a9a9a6d39e342502", func := "stillroom/stillroomlaw16.ModelCalls", spec := "modelCalls", inPlace := ["internal/bytealg.abigen_runtime_cmpstring"], unfollowed := true, recurses := true, apart := false }
def ModelCallsSaid : Prop := modelCallsRow.holds Try.pinned (OpenSpec.ofChange modelCallsSpec)

/-- ITS FALSE NEIGHBOUR: 'it returns false'. Refute it at one input. -/
def modelCallsWrong : ChangeSpec := { name := "modelCalls", fn := fun _ => fun
  | [d1, d2, d3] => { results := [.lit (.bool false)], args := [d1, d2, d3] }
  | _ => none }
def ModelCallsWrongFalsely : Prop := modelCallsRow.holds Try.pinned (OpenSpec.ofChange modelCallsWrong)

/-- 'stillroomlaw16.ModelPast': WHATEVER THE INPUT: true; the input reads as it did. -/
def modelPastSpec : ChangeSpec := { name := "modelPast", fn := fun _ => fun
  | [d1, d2, d3] => { results := [.lit (.bool true)], args := [d1, d2, d3] }
  | _ => none }
def modelPastRow : OpenClaim := { program := "ytdeecdebhigafaa", sum := "bd10d8e2657bd8cf2388c747c6ee4bb234f8243985584522a9a9a6d39e342502", func := "stillroom/stillroomlaw16.ModelPast", spec := "modelPast", inPlace := ["internal/bytealg.abigen_runtime_cmpstring"], unfollowed := true, recurses := true, apart := false }
def ModelPastSaid : Prop := modelPastRow.holds Try.pinned (OpenSpec.ofChange modelPastSpec)

/-- ITS FALSE NEIGHBOUR: 'it returns false'. Refute it at one input. -/
def modelPastWrong : ChangeSpec := { name := "modelPast", fn := fun _ => fun
  | [d1, d2, d3] => { results := [.lit (.bool false)], args := [d1, d2, d3] }
  | _ => none }
def ModelPastWrongFalsely : Prop := modelPastRow.holds Try.pinned (OpenSpec.ofChange modelPastWrong)

/-- 'stillroomlaw16.ModelScans': WHATEVER THE INPUT: true; the input reads as it did. -/
def modelScansSpec : ChangeSpec := { name := "modelScans", fn := fun _ => fun
  | [d1, d2, d3] => { results := [.lit (.bool true)], args := [d1, d2, d3] }
  | _ => none }
def modelScansRow : OpenClaim := { program := "ytdeecdebhigafaa", sum := "bd10d8e2657bd8cf2388c747c6ee4bb234f8243985584522a9a9a6d39e342502", func := "stillroom/stillroomlaw16.ModelScans", spec := "modelScans", inPlace := ["internal/bytealg.abigen_runtime_cmpstring"], unfollowed := true, recurses := true, apart := false }
def ModelScansSaid : Prop := modelScansRow.holds Try.pinned (OpenSpec.ofChange modelScansSpec)

/-- ITS FALSE NEIGHBOUR: 'it returns false'. Refute it at one input. -/
def modelScansWrong : ChangeSpec := { name := "modelScans", fn := fun _ => fun
  | [d1, d2, d3] => { results := [.lit (.bool false)], args := [d1, d2, d3] }
  | _ => none }
def ModelScansWrongFalsely : Prop := modelScansRow.holds Try.pinned (OpenSpec.ofChange modelScansWrong)

/-- 'stillroomlaw16.ModelFirst': WHATEVER THE INPUT: true; the input reads as it did. -/
def modelFirstSpec : ChangeSpec := { name := "modelFirst", fn := fun _ => fun
  | [d1, d2, d3] => { results := [.lit (.bool true)], args := [d1, d2, d3] }
  | _ => none }
def modelFirstRow : OpenClaim := { program := "ytdeecdebhigafaa", sum := "bd10d8e2657bd8cf2388c747c6ee4bb234f8243985584522a9a9a6d39e342502", func := "stillroom/stillroomlaw16.ModelFirst", spec := "modelFirst", inPlace := ["internal/bytealg.abigen_runtime_cmpstring"], unfollowed := true, recurses := true, apart := false }
def ModelFirstSaid : Prop := modelFirstRow.holds Try.pinned (OpenSpec.ofChange modelFirstSpec)

/-- ITS FALSE NEIGHBOUR: 'it returns false'. Refute it at one input. -/
def modelFirstWrong : ChangeSpec := { name := "modelFirst", fn := fun _ => fun
  | [d1, d2, d3] => { results := [.lit (.bool false)], args := [d1, d2, d3] }
  | _ => none }
def ModelFirstWrongFalsely : Prop := modelFirstRow.holds Try.pinned (OpenSpec.ofChange modelFirstWrong)

/-- 'stillroomlaw16.ModelNewest': WHATEVER THE INPUT: true; the input reads as it did. -/
def modelNewestSpec : ChangeSpec := { name := "modelNewest", fn := fun _ => fun
  | [d1, d2] => { results := [.lit (.bool true)], args := [d1, d2] }
  | _ => none }
def modelNewestRow : OpenClaim := { program := "ytdeecdebhigafaa", sum := "bd10d8e2657bd8cf2388c747c6ee4bb234f8243985584522a9a9a6d39e342502", func := "stillroom/stillroomlaw16.ModelNewest", spec := "modelNewest", inPlace := ["internal/bytealg.abigen_runtime_cmpstring"], unfollowed := true, recurses := true, apart := false }
def ModelNewestSaid : Prop := modelNewestRow.holds Try.pinned (OpenSpec.ofChange modelNewestSpec)

/-- ITS FALSE NEIGHBOUR: 'it returns false'. Refute it at one input. -/
def modelNewestWrong : ChangeSpec := { name := "modelNewest", fn := fun _ => fun
  | [d1, d2] => { results := [.lit (.bool false)], args := [d1, d2] }
  | _ => none }
def ModelNewestWrongFalsely : Prop := modelNewestRow.holds Try.pinned (OpenSpec.ofChange modelNewestWrong)

/-- 'stillroomlaw16.ModelOthers': WHATEVER THE INPUT: true; the input reads as it did. -/
def modelOthersSpec : ChangeSpec := { name := "modelOthers", fn := fun _ => fun
  | [d1, d2, d3] => { results := [.lit (.bool true)], args := [d1, d2, d3] }
  | _ => none }
def modelOthersRow : OpenClaim := { program := "ytdeecdebhigafaa", sum := "bd10d8e2657bd8cf2388c747c6ee4bb234f8243985584522a9a9a6d39e342502", func := "stillroom/stillroomlaw16.ModelOthers", spec := "modelOthers", inPlace := ["internal/bytealg.abigen_runtime_cmpstring"], unfollowed := true, recurses := true, apart := false }
def ModelOthersSaid : Prop := modelOthersRow.holds Try.pinned (OpenSpec.ofChange modelOthersSpec)

/-- ITS FALSE NEIGHBOUR: 'it returns false'. Refute it at one input. -/
def modelOthersWrong : ChangeSpec := { name := "modelOthers", fn := fun _ => fun
  | [d1, d2, d3] => { results := [.lit (.bool false)], args := [d1, d2, d3] }
  | _ => none }
def ModelOthersWrongFalsely : Prop := modelOthersRow.holds Try.pinned (OpenSpec.ofChange modelOthersWrong)

/-- 'stillroomlaw16.ModelClash': WHATEVER THE INPUT: true; the input reads as it did. -/
def modelClashSpec : ChangeSpec := { name := "modelClash", fn := fun _ => fun
  | [d1, d2, d3] => { results := [.lit (.bool true)], args := [d1, d2, d3] }
  | _ => none }
def modelClashRow : OpenClaim := { program := "ytdeecdebhigafaa", sum := "bd10d8e2657bd8cf2388c747c6ee4bb234f8243985584522a9a9a6d39e342502", func := "stillroom/stillroomlaw16.ModelClash", spec := "modelClash", inPlace := ["internal/bytealg.abigen_runtime_cmpstring"], unfollowed := true, recurses := true, apart := false }
def ModelClashSaid : Prop := modelClashRow.holds Try.pinned (OpenSpec.ofChange modelClashSpec)

/-- ITS FALSE NEIGHBOUR: 'it returns false'. Refute it at one input. -/
def modelClashWrong : ChangeSpec := { name := "modelClash", fn := fun _ => fun
  | [d1, d2, d3] => { results := [.lit (.bool false)], args := [d1, d2, d3] }
  | _ => none }
def ModelClashWrongFalsely : Prop := modelClashRow.holds Try.pinned (OpenSpec.ofChange modelClashWrong)

/- THE SECOND FORM. 'bulk': how many values and letters a reading holds, each counted each time it is reached (what is shared counts as often as it is met; a slice's spare places count too). A statement '..UptoSaid' is the law's where the arguments, and the package variables that the reading takes, are together of bulk at most 1048576: NARROWER than '..Said'. Prove '..Said' where nothing that the law and all that it calls make is longer than what came in: it says more and counts as full. Else prove '..UptoSaid'. A law counts once. -/
mutual
def uptoBulk {H : Type} : DataW H → Nat
  | .lit (.string bytes) => bytes.length + 1
  | .lit _ => 1
  | .nil => 1
  | .ptr d => uptoBulk d + 1
  | .slice elems spare => uptoBulkAll elems + uptoBulkAll spare + 1
  | .agg parts => uptoBulkAll parts + 1
  | .iface _ d => uptoBulk d + 1
  | .map entries => uptoBulkEntries entries + 1
  | .held _ => 1
def uptoBulkAll {H : Type} : List (DataW H) → Nat
  | [] => 0
  | d :: r => uptoBulk d + uptoBulkAll r
def uptoBulkEntries {H : Type} : List (Lit × DataW H) → Nat
  | [] => 0
  | x :: r => uptoBulkEntry x + uptoBulkEntries r
def uptoBulkEntry {H : Type} : Lit × DataW H → Nat
  | (.string bytes, d) => bytes.length + uptoBulk d + 1
  | (_, d) => uptoBulk d + 1
 end
def uptoSmall : (H : Type) → List (DataW H) → Bool := fun _ ds => decide (uptoBulkAll ds ≤ 1048576)
def OpenSpec.upto (s : _root_.Go.ChangeSpec) : _root_.Go.OpenSpec := { _root_.Go.OpenSpec.ofChange s with cond := some uptoSmall }

/-- 'stillroomlaw16.ModelCalls', WHERE WHAT IT READS IS OF BULK AT MOST 1048576: true; the input reads as it did. -/
def modelCallsUptoRow : OpenClaim := { program := "ytdeecdebhigafaa", sum := "bd10d8e2657bd8cf2388c747c6ee4bb234f8243985584522a9a9a6d39e342502", func := "stillroom/stillroomlaw16.ModelCalls", spec := "modelCalls", inPlace := ["internal/bytealg.abigen_runtime_cmpstring"], unfollowed := true, recurses := true, apart := false, narrowed := true }
def ModelCallsUptoSaid : Prop := modelCallsUptoRow.holds Try.pinned (OpenSpec.upto modelCallsSpec)

/-- 'stillroomlaw16.ModelPast', WHERE WHAT IT READS IS OF BULK AT MOST 1048576: true; the input reads as it did. -/
def modelPastUptoRow : OpenClaim := { program := "ytdeecdebhigafaa", sum := "bd10d8e2657bd8cf2388c747c6ee4bb234f8243985584522a9a9a6d39e342502", func := "stillroom/stillroomlaw16.ModelPast", spec := "modelPast", inPlace := ["internal/bytealg.abigen_runtime_cmpstring"], unfollowed := true, recurses := true, apart := false, narrowed := true }
def ModelPastUptoSaid : Prop := modelPastUptoRow.holds Try.pinned (OpenSpec.upto modelPastSpec)

/-- 'stillroomlaw16.ModelScans', WHERE WHAT IT READS IS OF BULK AT MOST 1048576: true; the input reads as it did. -/
def modelScansUptoRow : OpenClaim := { program := "ytdeecdebhigafaa", sum := "bd10d8e2657bd8cf2388c747c6ee4bb234f8243985584522a9a9a6d39e342502", func := "stillroom/stillroomlaw16.ModelScans", spec := "modelScans", inPlace := ["internal/bytealg.abigen_runtime_cmpstring"], unfollowed := true, recurses := true, apart := false, narrowed := true }
def ModelScansUptoSaid : Prop := modelScansUptoRow.holds Try.pinned (OpenSpec.upto modelScansSpec)

/-- 'stillroomlaw16.ModelFirst', WHERE WHAT IT READS IS OF BULK AT MOST 1048576: true; the input reads as it did. -/
def modelFirstUptoRow : OpenClaim := { program := "ytdeecdebhigafaa", sum := "bd10d8e2657bd8cf2388c747c6ee4bb234f8243985584522a9a9a6d39e342502", func := "stillroom/stillroomlaw16.ModelFirst", spec := "modelFirst", inPlace := ["internal/bytealg.abigen_runtime_cmpstring"], unfollowed := true, recurses := true, apart := false, narrowed := true }
def ModelFirstUptoSaid : Prop := modelFirstUptoRow.holds Try.pinned (OpenSpec.upto modelFirstSpec)

/-- 'stillroomlaw16.ModelNewest', WHERE WHAT IT READS IS OF BULK AT MOST 1048576: true; the input reads as it did. -/
def modelNewestUptoRow : OpenClaim := { program := "ytdeecdebhigafaa", sum := "bd10d8e2657bd8cf2388c747c6ee4bb234f8243985584522a9a9a6d39e342502", func := "stillroom/stillroomlaw16.ModelNewest", spec := "modelNewest", inPlace := ["internal/bytealg.abigen_runtime_cmpstring"], unfollowed := true, recurses := true, apart := false, narrowed := true }
def ModelNewestUptoSaid : Prop := modelNewestUptoRow.holds Try.pinned (OpenSpec.upto modelNewestSpec)

/-- 'stillroomlaw16.ModelOthers', WHERE WHAT IT READS IS OF BULK AT MOST 1048576: true; the input reads as it did. -/
def modelOthersUptoRow : OpenClaim := { program := "ytdeecdebhigafaa", sum := "bd10d8e2657bd8cf2388c747c6ee4bb234f8243985584522a9a9a6d39e342502", func := "stillroom/stillroomlaw16.ModelOthers", spec := "modelOthers", inPlace := ["internal/bytealg.abigen_runtime_cmpstring"], unfollowed := true, recurses := true, apart := false, narrowed := true }
def ModelOthersUptoSaid : Prop := modelOthersUptoRow.holds Try.pinned (OpenSpec.upto modelOthersSpec)

/-- 'stillroomlaw16.ModelClash', WHERE WHAT IT READS IS OF BULK AT MOST 1048576: true; the input reads as it did. -/
def modelClashUptoRow : OpenClaim := { program := "ytdeecdebhigafaa", sum := "bd10d8e2657bd8cf2388c747c6ee4bb234f8243985584522a9a9a6d39e342502", func := "stillroom/stillroomlaw16.ModelClash", spec := "modelClash", inPlace := ["internal/bytealg.abigen_runtime_cmpstring"], unfollowed := true, recurses := true, apart := false, narrowed := true }
def ModelClashUptoSaid : Prop := modelClashUptoRow.holds Try.pinned (OpenSpec.upto modelClashSpec)

end Rows
end Go.Proofs.Ytdeecdebhigafaa
