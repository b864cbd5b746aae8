/-
  No cell of these rows narrows 'for every input' (looked for: loops, veiled, ifaces, maps, wideKeys, modest, calm, conditions, laid).
  DERIVED. THE GIVEN ROWS OF THIS SEAT. 6 by the template 'for every input the law returns true; each argument reads behind the call as it read before'; 0 by the template 'total and deterministic' (their statements: YteodjhhobkcnjaaGreatTotals.lean).
  GIVEN WITH THE SEED: the statements are not yours to turn. If you find one false, say at which input.
  Laid BY PROGRAM, IN A SANDBOX (cutbox-rows.mjs): the forced cells as the released guide's own fill.sh prints them over the translation 9b952b028e384f72… (all of the seat's roots in one cut). By AI agents, Wed Nov 11 2026. No macro, syntax, notation, axiom, sorry.
-/
import Derived.Test.YteodjhhobkcnjaaGreatChecked
import GoSem.Claim
import GoSem.ClaimJoined
import GoSem.ClaimMapViews
import Derived.JoinedTies
import Derived.KernelRfl
namespace Go.Proofs.YteodjhhobkcnjaaGreat
/- THE CELL 'sum', in the pinned program and in every row, IS THE sha256 OF THE DUMP (.gsa) THAT YteodjhhobkcnjaaGreatProg.lean LOADS. Nothing in Lean hashes anything: it is a label: what it is worth is what the hold of that sum in a sandbox is worth. -/
noncomputable def Tryz.pinned : Pinned := { name := "yteodjhhobkcnjaagreat", sum := "9b952b028e384f7218bed32c50175a4efeec325655a67adb918c636223986501", checked := Tryz.checked }
namespace Rows
def none {H : Type} : Left H := { results := [], args := [] }

/-- 'gradinelaw28.MatmulDoes': WHATEVER THE INPUT: true; the input reads as it did. -/
def matmulDoesSpec : ChangeSpec := { name := "matmulDoes", fn := fun _ => fun
  | [d1, d2, d3] => { results := [.lit (.bool true)], args := [d1, d2, d3] }
  | _ => none }
def matmulDoesRow : OpenClaim := { program := "yteodjhhobkcnjaagreat", sum := "9b952b028e384f7218bed32c50175a4efeec325655a67adb918c636223986501", func := "gradine/gradinelaw28.MatmulDoes", spec := "matmulDoes", recurses := true, apart := false }
def MatmulDoesSaid : Prop := matmulDoesRow.holds Tryz.pinned (OpenSpec.ofChange matmulDoesSpec)

/-- ITS FALSE NEIGHBOUR: 'it returns false'. Refute it at one input. -/
def matmulDoesWrong : ChangeSpec := { name := "matmulDoes", fn := fun _ => fun
  | [d1, d2, d3] => { results := [.lit (.bool false)], args := [d1, d2, d3] }
  | _ => none }
def MatmulDoesWrongFalsely : Prop := matmulDoesRow.holds Tryz.pinned (OpenSpec.ofChange matmulDoesWrong)

/-- 'gradinelaw37.WriteDoes': WHATEVER THE INPUT: true; the input reads as it did. -/
def writeDoesSpec : ChangeSpec := { name := "writeDoes", fn := fun _ => fun
  | [d1, d2] => { results := [.lit (.bool true)], args := [d1, d2] }
  | _ => none }
def writeDoesRow : OpenClaim := { program := "yteodjhhobkcnjaagreat", sum := "9b952b028e384f7218bed32c50175a4efeec325655a67adb918c636223986501", func := "gradine/gradinelaw37.WriteDoes", spec := "writeDoes", recurses := true, apart := false }
def WriteDoesSaid : Prop := writeDoesRow.holds Tryz.pinned (OpenSpec.ofChange writeDoesSpec)

/-- ITS FALSE NEIGHBOUR: 'it returns false'. Refute it at one input. -/
def writeDoesWrong : ChangeSpec := { name := "writeDoes", fn := fun _ => fun
  | [d1, d2] => { results := [.lit (.bool false)], args := [d1, d2] }
  | _ => none }
def WriteDoesWrongFalsely : Prop := writeDoesRow.holds Tryz.pinned (OpenSpec.ofChange writeDoesWrong)

/-- 'gradinelaw27.ReduceDoes': WHATEVER THE INPUT: true; the input reads as it did. -/
def reduceDoesSpec : ChangeSpec := { name := "reduceDoes", fn := fun _ => fun
  | [d1, d2, d3] => { results := [.lit (.bool true)], args := [d1, d2, d3] }
  | _ => none }
def reduceDoesRow : OpenClaim := { program := "yteodjhhobkcnjaagreat", sum := "9b952b028e384f7218bed32c50175a4efeec325655a67adb918c636223986501", func := "gradine/gradinelaw27.ReduceDoes", spec := "reduceDoes", recurses := true, apart := false }
def ReduceDoesSaid : Prop := reduceDoesRow.holds Tryz.pinned (OpenSpec.ofChange reduceDoesSpec)

/-- ITS FALSE NEIGHBOUR: 'it returns false'. Refute it at one input. -/
def reduceDoesWrong : ChangeSpec := { name := "reduceDoes", fn := fun _ => fun
  | [d1, d2, d3] => { results := [.lit (.bool false)], args := [d1, d2, d3] }
  | _ => none }
def ReduceDoesWrongFalsely : Prop := reduceDoesRow.holds Tryz.pinned (OpenSpec.ofChange reduceDoesWrong)

/-- 'gradinelaw26.EachAlone': WHATEVER THE INPUT: true; the input reads as it did. -/
def eachAloneSpec : ChangeSpec := { name := "eachAlone", fn := fun _ => fun
  | [d1, d2, d3] => { results := [.lit (.bool true)], args := [d1, d2, d3] }
  | _ => none }
def eachAloneRow : OpenClaim := { program := "yteodjhhobkcnjaagreat", sum := "9b952b028e384f7218bed32c50175a4efeec325655a67adb918c636223986501", func := "gradine/gradinelaw26.EachAlone", spec := "eachAlone", unfollowed := true, recurses := true, apart := false }
def EachAloneSaid : Prop := eachAloneRow.holds Tryz.pinned (OpenSpec.ofChange eachAloneSpec)

/-- ITS FALSE NEIGHBOUR: 'it returns false'. Refute it at one input. -/
def eachAloneWrong : ChangeSpec := { name := "eachAlone", fn := fun _ => fun
  | [d1, d2, d3] => { results := [.lit (.bool false)], args := [d1, d2, d3] }
  | _ => none }
def EachAloneWrongFalsely : Prop := eachAloneRow.holds Tryz.pinned (OpenSpec.ofChange eachAloneWrong)

/-- 'gradinelaw26.EachSlopes': WHATEVER THE INPUT: true; the input reads as it did. -/
def eachSlopesSpec : ChangeSpec := { name := "eachSlopes", fn := fun _ => fun
  | [d1, d2, d3] => { results := [.lit (.bool true)], args := [d1, d2, d3] }
  | _ => none }
def eachSlopesRow : OpenClaim := { program := "yteodjhhobkcnjaagreat", sum := "9b952b028e384f7218bed32c50175a4efeec325655a67adb918c636223986501", func := "gradine/gradinelaw26.EachSlopes", spec := "eachSlopes", unfollowed := true, recurses := true, apart := false }
def EachSlopesSaid : Prop := eachSlopesRow.holds Tryz.pinned (OpenSpec.ofChange eachSlopesSpec)

/-- ITS FALSE NEIGHBOUR: 'it returns false'. Refute it at one input. -/
def eachSlopesWrong : ChangeSpec := { name := "eachSlopes", fn := fun _ => fun
  | [d1, d2, d3] => { results := [.lit (.bool false)], args := [d1, d2, d3] }
  | _ => none }
def EachSlopesWrongFalsely : Prop := eachSlopesRow.holds Tryz.pinned (OpenSpec.ofChange eachSlopesWrong)

/-- 'gradinelaw26.EachDoes': WHATEVER THE INPUT: true; the input reads as it did. -/
def eachDoesSpec : ChangeSpec := { name := "eachDoes", fn := fun _ => fun
  | [d1, d2] => { results := [.lit (.bool true)], args := [d1, d2] }
  | _ => none }
def eachDoesRow : OpenClaim := { program := "yteodjhhobkcnjaagreat", sum := "9b952b028e384f7218bed32c50175a4efeec325655a67adb918c636223986501", func := "gradine/gradinelaw26.EachDoes", spec := "eachDoes", unfollowed := true, recurses := true, apart := false }
def EachDoesSaid : Prop := eachDoesRow.holds Tryz.pinned (OpenSpec.ofChange eachDoesSpec)

/-- ITS FALSE NEIGHBOUR: 'it returns false'. Refute it at one input. -/
def eachDoesWrong : ChangeSpec := { name := "eachDoes", fn := fun _ => fun
  | [d1, d2] => { results := [.lit (.bool false)], args := [d1, d2] }
  | _ => none }
def EachDoesWrongFalsely : Prop := eachDoesRow.holds Tryz.pinned (OpenSpec.ofChange eachDoesWrong)

/- THE SECOND FORM. 'bulk': how many values and letters a reading holds, each counted each time it is reached (what is shared counts as often as it is met; a slice's spare places count too). A statement '..UptoSaid' is the law's where the arguments, and the package variables that the reading takes, are together of bulk at most 1048576: NARROWER than '..Said'. Prove '..Said' where nothing that the law and all that it calls make is longer than what came in: it says more and counts as full. Else prove '..UptoSaid'. A law counts once. -/
mutual
def uptoBulk {H : Type} : DataW H → Nat
  | .lit (.string bytes) => bytes.length + 1
  | .lit _ => 1
  | .nil => 1
  | .ptr d => uptoBulk d + 1
  | .slice elems spare => uptoBulkAll elems + uptoBulkAll spare + 1
  | .agg parts => uptoBulkAll parts + 1
  | .iface _ d => uptoBulk d + 1
  | .map entries => uptoBulkEntries entries + 1
  | .held _ => 1
def uptoBulkAll {H : Type} : List (DataW H) → Nat
  | [] => 0
  | d :: r => uptoBulk d + uptoBulkAll r
def uptoBulkEntries {H : Type} : List (Lit × DataW H) → Nat
  | [] => 0
  | x :: r => uptoBulkEntry x + uptoBulkEntries r
def uptoBulkEntry {H : Type} : Lit × DataW H → Nat
  | (.string bytes, d) => bytes.length + uptoBulk d + 1
  | (_, d) => uptoBulk d + 1
 end
def uptoSmall : (H : Type) → List (DataW H) → Bool := fun _ ds => decide (uptoBulkAll ds ≤ 1048576)
def OpenSpec.upto (s : _root_.Go.ChangeSpec) : _root_.Go.OpenSpec := { _root_.Go.OpenSpec.ofChange s with cond := some uptoSmall }

/-- 'gradinelaw28.MatmulDoes', WHERE WHAT IT READS IS OF BULK AT MOST 1048576: true; the input reads as it did. -/
def matmulDoesUptoRow : OpenClaim := { program := "yteodjhhobkcnjaagreat", sum := "9b952b028e384f7218bed32c50175a4efeec325655a67adb918c636223986501", func := "gradine/gradinelaw28.MatmulDoes", spec := "matmulDoes", recurses := true, apart := false, narrowed := true }
def MatmulDoesUptoSaid : Prop := matmulDoesUptoRow.holds Tryz.pinned (OpenSpec.upto matmulDoesSpec)

/-- 'gradinelaw37.WriteDoes', WHERE WHAT IT READS IS OF BULK AT MOST 1048576: true; the input reads as it did. -/
def writeDoesUptoRow : OpenClaim := { program := "yteodjhhobkcnjaagreat", sum := "9b952b028e384f7218bed32c50175a4efeec325655a67adb918c636223986501", func := "gradine/gradinelaw37.WriteDoes", spec := "writeDoes", recurses := true, apart := false, narrowed := true }
def WriteDoesUptoSaid : Prop := writeDoesUptoRow.holds Tryz.pinned (OpenSpec.upto writeDoesSpec)

/-- 'gradinelaw27.ReduceDoes', WHERE WHAT IT READS IS OF BULK AT MOST 1048576: true; the input reads as it did. -/
def reduceDoesUptoRow : OpenClaim := { program := "yteodjhhobkcnjaagreat", sum := "9b952b028e384f7218bed32c50175a4efeec325655a67adb918c636223986501", func := "gradine/gradinelaw27.ReduceDoes", spec := "reduceDoes", recurses := true, apart := false, narrowed := true }
def ReduceDoesUptoSaid : Prop := reduceDoesUptoRow.holds Tryz.pinned (OpenSpec.upto reduceDoesSpec)

/-- 'gradinelaw26.EachAlone', WHERE WHAT IT READS IS OF BULK AT MOST 1048576: true; the input reads as it did. -/
def eachAloneUptoRow : OpenClaim := { program := "yteodjhhobkcnjaagreat", sum := "9b952b028e384f7218bed32c50175a4efeec325655a67adb918c636223986501", func := "gradine/gradinelaw26.EachAlone", spec := "eachAlone", unfollowed := true, recurses := true, apart := false, narrowed := true }
def EachAloneUptoSaid : Prop := eachAloneUptoRow.holds Tryz.pinned (OpenSpec.upto eachAloneSpec)

/-- 'gradinelaw26.EachSlopes', WHERE WHAT IT READS IS OF BULK AT MOST 1048576: true; the input reads as it did. -/
def eachSlopesUptoRow : OpenClaim := { program := "yteodjhhobkcnjaagreat", sum := "9b952b028e384f7218bed32c50175a4efeec325655a67adb918c636223986501", func := "gradine/gradinelaw26.EachSlopes", spec := "eachSlopes", unfollowed := true, recurses := true, apart := false, narrowed := true }
def EachSlopesUptoSaid : Prop := eachSlopesUptoRow.holds Tryz.pinned (OpenSpec.upto eachSlopesSpec)

/-- 'gradinelaw26.EachDoes', WHERE WHAT IT READS IS OF BULK AT MOST 1048576: true; the input reads as it did. -/
def eachDoesUptoRow : OpenClaim := { program := "yteodjhhobkcnjaagreat", sum := "9b952b028e384f7218bed32c50175a4efeec325655a67adb918c636223986501", func := "gradine/gradinelaw26.EachDoes", spec := "eachDoes", unfollowed := true, recurses := true, apart := false, narrowed := true }
def EachDoesUptoSaid : Prop := eachDoesUptoRow.holds Tryz.pinned (OpenSpec.upto eachDoesSpec)

end Rows
end Go.Proofs.YteodjhhobkcnjaaGreat
