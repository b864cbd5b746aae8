/-
  No cell of these rows narrows 'for every input' (looked for: loops, veiled, ifaces, maps, wideKeys, modest, calm, conditions, laid).
  DERIVED. THE GIVEN ROWS OF THIS SEAT. 6 by the template 'for every input the law returns true; each argument reads behind the call as it read before'; 0 by the template 'total and deterministic' (their statements: YtjgkdkbmppaaaaaGreatTotals.lean).
  GIVEN WITH THE SEED: the statements are not yours to turn. If you find one false, say at which input.
  Laid BY PROGRAM, IN A SANDBOX (cutbox-rows.mjs): the forced cells as the released guide's own fill.sh prints them over the translation e360ff2e25ff2b72… (all of the seat's roots in one cut). By AI agents, Wed Nov 11 2026. No macro, syntax, notation, axiom, sorry.
-/
import Derived.Test.YtjgkdkbmppaaaaaGreatChecked
import GoSem.Claim
import GoSem.ClaimJoined
import GoSem.ClaimMapViews
import Derived.JoinedTies
import Derived.KernelRfl
namespace Go.Proofs.YtjgkdkbmppaaaaaGreat
/- THE CELL 'sum', in the pinned program and in every row, IS THE sha256 OF THE DUMP (.gsa) THAT YtjgkdkbmppaaaaaGreatProg.lean LOADS. Nothing in Lean hashes anything: it is a label: what it is worth is what the hold of that sum in a sandbox is worth. -/
noncomputable def Tryz.pinned : Pinned := { name := "ytjgkdkbmppaaaaagreat", sum := "e360ff2e25ff2b7207b9a76faacb6e53a85c09537f42d11b6a129dabcd4fb24a", checked := Tryz.checked }
namespace Rows
def none {H : Type} : Left H := { results := [], args := [] }

/-- 'gradinelaw28.MatmulDims': WHATEVER THE INPUT: true; the input reads as it did. -/
def matmulDimsSpec : ChangeSpec := { name := "matmulDims", fn := fun _ => fun
  | [d1, d2, d3] => { results := [.lit (.bool true)], args := [d1, d2, d3] }
  | _ => none }
def matmulDimsRow : OpenClaim := { program := "ytjgkdkbmppaaaaagreat", sum := "e360ff2e25ff2b7207b9a76faacb6e53a85c09537f42d11b6a129dabcd4fb24a", func := "gradine/gradinelaw28.MatmulDims", spec := "matmulDims", recurses := true, apart := false }
def MatmulDimsSaid : Prop := matmulDimsRow.holds Tryz.pinned (OpenSpec.ofChange matmulDimsSpec)

/-- ITS FALSE NEIGHBOUR: 'it returns false'. Refute it at one input. -/
def matmulDimsWrong : ChangeSpec := { name := "matmulDims", fn := fun _ => fun
  | [d1, d2, d3] => { results := [.lit (.bool false)], args := [d1, d2, d3] }
  | _ => none }
def MatmulDimsWrongFalsely : Prop := matmulDimsRow.holds Tryz.pinned (OpenSpec.ofChange matmulDimsWrong)

/-- 'gradinelaw28.MatmulTurned': WHATEVER THE INPUT: true; the input reads as it did. -/
def matmulTurnedSpec : ChangeSpec := { name := "matmulTurned", fn := fun _ => fun
  | [d1, d2] => { results := [.lit (.bool true)], args := [d1, d2] }
  | _ => none }
def matmulTurnedRow : OpenClaim := { program := "ytjgkdkbmppaaaaagreat", sum := "e360ff2e25ff2b7207b9a76faacb6e53a85c09537f42d11b6a129dabcd4fb24a", func := "gradine/gradinelaw28.MatmulTurned", spec := "matmulTurned", recurses := true, apart := false }
def MatmulTurnedSaid : Prop := matmulTurnedRow.holds Tryz.pinned (OpenSpec.ofChange matmulTurnedSpec)

/-- ITS FALSE NEIGHBOUR: 'it returns false'. Refute it at one input. -/
def matmulTurnedWrong : ChangeSpec := { name := "matmulTurned", fn := fun _ => fun
  | [d1, d2] => { results := [.lit (.bool false)], args := [d1, d2] }
  | _ => none }
def MatmulTurnedWrongFalsely : Prop := matmulTurnedRow.holds Tryz.pinned (OpenSpec.ofChange matmulTurnedWrong)

/-- 'gradinelaw28.MatmulSums': WHATEVER THE INPUT: true; the input reads as it did. -/
def matmulSumsSpec : ChangeSpec := { name := "matmulSums", fn := fun _ => fun
  | [d1, d2, d3] => { results := [.lit (.bool true)], args := [d1, d2, d3] }
  | _ => none }
def matmulSumsRow : OpenClaim := { program := "ytjgkdkbmppaaaaagreat", sum := "e360ff2e25ff2b7207b9a76faacb6e53a85c09537f42d11b6a129dabcd4fb24a", func := "gradine/gradinelaw28.MatmulSums", spec := "matmulSums", recurses := true, apart := false }
def MatmulSumsSaid : Prop := matmulSumsRow.holds Tryz.pinned (OpenSpec.ofChange matmulSumsSpec)

/-- ITS FALSE NEIGHBOUR: 'it returns false'. Refute it at one input. -/
def matmulSumsWrong : ChangeSpec := { name := "matmulSums", fn := fun _ => fun
  | [d1, d2, d3] => { results := [.lit (.bool false)], args := [d1, d2, d3] }
  | _ => none }
def MatmulSumsWrongFalsely : Prop := matmulSumsRow.holds Tryz.pinned (OpenSpec.ofChange matmulSumsWrong)

/-- 'gradinelaw37.WriteBack': WHATEVER THE INPUT: true; the input reads as it did. -/
def writeBackSpec : ChangeSpec := { name := "writeBack", fn := fun _ => fun
  | [d] => { results := [.lit (.bool true)], args := [d] }
  | _ => none }
def writeBackRow : OpenClaim := { program := "ytjgkdkbmppaaaaagreat", sum := "e360ff2e25ff2b7207b9a76faacb6e53a85c09537f42d11b6a129dabcd4fb24a", func := "gradine/gradinelaw37.WriteBack", spec := "writeBack", recurses := true, apart := false }
def WriteBackSaid : Prop := writeBackRow.holds Tryz.pinned (OpenSpec.ofChange writeBackSpec)

/-- ITS FALSE NEIGHBOUR: 'it returns false'. Refute it at one input. -/
def writeBackWrong : ChangeSpec := { name := "writeBack", fn := fun _ => fun
  | [d] => { results := [.lit (.bool false)], args := [d] }
  | _ => none }
def WriteBackWrongFalsely : Prop := writeBackRow.holds Tryz.pinned (OpenSpec.ofChange writeBackWrong)

/-- 'gradinelaw27.ReduceDims': WHATEVER THE INPUT: true; the input reads as it did. -/
def reduceDimsSpec : ChangeSpec := { name := "reduceDims", fn := fun _ => fun
  | [d1, d2, d3] => { results := [.lit (.bool true)], args := [d1, d2, d3] }
  | _ => none }
def reduceDimsRow : OpenClaim := { program := "ytjgkdkbmppaaaaagreat", sum := "e360ff2e25ff2b7207b9a76faacb6e53a85c09537f42d11b6a129dabcd4fb24a", func := "gradine/gradinelaw27.ReduceDims", spec := "reduceDims", recurses := true, apart := false }
def ReduceDimsSaid : Prop := reduceDimsRow.holds Tryz.pinned (OpenSpec.ofChange reduceDimsSpec)

/-- ITS FALSE NEIGHBOUR: 'it returns false'. Refute it at one input. -/
def reduceDimsWrong : ChangeSpec := { name := "reduceDims", fn := fun _ => fun
  | [d1, d2, d3] => { results := [.lit (.bool false)], args := [d1, d2, d3] }
  | _ => none }
def ReduceDimsWrongFalsely : Prop := reduceDimsRow.holds Tryz.pinned (OpenSpec.ofChange reduceDimsWrong)

/-- 'gradinelaw27.ReduceBest': WHATEVER THE INPUT: true; the input reads as it did. -/
def reduceBestSpec : ChangeSpec := { name := "reduceBest", fn := fun _ => fun
  | [d1, d2, d3] => { results := [.lit (.bool true)], args := [d1, d2, d3] }
  | _ => none }
def reduceBestRow : OpenClaim := { program := "ytjgkdkbmppaaaaagreat", sum := "e360ff2e25ff2b7207b9a76faacb6e53a85c09537f42d11b6a129dabcd4fb24a", func := "gradine/gradinelaw27.ReduceBest", spec := "reduceBest", recurses := true, apart := false }
def ReduceBestSaid : Prop := reduceBestRow.holds Tryz.pinned (OpenSpec.ofChange reduceBestSpec)

/-- ITS FALSE NEIGHBOUR: 'it returns false'. Refute it at one input. -/
def reduceBestWrong : ChangeSpec := { name := "reduceBest", fn := fun _ => fun
  | [d1, d2, d3] => { results := [.lit (.bool false)], args := [d1, d2, d3] }
  | _ => none }
def ReduceBestWrongFalsely : Prop := reduceBestRow.holds Tryz.pinned (OpenSpec.ofChange reduceBestWrong)

/- THE SECOND FORM. 'bulk': how many values and letters a reading holds, each counted each time it is reached (what is shared counts as often as it is met; a slice's spare places count too). A statement '..UptoSaid' is the law's where the arguments, and the package variables that the reading takes, are together of bulk at most 1048576: NARROWER than '..Said'. Prove '..Said' where nothing that the law and all that it calls make is longer than what came in: it says more and counts as full. Else prove '..UptoSaid'. A law counts once. -/
mutual
def uptoBulk {H : Type} : DataW H → Nat
  | .lit (.string bytes) => bytes.length + 1
  | .lit _ => 1
  | .nil => 1
  | .ptr d => uptoBulk d + 1
  | .slice elems spare => uptoBulkAll elems + uptoBulkAll spare + 1
  | .agg parts => uptoBulkAll parts + 1
  | .iface _ d => uptoBulk d + 1
  | .map entries => uptoBulkEntries entries + 1
  | .held _ => 1
def uptoBulkAll {H : Type} : List (DataW H) → Nat
  | [] => 0
  | d :: r => uptoBulk d + uptoBulkAll r
def uptoBulkEntries {H : Type} : List (Lit × DataW H) → Nat
  | [] => 0
  | x :: r => uptoBulkEntry x + uptoBulkEntries r
def uptoBulkEntry {H : Type} : Lit × DataW H → Nat
  | (.string bytes, d) => bytes.length + uptoBulk d + 1
  | (_, d) => uptoBulk d + 1
 end
def uptoSmall : (H : Type) → List (DataW H) → Bool := fun _ ds => decide (uptoBulkAll ds ≤ 1048576)
def OpenSpec.upto (s : _root_.Go.ChangeSpec) : _root_.Go.OpenSpec := { _root_.Go.OpenSpec.ofChange s with cond := some uptoSmall }

/-- 'gradinelaw28.MatmulDims', WHERE WHAT IT READS IS OF BULK AT MOST 1048576: true; the input reads as it did. -/
def matmulDimsUptoRow : OpenClaim := { program := "ytjgkdkbmppaaaaagreat", sum := "e360ff2e25ff2b7207b9a76faacb6e53a85c09537f42d11b6a129dabcd4fb24a", func := "gradine/gradinelaw28.MatmulDims", spec := "matmulDims", recurses := true, apart := false, narrowed := true }
def MatmulDimsUptoSaid : Prop := matmulDimsUptoRow.holds Tryz.pinned (OpenSpec.upto matmulDimsSpec)

/-- 'gradinelaw28.MatmulTurned', WHERE WHAT IT READS IS OF BULK AT MOST 1048576: true; the input reads as it did. -/
def matmulTurnedUptoRow : OpenClaim := { program := "ytjgkdkbmppaaaaagreat", sum := "e360ff2e25ff2b7207b9a76faacb6e53a85c09537f42d11b6a129dabcd4fb24a", func := "gradine/gradinelaw28.MatmulTurned", spec := "matmulTurned", recurses := true, apart := false, narrowed := true }
def MatmulTurnedUptoSaid : Prop := matmulTurnedUptoRow.holds Tryz.pinned (OpenSpec.upto matmulTurnedSpec)

/-- 'gradinelaw28.MatmulSums', WHERE WHAT IT READS IS OF BULK AT MOST 1048576: true; the input reads as it did. -/
def matmulSumsUptoRow : OpenClaim := { program := "ytjgkdkbmppaaaaagreat", sum := "e360ff2e25ff2b7207b9a76faacb6e53a85c09537f42d11b6a129dabcd4fb24a", func := "gradine/gradinelaw28.MatmulSums", spec := "matmulSums", recurses := true, apart := false, narrowed := true }
def MatmulSumsUptoSaid : Prop := matmulSumsUptoRow.holds Tryz.pinned (OpenSpec.upto matmulSumsSpec)

/-- 'gradinelaw37.WriteBack', WHERE WHAT IT READS IS OF BULK AT MOST 1048576: true; the input reads as it did. -/
def writeBackUptoRow : OpenClaim := { program := "ytjgkdkbmppaaaaagreat", sum := "e360ff2e25ff2b7207b9a76faacb6e53a85c09537f42d11b6a129dabcd4fb24a", func := "gradine/gradinelaw37.WriteBack", spec := "writeBack", recurses := true, apart := false, narrowed := true }
def WriteBackUptoSaid : Prop := writeBackUptoRow.holds Tryz.pinned (OpenSpec.upto writeBackSpec)

/-- 'gradinelaw27.ReduceDims', WHERE WHAT IT READS IS OF BULK AT MOST 1048576: true; the input reads as it did. -/
def reduceDimsUptoRow : OpenClaim := { program := "ytjgkdkbmppaaaaagreat", sum := "e360ff2e25ff2b7207b9a76faacb6e53a85c09537f42d11b6a129dabcd4fb24a", func := "gradine/gradinelaw27.ReduceDims", spec := "reduceDims", recurses := true, apart := false, narrowed := true }
def ReduceDimsUptoSaid : Prop := reduceDimsUptoRow.holds Tryz.pinned (OpenSpec.upto reduceDimsSpec)

/-- 'gradinelaw27.ReduceBest', WHERE WHAT IT READS IS OF BULK AT MOST 1048576: true; the input reads as it did. -/
def reduceBestUptoRow : OpenClaim := { program := "ytjgkdkbmppaaaaagreat", sum := "e360ff2e25ff2b7207b9a76faacb6e53a85c09537f42d11b6a129dabcd4fb24a", func := "gradine/gradinelaw27.ReduceBest", spec := "reduceBest", recurses := true, apart := false, narrowed := true }
def ReduceBestUptoSaid : Prop := reduceBestUptoRow.holds Tryz.pinned (OpenSpec.upto reduceBestSpec)

end Rows
end Go.Proofs.YtjgkdkbmppaaaaaGreat
