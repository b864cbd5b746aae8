/- TapeActs: whatever the arguments, the law returns true, and the arguments read as before. Conditions: none beyond the row's. -/
import Derived.Test.YtjfckpofcpaiiaaTapeB
import Derived.Test.YtjfckpofcpaiiaaRows
import Derived.WalkKit
import Derived.ProofKit
set_option linter.unusedVariables false
set_option linter.unusedSimpArgs false
namespace Go.Proofs.Ytjfckpofcpaiiaa.tapeActs
open Go Go.Fm Go.ChangeShapes Go.WideShapes Go.ChangeAt Go.RowKit Go.Proofs
set_option maxRecDepth 100000

theorem own : ownKnob Try.prog.godebug = none := by kernel_rfl
theorem laidOut : laidOutB Try.prog = true := by kernel_rfl
theorem lifted (os : Os) (started : os.Started) (H : Type) (enc : TypeId × Value → H) :
    ReturnsInHanded {} Try.checked os 4 .any (Rows.tapeActsSpec.pre6 enc Try.prog Try.f4 Rows.tapeActsRow.domain false) (Rows.tapeActsSpec.post enc Try.prog Try.f4 false true false false) := by
  refine law_row (C := Try.checked) (m := 4) (pt := [22, 3, 3]) (rt := 4) own started (by kernel_rfl) Try.func4
    (ChangeSpec.witness6 (enc := enc) (C := Try.checked) false ⟨#[], #[.slice none 0 0, .int .i64 0, .int .i64 0], []⟩ 8 (by kernel_rfl) (by kernel_rfl) (by kernel_rfl) (by kernel_rfl)) laidOut rfl (by kernel_rfl) (by kernel_rfl) rfl Try.underlying4 rfl ?_ ?_
  · intro ds hd
    match ds, hd with
    | [a0, a1, a2], _ => exact ⟨rfl, rfl, rfl⟩
  · intro xs hx
    obtain ⟨x0, r0, rfl, h0, hx⟩ := Datas.cons hx
    obtain ⟨x1, r1, rfl, h1, hx⟩ := Datas.cons hx
    obtain ⟨x2, r2, rfl, h2, hx⟩ := Datas.cons hx
    obtain rfl := Datas.nil hx
    obtain ⟨l, ⟨hl, _⟩, rfl⟩ := Dat.slice Try.underlying22 (fun x h => (Dat.slice Try.underlying28 (fun x h => Dat.int Try.underlying3 h) h).imp fun l h => ⟨h.1, h.2⟩) h0
    rw [show Try.prog.bytesOf 28 = 24 by kernel_rfl] at hl
    obtain ⟨n1, _, rfl⟩ := Dat.int Try.underlying3 h1
    obtain ⟨n2, _, rfl⟩ := Dat.int Try.underlying3 h2
    exact tapeActs_ok l n1 n2 (by unfold reachBytes at hl; omega)
theorem over : Rows.tapeActsRow.holds Try.pinned (OpenSpec.ofChange Rows.tapeActsSpec) :=
  OpenClaim.holds_of_wide 4 Try.f4 rfl rfl rfl rfl rfl rfl rfl ⟨rfl, rfl, rfl, rfl, rfl⟩ rfl rfl rfl rfl rfl (by kernel_rfl) Try.func4 (by kernel_rfl)
    (of_decide_eq_true (by kernel_rfl)) (by unfold Func.isWrapper; first | (rw [if_pos (by decide +kernel)]; kernel_rfl) | (rw [if_neg (by decide +kernel)]; exact ⟨rfl, rfl⟩))
    (fun os started H enc _ => lifted os started H enc)
theorem proved : Rows.TapeActsSaid := over
end Go.Proofs.Ytjfckpofcpaiiaa.tapeActs
namespace Go.Proofs.Ytjfckpofcpaiiaa
theorem tapeActs_holds : Rows.TapeActsSaid := tapeActs.proved
end Go.Proofs.Ytjfckpofcpaiiaa
