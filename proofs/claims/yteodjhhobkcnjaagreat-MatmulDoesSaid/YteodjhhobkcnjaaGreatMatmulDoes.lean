/- MatmulDoes: whatever the arguments, the law returns true, and the arguments read as before. Conditions: none beyond the row's. -/
import Derived.Test.YteodjhhobkcnjaaGreatBkA
import Derived.Test.YteodjhhobkcnjaaGreatRows
import Derived.WalkKit
import Derived.ProofKit
set_option linter.unusedVariables false
set_option linter.unusedSimpArgs false
namespace Go.Proofs.YteodjhhobkcnjaaGreat.matmulDoes
open Go Go.Fm Go.ChangeShapes Go.WideShapes Go.ChangeAt Go.RowKit Go.Proofs
set_option maxRecDepth 100000

theorem own : ownKnob Tryz.prog.godebug = none := by kernel_rfl
theorem laidOut : laidOutB Tryz.prog = true := by kernel_rfl
theorem lifted (os : Os) (started : os.Started) (H : Type) (enc : TypeId × Value → H) :
    ReturnsInHanded {} Tryz.checked os 3 .any (Rows.matmulDoesSpec.pre6 enc Tryz.prog Tryz.f3 Rows.matmulDoesRow.domain false) (Rows.matmulDoesSpec.post enc Tryz.prog Tryz.f3 false true false false) := by
  refine law_row (C := Tryz.checked) (m := 6) (pt := [3, 25, 25]) (rt := 4) own started (by kernel_rfl) Tryz.func3
    (ChangeSpec.witness6 (enc := enc) (C := Tryz.checked) false ⟨#[], #[.int .i64 0, .agg #[.slice none 0 0, .slice none 0 0], .agg #[.slice none 0 0, .slice none 0 0]], []⟩ 8 (by kernel_rfl) (by kernel_rfl) (by kernel_rfl) (by kernel_rfl)) laidOut rfl (by kernel_rfl) (by kernel_rfl) rfl Tryz.underlying4 rfl ?_ ?_
  · intro ds hd
    match ds, hd with
    | [a0, a1, a2], _ => exact ⟨rfl, rfl, rfl⟩
  · intro xs hx
    obtain ⟨x0, r0, rfl, h0, hx⟩ := Datas.cons hx
    obtain ⟨x1, r1, rfl, h1, hx⟩ := Datas.cons hx
    obtain ⟨x2, r2, rfl, h2, hx⟩ := Datas.cons hx
    obtain rfl := Datas.nil hx
    obtain ⟨md, _, rfl⟩ := Dat.int Tryz.underlying3 h0
    obtain ⟨x, hxx, rfl⟩ := dat_arg (n := 0) h1
    obtain ⟨y, hy, rfl⟩ := dat_arg (n := 0) h2
    exact matmulDoes_ok md x y hxx hy
theorem over : Rows.matmulDoesRow.holds Tryz.pinned (OpenSpec.ofChange Rows.matmulDoesSpec) :=
  OpenClaim.holds_of_wide 3 Tryz.f3 rfl rfl rfl rfl rfl rfl rfl ⟨rfl, rfl, rfl, rfl, rfl⟩ rfl rfl rfl rfl rfl (by kernel_rfl) Tryz.func3 (by kernel_rfl)
    (of_decide_eq_true (by kernel_rfl)) (by unfold Func.isWrapper; first | (rw [if_pos (by decide +kernel)]; kernel_rfl) | (rw [if_neg (by decide +kernel)]; exact ⟨rfl, rfl⟩))
    (fun os started H enc _ => lifted os started H enc)
theorem proved : Rows.MatmulDoesSaid := over
end Go.Proofs.YteodjhhobkcnjaaGreat.matmulDoes
namespace Go.Proofs.YteodjhhobkcnjaaGreat
theorem matmulDoes_holds : Rows.MatmulDoesSaid := matmulDoes.proved
end Go.Proofs.YteodjhhobkcnjaaGreat
