/- MatmulTurned: whatever the arguments, the law returns true, and the arguments read as before. Conditions: none beyond the row's. -/
import Derived.Test.YtjgkdkbmppaaaaaGreatLawB
import Derived.Test.YtjgkdkbmppaaaaaGreatLawC
import Derived.Test.YtjgkdkbmppaaaaaGreatRows
import Derived.WalkKit
import Derived.ProofKit
set_option linter.unusedVariables false
set_option linter.unusedSimpArgs false
namespace Go.Proofs.YtjgkdkbmppaaaaaGreat.matmulTurned
open Go Go.Fm Go.ChangeShapes Go.WideShapes Go.ChangeAt Go.RowKit Go.Proofs
set_option maxRecDepth 100000

theorem own : ownKnob Tryz.prog.godebug = none := by kernel_rfl
theorem laidOut : laidOutB Tryz.prog = true := by kernel_rfl
theorem lifted (os : Os) (started : os.Started) (H : Type) (enc : TypeId × Value → H) :
    ReturnsInHanded {} Tryz.checked os 4 .any (Rows.matmulTurnedSpec.pre6 enc Tryz.prog Tryz.f4 Rows.matmulTurnedRow.domain false) (Rows.matmulTurnedSpec.post enc Tryz.prog Tryz.f4 false true false false) := by
  refine law_row (C := Tryz.checked) (m := 6) (pt := [38, 38]) (rt := 4) own started (by kernel_rfl) Tryz.func4
    (ChangeSpec.witness6 (enc := enc) (C := Tryz.checked) false ⟨#[], #[.agg #[.slice none 0 0, .slice none 0 0], .agg #[.slice none 0 0, .slice none 0 0]], []⟩ 8 (by kernel_rfl) (by kernel_rfl) (by kernel_rfl) (by kernel_rfl)) laidOut rfl (by kernel_rfl) (by kernel_rfl) rfl Tryz.underlying4 rfl ?_ ?_
  · intro ds hd
    match ds, hd with
    | [a0, a1], _ => exact ⟨rfl, rfl, rfl⟩
  · intro xs hx
    obtain ⟨x0, r0, rfl, h0, hx⟩ := Datas.cons hx
    obtain ⟨x1, r1, rfl, h1, hx⟩ := Datas.cons hx
    obtain rfl := Datas.nil hx
    obtain ⟨x, hxx, rfl⟩ := dat_arg (n := 0) h0
    obtain ⟨y, hy, rfl⟩ := dat_arg (n := 0) h1
    exact matmulTurned_ok x y (fun s hs => (hxx s hs).1) (fun s hs => (hy s hs).1)
theorem over : Rows.matmulTurnedRow.holds Tryz.pinned (OpenSpec.ofChange Rows.matmulTurnedSpec) :=
  OpenClaim.holds_of_wide 4 Tryz.f4 rfl rfl rfl rfl rfl rfl rfl ⟨rfl, rfl, rfl, rfl, rfl⟩ rfl rfl rfl rfl rfl (by kernel_rfl) Tryz.func4 (by kernel_rfl)
    (of_decide_eq_true (by kernel_rfl)) (by unfold Func.isWrapper; first | (rw [if_pos (by decide +kernel)]; kernel_rfl) | (rw [if_neg (by decide +kernel)]; exact ⟨rfl, rfl⟩))
    (fun os started H enc _ => lifted os started H enc)
theorem proved : Rows.MatmulTurnedSaid := over
end Go.Proofs.YtjgkdkbmppaaaaaGreat.matmulTurned
namespace Go.Proofs.YtjgkdkbmppaaaaaGreat
theorem matmulTurned_holds : Rows.MatmulTurnedSaid := matmulTurned.proved
end Go.Proofs.YtjgkdkbmppaaaaaGreat
