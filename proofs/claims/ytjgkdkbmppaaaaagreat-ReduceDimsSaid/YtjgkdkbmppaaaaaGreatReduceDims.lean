/- ReduceDims: whatever the arguments, the law returns true, and the arguments read as before. Conditions: none beyond the row's. -/
import Derived.Test.YtjgkdkbmppaaaaaGreatRrB
import Derived.Test.YtjgkdkbmppaaaaaGreatRows
import Derived.WalkKit
import Derived.ProofKit
set_option linter.unusedVariables false
set_option linter.unusedSimpArgs false
namespace Go.Proofs.YtjgkdkbmppaaaaaGreat.reduceDims
open Go Go.Fm Go.ChangeShapes Go.WideShapes Go.ChangeAt Go.RowKit Go.Proofs
set_option maxRecDepth 100000

theorem own : ownKnob Tryz.prog.godebug = none := by kernel_rfl
theorem laidOut : laidOutB Tryz.prog = true := by kernel_rfl
theorem lifted (os : Os) (started : os.Started) (H : Type) (enc : TypeId × Value → H) :
    ReturnsInHanded {} Tryz.checked os 7 .any (Rows.reduceDimsSpec.pre6 enc Tryz.prog Tryz.f7 Rows.reduceDimsRow.domain false) (Rows.reduceDimsSpec.post enc Tryz.prog Tryz.f7 false true false false) := by
  refine law_row (C := Tryz.checked) (m := 3) (pt := [3, 50, 22]) (rt := 4) own started (by kernel_rfl) Tryz.func7
    (ChangeSpec.witness6 (enc := enc) (C := Tryz.checked) false ⟨#[], #[.int .i64 0, .agg #[.int .i64 0, .int .i64 0, .int .i64 0, .int .i64 0, .int .i64 0, .int .i64 0, .int .i64 0, .int .i64 0, .bool false, .slice none 0 0], .slice none 0 0], []⟩ 8 (by kernel_rfl) (by kernel_rfl) (by kernel_rfl) (by kernel_rfl)) laidOut rfl (by kernel_rfl) (by kernel_rfl) rfl Tryz.underlying4 rfl ?_ ?_
  · intro ds hd
    match ds, hd with
    | [a0, a1, a2], _ => exact ⟨rfl, rfl, rfl⟩
  · intro xs hx
    obtain ⟨x0, r0, rfl, h0, hx⟩ := Datas.cons hx
    obtain ⟨x1, r1, rfl, h1, hx⟩ := Datas.cons hx
    obtain ⟨x2, r2, rfl, h2, hx⟩ := Datas.cons hx
    obtain rfl := Datas.nil hx
    obtain ⟨op, _, rfl⟩ := dat_int (n := 2) h0
    obtain ⟨x, hxl, rfl⟩ := dat_attrX (n := 0) h1
    obtain ⟨d, ⟨hdl, _⟩, rfl⟩ := dat_ints (n := 1) h2
    exact reduceDims_ok op x d (by unfold reachBytes at hxl; omega) (by unfold reachBytes at hdl; omega)
theorem over : Rows.reduceDimsRow.holds Tryz.pinned (OpenSpec.ofChange Rows.reduceDimsSpec) :=
  OpenClaim.holds_of_wide 7 Tryz.f7 rfl rfl rfl rfl rfl rfl rfl ⟨rfl, rfl, rfl, rfl, rfl⟩ rfl rfl rfl rfl rfl (by kernel_rfl) Tryz.func7 (by kernel_rfl)
    (of_decide_eq_true (by kernel_rfl)) (by unfold Func.isWrapper; first | (rw [if_pos (by decide +kernel)]; kernel_rfl) | (rw [if_neg (by decide +kernel)]; exact ⟨rfl, rfl⟩))
    (fun os started H enc _ => lifted os started H enc)
theorem proved : Rows.ReduceDimsSaid := over
end Go.Proofs.YtjgkdkbmppaaaaaGreat.reduceDims
namespace Go.Proofs.YtjgkdkbmppaaaaaGreat
theorem reduceDims_holds : Rows.ReduceDimsSaid := reduceDims.proved
end Go.Proofs.YtjgkdkbmppaaaaaGreat
