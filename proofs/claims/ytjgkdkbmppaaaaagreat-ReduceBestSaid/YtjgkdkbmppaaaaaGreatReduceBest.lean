/- ReduceBest: whatever the arguments, the law returns true, and the arguments read as before. Conditions: none beyond the row's. -/
import Derived.Test.YtjgkdkbmppaaaaaGreatRsC
import Derived.Test.YtjgkdkbmppaaaaaGreatRows
import Derived.WalkKit
import Derived.ProofKit
set_option linter.unusedVariables false
set_option linter.unusedSimpArgs false
namespace Go.Proofs.YtjgkdkbmppaaaaaGreat.reduceBest
open Go Go.Fm Go.ChangeShapes Go.WideShapes Go.ChangeAt Go.RowKit Go.Proofs
set_option maxRecDepth 100000

theorem own : ownKnob Tryz.prog.godebug = none := by kernel_rfl
theorem laidOut : laidOutB Tryz.prog = true := by kernel_rfl
theorem lifted (os : Os) (started : os.Started) (H : Type) (enc : TypeId × Value → H) :
    ReturnsInHanded {} Tryz.checked os 8 .any (Rows.reduceBestSpec.pre6 enc Tryz.prog Tryz.f8 Rows.reduceBestRow.domain false) (Rows.reduceBestSpec.post enc Tryz.prog Tryz.f8 false true false false) := by
  refine law_row (C := Tryz.checked) (m := 6) (pt := [4, 50, 38]) (rt := 4) own started (by kernel_rfl) Tryz.func8
    (ChangeSpec.witness6 (enc := enc) (C := Tryz.checked) false ⟨#[], #[.bool false, .agg #[.int .i64 0, .int .i64 0, .int .i64 0, .int .i64 0, .int .i64 0, .int .i64 0, .int .i64 0, .int .i64 0, .bool false, .slice none 0 0], .agg #[.slice none 0 0, .slice none 0 0]], []⟩ 8 (by kernel_rfl) (by kernel_rfl) (by kernel_rfl) (by kernel_rfl)) laidOut rfl (by kernel_rfl) (by kernel_rfl) rfl Tryz.underlying4 rfl ?_ ?_
  · intro ds hd
    match ds, hd with
    | [a0, a1, a2], _ => exact ⟨rfl, rfl, rfl⟩
  · intro xs hx
    obtain ⟨x0, r0, rfl, h0, hx⟩ := Datas.cons hx
    obtain ⟨x1, r1, rfl, h1, hx⟩ := Datas.cons hx
    obtain ⟨x2, r2, rfl, h2, hx⟩ := Datas.cons hx
    obtain rfl := Datas.nil hx
    obtain ⟨ls, rfl⟩ := Dat.bool Tryz.underlying4 h0
    obtain ⟨x, hxl, rfl⟩ := dat_attrX (n := 3) h1
    obtain ⟨a, ha, rfl⟩ := dat_arg (n := 0) h2
    exact reduceBest_ok ls x a (by unfold reachBytes at hxl; omega) (fun s hs => (ha s hs).1)
theorem over : Rows.reduceBestRow.holds Tryz.pinned (OpenSpec.ofChange Rows.reduceBestSpec) :=
  OpenClaim.holds_of_wide 8 Tryz.f8 rfl rfl rfl rfl rfl rfl rfl ⟨rfl, rfl, rfl, rfl, rfl⟩ rfl rfl rfl rfl rfl (by kernel_rfl) Tryz.func8 (by kernel_rfl)
    (of_decide_eq_true (by kernel_rfl)) (by unfold Func.isWrapper; first | (rw [if_pos (by decide +kernel)]; kernel_rfl) | (rw [if_neg (by decide +kernel)]; exact ⟨rfl, rfl⟩))
    (fun os started H enc _ => lifted os started H enc)
theorem proved : Rows.ReduceBestSaid := over
end Go.Proofs.YtjgkdkbmppaaaaaGreat.reduceBest
namespace Go.Proofs.YtjgkdkbmppaaaaaGreat
theorem reduceBest_holds : Rows.ReduceBestSaid := reduceBest.proved
end Go.Proofs.YtjgkdkbmppaaaaaGreat
