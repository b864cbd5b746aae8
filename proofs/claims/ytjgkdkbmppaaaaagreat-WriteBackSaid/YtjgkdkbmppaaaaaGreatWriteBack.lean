/- WriteBack: whatever the arguments, the law returns true, and the arguments read as before. Conditions: none beyond the row's. -/
import Derived.Test.YtjgkdkbmppaaaaaGreatWrtB
import Derived.Test.YtjgkdkbmppaaaaaGreatRows
import Derived.WalkKit
import Derived.ProofKit
set_option linter.unusedVariables false
set_option linter.unusedSimpArgs false
namespace Go.Proofs.YtjgkdkbmppaaaaaGreat.writeBack
open Go Go.Fm Go.ChangeShapes Go.WideShapes Go.ChangeAt Go.RowKit Go.Proofs
set_option maxRecDepth 100000

theorem own : ownKnob Tryz.prog.godebug = none := by kernel_rfl
theorem laidOut : laidOutB Tryz.prog = true := by kernel_rfl
theorem lifted (os : Os) (started : os.Started) (H : Type) (enc : TypeId × Value → H) :
    ReturnsInHanded {} Tryz.checked os 6 .any (Rows.writeBackSpec.pre6 enc Tryz.prog Tryz.f6 Rows.writeBackRow.domain false) (Rows.writeBackSpec.post enc Tryz.prog Tryz.f6 false true false false) := by
  refine law_row (C := Tryz.checked) (m := 7) (pt := [52]) (rt := 4) own started (by kernel_rfl) Tryz.func6
    (ChangeSpec.witness6 (enc := enc) (C := Tryz.checked) false ⟨#[], #[.agg #[.int .i64 0, .int .i64 0, .int .i64 0, .int .i64 0, .int .i64 0, .int .i64 0, .int .i64 0, .int .i64 0, .int .i64 0, .bool false, .slice none 0 0, .slice none 0 0, .slice none 0 0, .slice none 0 0, .slice none 0 0]], []⟩ 8 (by kernel_rfl) (by kernel_rfl) (by kernel_rfl) (by kernel_rfl)) laidOut rfl (by kernel_rfl) (by kernel_rfl) rfl Tryz.underlying4 rfl ?_ ?_
  · intro ds hd
    match ds, hd with
    | [a0], _ => exact ⟨rfl, rfl, rfl⟩
  · intro xs hx
    obtain ⟨x0, r0, rfl, h0, hx⟩ := Datas.cons hx
    obtain rfl := Datas.nil hx
    obtain ⟨op, a, t, f, ⟨ht, hf⟩, rfl⟩ := dat_write (n := 0) h0
    exact writeBack_ok op a t f (fun s hs => (ht s hs).1) (fun s hs => (hf s hs).1)
theorem over : Rows.writeBackRow.holds Tryz.pinned (OpenSpec.ofChange Rows.writeBackSpec) :=
  OpenClaim.holds_of_wide 6 Tryz.f6 rfl rfl rfl rfl rfl rfl rfl ⟨rfl, rfl, rfl, rfl, rfl⟩ rfl rfl rfl rfl rfl (by kernel_rfl) Tryz.func6 (by kernel_rfl)
    (of_decide_eq_true (by kernel_rfl)) (by unfold Func.isWrapper; first | (rw [if_pos (by decide +kernel)]; kernel_rfl) | (rw [if_neg (by decide +kernel)]; exact ⟨rfl, rfl⟩))
    (fun os started H enc _ => lifted os started H enc)
theorem proved : Rows.WriteBackSaid := over
end Go.Proofs.YtjgkdkbmppaaaaaGreat.writeBack
namespace Go.Proofs.YtjgkdkbmppaaaaaGreat
theorem writeBack_holds : Rows.WriteBackSaid := writeBack.proved
end Go.Proofs.YtjgkdkbmppaaaaaGreat
