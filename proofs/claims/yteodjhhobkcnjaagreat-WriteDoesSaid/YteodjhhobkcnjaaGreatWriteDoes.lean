/- WriteDoes: whatever the arguments, the law returns true, and the arguments read as before. Conditions: none beyond the row's. -/
import Derived.Test.YteodjhhobkcnjaaGreatWrB
import Derived.Test.YteodjhhobkcnjaaGreatRows
import Derived.WalkKit
import Derived.ProofKit
set_option linter.unusedVariables false
set_option linter.unusedSimpArgs false
namespace Go.Proofs.YteodjhhobkcnjaaGreat.writeDoes
open Go Go.Fm Go.ChangeShapes Go.WideShapes Go.ChangeAt Go.RowKit Go.Proofs
set_option maxRecDepth 100000

theorem own : ownKnob Tryz.prog.godebug = none := by kernel_rfl
theorem laidOut : laidOutB Tryz.prog = true := by kernel_rfl
theorem lifted (os : Os) (started : os.Started) (H : Type) (enc : TypeId × Value → H) :
    ReturnsInHanded {} Tryz.checked os 4 .any (Rows.writeDoesSpec.pre6 enc Tryz.prog Tryz.f4 Rows.writeDoesRow.domain false) (Rows.writeDoesSpec.post enc Tryz.prog Tryz.f4 false true false false) := by
  refine law_row (C := Tryz.checked) (m := 7) (pt := [3, 46]) (rt := 4) own started (by kernel_rfl) Tryz.func4
    (ChangeSpec.witness6 (enc := enc) (C := Tryz.checked) false ⟨#[], #[.int .i64 0, .agg #[.int .i64 0, .int .i64 0, .int .i64 0, .int .i64 0, .int .i64 0, .int .i64 0, .int .i64 0, .int .i64 0, .int .i64 0, .bool false, .slice none 0 0, .slice none 0 0, .slice none 0 0, .slice none 0 0, .slice none 0 0]], []⟩ 8 (by kernel_rfl) (by kernel_rfl) (by kernel_rfl) (by kernel_rfl)) laidOut rfl (by kernel_rfl) (by kernel_rfl) rfl Tryz.underlying4 rfl ?_ ?_
  · intro ds hd
    match ds, hd with
    | [a0, a1], _ => exact ⟨rfl, rfl, rfl⟩
  · intro xs hx
    obtain ⟨x0, r0, rfl, h0, hx⟩ := Datas.cons hx
    obtain ⟨x1, r1, rfl, h1, hx⟩ := Datas.cons hx
    obtain rfl := Datas.nil hx
    obtain ⟨md, _, rfl⟩ := Dat.int Tryz.underlying3 h0
    obtain ⟨op, a, t, f, ⟨ht, hf⟩, rfl⟩ := dat_write (n := 0) h1
    exact writeDoes_ok md op a t f ht hf
theorem known1 : (Rows.writeDoesRow.inPlace == Tryz.prog.inPlace 4) = true := by kernel_rfl
theorem known2 : (Rows.writeDoesRow.unfollowed == Tryz.prog.unfollowed 4) = true := by kernel_rfl
theorem known3 : (Rows.writeDoesRow.recurses == Tryz.prog.recurses 4) = true := by kernel_rfl
theorem known4 : (Rows.writeDoesRow.named == Tryz.prog.varsNamed 4) = true := by kernel_rfl
theorem closed : joinedFacts Tryz.prog 4 Tryz.f4 Rows.writeDoesSpec Rows.writeDoesRow = true := by
  unfold joinedFacts
  rw [laidOut, known1, known2, known3, known4]
  kernel_rfl
theorem over : Rows.writeDoesRow.holds Tryz.pinned (OpenSpec.ofChange Rows.writeDoesSpec) :=
  OpenClaim.holds_of_wide 4 Tryz.f4 rfl rfl rfl rfl rfl rfl rfl ⟨rfl, rfl, rfl, rfl, rfl⟩ rfl rfl rfl rfl rfl (by kernel_rfl) Tryz.func4 closed
    (of_decide_eq_true (by kernel_rfl)) (by unfold Func.isWrapper; first | (rw [if_pos (by decide +kernel)]; kernel_rfl) | (rw [if_neg (by decide +kernel)]; exact ⟨rfl, rfl⟩))
    (fun os started H enc _ => lifted os started H enc)
theorem proved : Rows.WriteDoesSaid := over
end Go.Proofs.YteodjhhobkcnjaaGreat.writeDoes
namespace Go.Proofs.YteodjhhobkcnjaaGreat
theorem writeDoes_holds : Rows.WriteDoesSaid := writeDoes.proved
end Go.Proofs.YteodjhhobkcnjaaGreat
