/- The tape: TapeNil. -/
import Derived.Test.YtjfckpofcpaiiaaTapeA
import Derived.Test.YtjfckpofcpaiiaaFmB
import Derived.Test.YtjfckpofcpaiiaaRows
import Derived.WalkKit
import Derived.ProofKit
set_option linter.unusedVariables false
set_option linter.unusedSimpArgs false
namespace Go.Fm
open Go.Proofs
set_option maxRecDepth 100000

theorem noPtr_ints (k : IntKind) (l : List Int) : noPtr (.slice (l.map (.int k))) = true := by
  simp only [noPtr]
  rw [noPtrL_iff]
  intro t ht
  obtain ⟨x, _, rfl⟩ := List.mem_map.1 ht
  rfl

theorem tapeNil_ok (ins : List Int) (n : Int) : Pure Try.prog 5 [sI ins, .int .i64 n] [.t (.bool true)] := by
  refine Pure.intro Try.func5 rfl (rt := [4]) rfl (by simp [Try.ntmps5]) (by decide) (sites := fun _ => false) ?_
  apply run_sound 200
  simp -implicitDefEqProofs +decide only [go_sem, sI]
  refine CallG.pure _ Try.call16 (add_nil ins) (by rw [List.all_cons, List.all_cons, noPtr_ints]; rfl) rfl ?_
  apply run_sound 200
  simp -implicitDefEqProofs +decide only [go_sem, sI]
  refine CallG.pure _ Try.call12 len_nil rfl rfl ?_
  apply run_sound 200
  simp -implicitDefEqProofs +decide only [go_sem, sI]
  refine CallG.pureS _ Try.call14 (ins_nil n) rfl rfl ?_
  apply run_sound 200
  simp -implicitDefEqProofs +decide only [go_sem, sI]
  refine CallG.pureS _ Try.call9 (reach_nil n) rfl rfl ?_
  apply run_sound 200
  simp -implicitDefEqProofs +decide only [go_sem, sI]
  refine CallG.pure _ Try.call11 (hangs_nil n n) rfl rfl ?_
  apply run_sound 200
  simp -implicitDefEqProofs +decide only [go_sem, sI]
  refine CallG.pure _ Try.call7 same_ok rfl rfl ?_
  apply run_sound 200
  simp -implicitDefEqProofs +decide only [go_sem, sI]
  exact endF.one (.inr rfl) (by simp -implicitDefEqProofs +decide only [go_sem]) rfl (fun _ _ => rfl) rfl
end Go.Fm
/- TapeNil: whatever the arguments, the law returns true, and the arguments read as before. Conditions: none beyond the row's. -/
namespace Go.Proofs.Ytjfckpofcpaiiaa.tapeNil
open Go Go.Fm Go.ChangeShapes Go.WideShapes Go.ChangeAt Go.RowKit Go.Proofs
set_option linter.unusedVariables false
set_option maxRecDepth 100000

theorem own : ownKnob Try.prog.godebug = none := by kernel_rfl
theorem laidOut : laidOutB Try.prog = true := by kernel_rfl
theorem lifted (os : Os) (started : os.Started) (H : Type) (enc : TypeId × Value → H) :
    ReturnsInHanded {} Try.checked os 5 .any (Rows.tapeNilSpec.pre6 enc Try.prog Try.f5 Rows.tapeNilRow.domain false) (Rows.tapeNilSpec.post enc Try.prog Try.f5 false true false false) := by
  refine law_row (C := Try.checked) (m := 3) (pt := [28, 3]) (rt := 4) own started (by kernel_rfl) Try.func5
    (ChangeSpec.witness6 (enc := enc) (C := Try.checked) false ⟨#[], #[.slice none 0 0, .int .i64 0], []⟩ 8 (by kernel_rfl) (by kernel_rfl) (by kernel_rfl) (by kernel_rfl)) laidOut rfl (by kernel_rfl) (by kernel_rfl) rfl Try.underlying4 rfl ?_ ?_
  · intro ds hd
    match ds, hd with
    | [a, b], _ => exact ⟨rfl, rfl, rfl⟩
  · intro xs hx
    obtain ⟨x, r, rfl, h1, hx⟩ := Datas.cons hx
    obtain ⟨y, r, rfl, h2, hx⟩ := Datas.cons hx
    obtain rfl := Datas.nil hx
    obtain ⟨l, ⟨hl, hq⟩, rfl⟩ := Dat.slice Try.underlying28 (fun x h => Dat.int Try.underlying3 h) h1
    obtain ⟨n, hn, rfl⟩ := Dat.int Try.underlying3 h2
    exact tapeNil_ok l n
theorem over : Rows.tapeNilRow.holds Try.pinned (OpenSpec.ofChange Rows.tapeNilSpec) :=
  OpenClaim.holds_of_wide 5 Try.f5 rfl rfl rfl rfl rfl rfl rfl ⟨rfl, rfl, rfl, rfl, rfl⟩ rfl rfl rfl rfl rfl (by kernel_rfl) Try.func5 (by kernel_rfl)
    (of_decide_eq_true (by kernel_rfl)) (by unfold Func.isWrapper; first | (rw [if_pos (by decide +kernel)]; kernel_rfl) | (rw [if_neg (by decide +kernel)]; exact ⟨rfl, rfl⟩))
    (fun os started H enc _ => lifted os started H enc)
theorem proved : Rows.TapeNilSaid := over
end Go.Proofs.Ytjfckpofcpaiiaa.tapeNil
namespace Go.Proofs.Ytjfckpofcpaiiaa
theorem tapeNil_holds : Rows.TapeNilSaid := tapeNil.proved
end Go.Proofs.Ytjfckpofcpaiiaa
