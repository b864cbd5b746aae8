/- LineAgain: whatever the arguments, the law returns true, and the arguments read as before. Conditions: none beyond the card's. -/
import Derived.Test.YtlhdkpmmankooaaDoorLineB
import Derived.Test.YtlhdkpmmankooaaDoorTie
import Derived.Test.YtlhdkpmmankooaaDoorCards
import Derived.WalkKit
import Derived.ProofKit
import Derived.SevenTiedAt
set_option linter.unusedVariables false
set_option linter.unusedSimpArgs false
namespace Go.Proofs.YtlhdkpmmankooaaDoor.lineAgain
open Go Go.Fm Go.ChangeShapes Go.WideShapes Go.ChangeAt Go.RowKit Go.Proofs
set_option maxRecDepth 100000

theorem own : ownKnob Tryd.prog.godebug = none := by kernel_rfl
theorem laidOut : laidOutB Tryd.prog = true := by kernel_rfl
theorem door_met (os : Os) (args : Array Value) : laidMetH Tryd.prog Rows.lineAgainRow.laid ((World.doorLaid Tryd.prog 400 os).forCall (fun _ _ => 0) ⟨#[], args, []⟩).memory :=
  laidMetH_of_parts3 (fuel := 8) (laidMet_of_run' 8 (by kernel_rfl) (by kernel_rfl)) (by kernel_rfl) (by kernel_rfl)
theorem lifted (os : Os) (started : os.Started) (H : Type) (enc : TypeId × Value → H) :
    ReturnsInHanded {} Tryd.checked os 5 .any (fun w args => (Rows.lineAgainSpec.pre enc Tryd.prog Tryd.f5 [] false w args ∧ laidMetH Tryd.prog Rows.lineAgainRow.laid w) ∧ sizedMet enc Tryd.prog Tryd.f5 (OpenSpec.ofChange Rows.lineAgainSpec) false w args) (Rows.lineAgainSpec.post enc Tryd.prog Tryd.f5 false true false false) := by
  refine law_rowL (C := Tryd.checked) (m := 6) (pt := [32, 23]) (rt := 4) (X := fun w _ => laidMetH Tryd.prog Rows.lineAgainRow.laid w) (fun _ _ _ hh h => h.of_heap hh) own started (by kernel_rfl) Tryd.func5
    (ChangeSpec.witness_shaped (enc := enc) (C := Tryd.checked) (os := os) (X := fun w _ => laidMetH Tryd.prog Rows.lineAgainRow.laid w) false (World.doorLaid Tryd.prog 400 os) #[.slice none 0 0, .slice none 0 0] 8 rfl (World.shaped_of_RefB (by kernel_rfl) (by kernel_rfl)) (by kernel_rfl) (by kernel_rfl) (by kernel_rfl) (door_met os _)) laidOut rfl (by kernel_rfl) (by kernel_rfl) rfl Tryd.underlying4 rfl ?_ ?_
  · intro ds hd
    match ds, hd with
    | [a0, a1], _ => exact ⟨rfl, rfl, rfl⟩
  · intro xs hx
    obtain ⟨x0, r0, rfl, h0, hx⟩ := Datas.cons hx
    obtain ⟨x1, r1, rfl, h1, hx⟩ := Datas.cons hx
    obtain rfl := Datas.nil hx
    obtain ⟨l, ⟨hl, hw⟩, rfl⟩ := Dat.slice Tryd.underlying32 (fun x h => dat_in h) h0
    rw [show Tryd.prog.bytesOf 47 = 80 by kernel_rfl] at hl
    obtain ⟨outs, ⟨ho, _⟩, rfl⟩ := Dat.slice (f := I) (Q := fun _ => True) Tryd.underlying23 (fun x h => let ⟨z, _, hz⟩ := Dat.int Tryd.underlying3 h; ⟨z, trivial, hz⟩) h1
    exact lineAgain_fn l outs hw (by unfold reachBytes at hl; omega)
theorem over : Rows.lineAgainRow.holds Tryd.pinned (OpenSpec.ofChange Rows.lineAgainSpec) :=
  OpenClaim.holds_of_wide 5 Tryd.f5 rfl rfl rfl rfl rfl rfl rfl ⟨rfl, rfl, rfl, rfl, rfl⟩ rfl rfl rfl rfl rfl (by kernel_rfl) Tryd.func5 (by kernel_rfl)
    (of_decide_eq_true (by kernel_rfl)) (by unfold Func.isWrapper; first | (rw [if_pos (by decide +kernel)]; kernel_rfl) | (rw [if_neg (by decide +kernel)]; exact ⟨rfl, rfl⟩))
    (fun os started H enc _ => lifted os started H enc)
theorem proved : Rows.LineAgainSaid := over
theorem card : Rows.LineAgainCardSaid :=
  Claim7.holds_tied_plain_at .later [] [.data, .data, .data] true (true, "54e2a0ced656c42724d36b54bbb60075b63382eabbab292f969dbeea874309a2") false
    proved (fun _ h => by cases h) (by kernel_rfl) (fun _ h => by cases h) lineAgain_row_tie rfl ⟨rfl, rfl⟩ (by kernel_rfl) rfl
    (fun f fn hf hfn => by
      obtain rfl : f = 5 := Option.some.inj ((show Tryd.prog.funcNamed "gradine/gradinelaw15.LineAgain" = some 5 by kernel_rfl).symm.trans hf) |>.symm
      obtain rfl : fn = Tryd.f5 := (Option.some.inj (Tryd.func5.symm.trans hfn)).symm
      exact ⟨by kernel_rfl, fun j t ht => by
        rw [show Tryd.f5.params = #[32, 23] from rfl] at ht
        have hm : t ∈ [32, 23] := by simpa using Array.mem_of_getElem? ht
        have hall : ([32, 23].all fun u => !Tryd.prog.wantsStandIn u) = true := by kernel_rfl
        exact (show Tryd.prog.wantsStandIn t = false by simpa using List.all_eq_true.1 hall t hm)⟩)
    (by kernel_rfl)
end Go.Proofs.YtlhdkpmmankooaaDoor.lineAgain
namespace Go.Proofs.YtlhdkpmmankooaaDoor
theorem lineAgain_card : Rows.LineAgainCardSaid := lineAgain.card
end Go.Proofs.YtlhdkpmmankooaaDoor
