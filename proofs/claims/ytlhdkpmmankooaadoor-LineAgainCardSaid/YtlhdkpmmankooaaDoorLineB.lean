/- Lines: the needs of outputs, by the reference. -/
import Derived.Test.YtlhdkpmmankooaaDoorLineA
import Derived.Test.YtlhdkpmmankooaaDoorNumA
import Derived.Test.YtlhdkpmmankooaaDoorFmB
import Derived.LaidMore
import Derived.Stop.Joined
set_option linter.unusedVariables false
set_option linter.unusedSimpArgs false
namespace Go.Fm
open Go.Proofs
set_option maxRecDepth 100000

def needsOut (l : List In) (outs : List Int) : List Bool := outs.foldl (fun (nd : List Bool) (o : Int) => if 0 ≤ o ∧ o < l.length then needsR l l.length nd o.toNat else nd) (List.replicate l.length false)
theorem needsOut_length (l : List In) (outs : List Int) : (needsOut l outs).length = l.length := by
  unfold needsOut
  suffices h : ∀ nd : List Bool, (outs.foldl (fun (nd : List Bool) (o : Int) => if 0 ≤ o ∧ o < l.length then needsR l l.length nd o.toNat else nd) nd).length = nd.length by rw [h]; simp
  induction outs with
  | nil => intro nd; rfl
  | cons o r ih => intro nd; rw [List.foldl_cons, ih]; split <;> simp [needsR_length]
theorem needsOut_step {l : List In} {outs : List Int} {i : Nat} {o : Int} (h : outs[i]? = some o) : needsOut l (outs.take (i + 1)) = if 0 ≤ o ∧ o < l.length then needsR l l.length (needsOut l (outs.take i)) o.toNat else needsOut l (outs.take i) := by
  unfold needsOut
  rw [take_snoc h, List.foldl_append]; rfl
theorem replB (n : Nat) : List.replicate n (T.bool false) = (List.replicate n false).map T.bool := by simp

theorem rNeeds_ok (l : List In) (outs : List Int) (hg : GoodL l) (hn : l.length < 1000000000) (ho : outs.length < 1000000000) : Pure Tryd.prog 18 [sL l, sI outs] [.t (sB (needsOut l outs))] := by
  refine Pure.drop (h' := upd (fun _ => none) (.arg 0) (some (.arr 1 ((needsOut l outs).map T.bool) 0 l.length))) (m' := 0) ?_ (by rw [List.all_cons, noPtrRC, noPtr_sB]; rfl)
  refine Ret.intro Tryd.func18 rfl (rt := [4]) rfl (by simp [Tryd.ntmps18]) (by decide) (sites := fun _ => false) (upd_pool (fun _ _ => rfl)) (Keeps.none _) ?_
  have hbig : l.length < big := by unfold big; omega
  apply run_sound 200
  simp -implicitDefEqProofs +decide only [go_sem, sL, sI, hbig, replB]
  refine Goes.wk (Wk.lend (t := 5) (d := 9) (k := 0) (i := 0) (by simp -implicitDefEqProofs +decide only [go_sem] <;> rfl) (by simp -implicitDefEqProofs +decide only [go_sem] <;> rfl) (by simp -implicitDefEqProofs +decide only [go_sem])) ?_
  refine Goes.loop (X := Nat) (fun i => ⟨ofL [(0, tL l), (1, tI outs), (5, .sl (.arg 0) 0 0 l.length), (11, .t (.int .i64 outs.length)), (12, .t (.int .i64 i))], upd (fun _ => none) (.arg 0) (some (.arr 1 ((needsOut l (outs.take i)).map T.bool) 0 0)), 0⟩) (fun i => i ≤ outs.length) (fun i => outs.length - i) 0 ?_ (by simp) ?_
  · refine Wk.mixed _ (upd_pool fun _ _ => rfl) rfl (fun l hp => by cases l <;> first | rfl | cases hp) ?_ ?_
    · simp -implicitDefEqProofs +decide only [go_sem, tL, sL, tI, sI] <;> rfl
    · simp -implicitDefEqProofs +decide only [go_sem, tL, sL, tI, sI]
  rintro i hi J hJ
  apply run_sound 200
  simp -implicitDefEqProofs +decide only [go_sem, tI, sI]
  refine selP_dec (fun hc => ?_) (fun hc => ?_)
  · obtain ⟨o, hio⟩ := getI (show i < outs.length by omega)
    have hw := wS (show i < 1000000000000 by omega)
    have hst := needsOut_step (l := l) hio
    have hln := needsOut_length l (outs.take i)
    generalize hm : needsOut l (outs.take i) = nd at hst hln
    simp -implicitDefEqProofs +decide only [go_sem, tI, sI, tL, sL, I, hio]
    refine selP_dec (fun h1 => ?_) (fun h1 => ?_)
    · simp -implicitDefEqProofs +decide only [go_sem, h1, hio, I]
      refine selP_dec (fun h2 => ?_) (fun h2 => ?_)
      · rw [if_pos ⟨h1, h2⟩] at hst
        obtain ⟨k, hk⟩ : ∃ k : Nat, o = k := ⟨o.toNat, by omega⟩
        subst hk
        have hpos : 0 < l.length := by omega
        rw [Int.toNat_natCast] at hst
        have c := needs_ok15 l hg hn l.length (upd (fun _ => none) (.arg 0) (some (.arr 1 (nd.map T.bool) 0 0))) 0 0 nd k (upd_pool fun _ _ => rfl) (upd_same _ _ _) hln (by omega) (by omega)
        rw [upd_upd, ← hst, hln] at c
        simp -implicitDefEqProofs +decide only [go_sem, hio, hm, I]
        refine CallG.lend (h := upd (fun _ => none) (.arg 0) (some (.arr 1 (nd.map T.bool) 0 0))) [.t (sL l), .sl (.arg 0) 0 0 l.length, .t (.int .i64 k)] [] _ Tryd.call44 rfl c (upd_pool fun _ _ => rfl) (fun l hp => by cases l <;> first | rfl | cases hp) ?_
        refine Goes.wk (Wk.mixed (base := upd (fun _ => none) (.arg 0) (some (.arr 1 ((needsOut l (outs.take (i + 1))).map T.bool) 0 0))) (m := 0) [(0, tL l), (1, tI outs), (5, .sl (.arg 0) 0 0 l.length), (11, .t (.int .i64 outs.length)), (12, .t (.int .i64 i))] (upd_pool fun _ _ => rfl) rfl (fun l hp => by cases l <;> first | rfl | cases hp) ?_ ?_) ?_
        · simp -implicitDefEqProofs +decide only [go_sem, killP_arg hpos, tL, sL, tI, sI]
        · simp -implicitDefEqProofs +decide only [go_sem, tL, sL, tI, sI]
        apply run_sound 200
        simp -implicitDefEqProofs +decide only [go_sem, hw]
        refine hJ (i + 1) _ (by omega) (by omega) (Wk.mixed _ (upd_pool fun _ _ => rfl) rfl (fun l hp => by cases l <;> first | rfl | cases hp) ?_ ?_)
        · simp -implicitDefEqProofs +decide only [go_sem, tL, sL, tI, sI, hw]
        · simp -implicitDefEqProofs +decide only [go_sem, tL, sL, tI, sI, hw]
      · rw [if_neg (by omega)] at hst
        simp -implicitDefEqProofs +decide only [go_sem, h1, h2, hw]
        refine hJ (i + 1) _ (by omega) (by omega) (Wk.mixed _ (upd_pool fun _ _ => rfl) rfl ?_ ?_ ?_)
        · rw [hst]; exact fun l hp => by cases l <;> first | rfl | cases hp
        · simp -implicitDefEqProofs +decide only [go_sem, tL, sL, tI, sI, hw]
        · simp -implicitDefEqProofs +decide only [go_sem, tL, sL, tI, sI, hw]
    · rw [if_neg (by omega)] at hst
      simp -implicitDefEqProofs +decide only [go_sem, h1, hw]
      refine hJ (i + 1) _ (by omega) (by omega) (Wk.mixed _ (upd_pool fun _ _ => rfl) rfl ?_ ?_ ?_)
      · rw [hst]; exact fun l hp => by cases l <;> first | rfl | cases hp
      · simp -implicitDefEqProofs +decide only [go_sem, tL, sL, tI, sI, hw]
      · simp -implicitDefEqProofs +decide only [go_sem, tL, sL, tI, sI, hw]
  · have e : outs.take i = outs := List.take_of_length_le (by omega)
    rw [e]
    simp -implicitDefEqProofs +decide only [go_sem]
    have hlo := needsOut_length l outs
    refine endF.row1 (lab := .arg 0) (v := 0) (len := l.length) (size := 1) (frz := 0) (es := (needsOut l outs).map T.bool) (.inr rfl) rfl rfl (by simp [hlo]) ?_ rfl
    intro q hp
    rw [List.length_map, hlo]
    exact (congrFun (upd_upd _ _ _ _) q).symm
end Go.Fm
/- Lines: the needs of outputs. -/
namespace Go.Fm
open Go.Proofs
set_option maxRecDepth 100000

def GoodB (l : List In) : Prop := ∀ (i : Nat) (x : In), l[i]? = some x → 0 < arM x.op → 0 ≤ x.a ∧ x.a < i ∧ 0 ≤ x.b ∧ x.b < i
theorem GoodB.good {l : List In} (h : GoodB l) : GoodL l := fun i x hx => ⟨fun hr => let ⟨h1, h2, _, _⟩ := h i x hx hr; ⟨h1, h2⟩, fun hr => let ⟨_, _, h1, h2⟩ := h i x hx (by omega); ⟨h1, h2⟩⟩
theorem fitsAll_get {l : List In} : ∀ {k i : Nat} {x : In}, fitsAll k l = true → l[i]? = some x → fitsM x (k + i) = true := by
  induction l with
  | nil => intro k i x _ h; cases h
  | cons y r ih =>
    intro k i x h hx
    rw [fitsAll, Bool.and_eq_true] at h
    cases i with
    | zero => cases hx; exact h.1
    | succ i =>
      have := ih h.2 (i := i) (x := x) hx
      rwa [show k + 1 + i = k + (i + 1) by omega] at this
theorem right_good {l : List In} (h : rightL l = true) : GoodB l := fun i x hx hr => by
  unfold rightL at h
  rw [Bool.and_eq_true] at h
  have hf := fitsAll_get h.2 hx
  rw [Nat.zero_add] at hf
  have hq : fitsQ x.op x.a x.b i _ _ := of_decide_eq_true hf
  unfold fitsQ at hq
  rcases arM_cases x.op with ⟨h1, h2⟩ | ⟨h1, h2⟩ | ⟨h1, h2⟩ | ⟨h1, h2⟩ <;> omega

def markOuts (l : List In) (outs : List Int) : List Bool := outs.foldl (fun (nd : List Bool) (o : Int) => if 0 ≤ o ∧ o < l.length then nd.set o.toNat true else nd) (List.replicate l.length false)
theorem markOuts_length (l : List In) (outs : List Int) : (markOuts l outs).length = l.length := by
  unfold markOuts
  suffices h : ∀ nd : List Bool, (outs.foldl (fun (nd : List Bool) (o : Int) => if 0 ≤ o ∧ o < l.length then nd.set o.toNat true else nd) nd).length = nd.length by rw [h]; simp
  induction outs with
  | nil => intro nd; rfl
  | cons o r ih => intro nd; rw [List.foldl_cons, ih]; split <;> simp
theorem markOuts_step {l : List In} {outs : List Int} {i : Nat} {o : Int} (h : outs[i]? = some o) : markOuts l (outs.take (i + 1)) = if 0 ≤ o ∧ o < l.length then (markOuts l (outs.take i)).set o.toNat true else markOuts l (outs.take i) := by
  unfold markOuts
  rw [take_snoc h, List.foldl_append]; rfl

def stepL (l : List In) (i : Nat) (nd : List Bool) : List Bool :=
  let x := l.getD i ⟨0, 0, 0, ⟨false, [], []⟩⟩
  if nd.getD i false = true ∧ 0 < arM x.op then (nd.set x.a.toNat true).set x.b.toNat ((nd.set x.a.toNat true).getD x.b.toNat false || decide (arM x.op = 2)) else nd
def backL (l : List In) : Nat → List Bool → List Bool
  | 0, nd => nd
  | k + 1, nd => backL l k (stepL l k nd)
theorem stepL_length (l : List In) (i : Nat) (nd : List Bool) : (stepL l i nd).length = nd.length := by
  unfold stepL; dsimp only; split <;> simp
theorem backL_length (l : List In) : ∀ (k : Nat) (nd : List Bool), (backL l k nd).length = nd.length
  | 0, nd => rfl
  | k + 1, nd => by rw [backL, backL_length l k, stepL_length]
def needsL (l : List In) (outs : List Int) : List Bool := backL l l.length (markOuts l outs)
theorem needsL_length (l : List In) (outs : List Int) : (needsL l outs).length = l.length := by rw [needsL, backL_length, markOuts_length]
def needsM (l : List In) (outs : List Int) : List Bool := if rightL l = true then needsL l outs else []

theorem lNeeds_ok (l : List In) (outs : List Int) (hl : LOK l) (hn : l.length < 1000000000) (ho : outs.length < 1000000000) : Pure Tryd.prog 13 [sL l, sI outs] [.t (sB (needsM l outs))] := by
  have hbig : l.length < big := by unfold big; omega
  have cr := lRight_ok l hl (by omega)
  refine Pure.intro Tryd.func13 rfl (rt := [4]) rfl (by simp [Tryd.ntmps13]) (by decide) (sites := fun _ => false) ?_
  apply run_sound 200
  simp -implicitDefEqProofs +decide only [go_sem]
  refine CallG.pure _ Tryd.call21 (cr) (by first | rfl | (simp only [go_sem]; done) | (simp only [go_sem]; rfl)) (by first | rfl | (simp only [go_sem]; done) | (simp only [go_sem]; rfl)) ?_
  apply run_sound 200
  unfold needsM
  cases hr : rightL l
  · rw [if_neg (by decide)]
    simp -implicitDefEqProofs +decide only [go_sem]
    exact endF.vals [(4, .slice [])] (.inr rfl) (vals_n (by simp -implicitDefEqProofs +decide only [go_sem]) vals_nil) (fun l hp => by cases l <;> first | rfl | cases hp) rfl
  rw [if_pos rfl]
  have hg := right_good hr
  simp -implicitDefEqProofs +decide only [go_sem, sL, sI, hbig, replB]
  refine Goes.loop (X := Nat) (fun i => ⟨ofL [(0, tL l), (5, .sl (.loc 15 0) 0 0 l.length), (16, tI outs), (17, .t (.int .i64 outs.length)), (18, .t (.int .i64 i))], ofH (fun _ => none) [(.loc 15 0, .arr 1 ((markOuts l (outs.take i)).map T.bool) 0 0)], 0⟩) (fun i => i ≤ outs.length) (fun i => outs.length - i) 0 ?_ (by simp) ?_
  · refine Wk.rows _ _ (fun _ _ => rfl) rfl rfl ?_ (fun l hp => by cases l <;> first | rfl | cases hp) ?_ ?_
    · simp -implicitDefEqProofs +decide only [go_sem] <;> rfl
    · simp -implicitDefEqProofs +decide only [go_sem, tL, sL, tI, sI]
    · simp -implicitDefEqProofs +decide only [go_sem, tL, sL, tI, sI]
  rintro i hi J hJ
  apply run_sound 200
  simp -implicitDefEqProofs +decide only [go_sem, tI, sI]
  refine selP_dec (fun hc => ?_) (fun hc => ?_)
  · obtain ⟨o, hio⟩ := getI (show i < outs.length by omega)
    have hw := wS (show i < 1000000000000 by omega)
    have hst := markOuts_step (l := l) hio
    have hln := markOuts_length l (outs.take i)
    generalize hm : markOuts l (outs.take i) = nd at hst hln
    simp -implicitDefEqProofs +decide only [go_sem, tI, sI, tL, sL, I, hio]
    refine selP_dec (fun h1 => ?_) (fun h1 => ?_)
    · simp -implicitDefEqProofs +decide only [go_sem, h1, hio, I]
      refine selP_dec (fun h2 => ?_) (fun h2 => ?_)
      · rw [if_pos ⟨h1, h2⟩] at hst
        obtain ⟨k, hk⟩ : ∃ k : Nat, o = k := ⟨o.toNat, by omega⟩
        subst hk
        rw [Int.toNat_natCast] at hst
        have hkl : k < l.length := by omega
        obtain ⟨b0, hb0⟩ := getI (show k < nd.length by omega)
        simp -implicitDefEqProofs +decide only [go_sem, ofH, hkl, hb0, hw, setB]
        refine hJ (i + 1) _ (by omega) (by omega) (Wk.rows _ _ (fun _ _ => rfl) rfl rfl ?_ (fun l hp => by cases l <;> first | rfl | cases hp) ?_ ?_)
        · simp -implicitDefEqProofs +decide only [go_sem, hst]
        · simp -implicitDefEqProofs +decide only [go_sem, tL, sL, tI, sI, hw]
        · simp -implicitDefEqProofs +decide only [go_sem, tL, sL, tI, sI, hw]
      · rw [if_neg (by omega)] at hst
        simp -implicitDefEqProofs +decide only [go_sem, h1, h2, hw]
        refine hJ (i + 1) _ (by omega) (by omega) (Wk.rows _ _ (fun _ _ => rfl) rfl rfl ?_ (fun l hp => by cases l <;> first | rfl | cases hp) ?_ ?_)
        · simp -implicitDefEqProofs +decide only [go_sem, hst, ofH]
        · simp -implicitDefEqProofs +decide only [go_sem, tL, sL, tI, sI, hw]
        · simp -implicitDefEqProofs +decide only [go_sem, tL, sL, tI, sI, hw]
    · rw [if_neg (by omega)] at hst
      simp -implicitDefEqProofs +decide only [go_sem, h1, hw]
      refine hJ (i + 1) _ (by omega) (by omega) (Wk.rows _ _ (fun _ _ => rfl) rfl rfl ?_ (fun l hp => by cases l <;> first | rfl | cases hp) ?_ ?_)
      · simp -implicitDefEqProofs +decide only [go_sem, hst, ofH]
      · simp -implicitDefEqProofs +decide only [go_sem, tL, sL, tI, sI, hw]
      · simp -implicitDefEqProofs +decide only [go_sem, tL, sL, tI, sI, hw]
  · have e : outs.take i = outs := List.take_of_length_le (by omega)
    rw [e]
    have w1 : IntKind.wrap .i64 ((l.length : Int) - 1) = (l.length : Int) - 1 := by rw [w64] <;> omega
    simp -implicitDefEqProofs +decide only [go_sem, w1, tL, sL]
    refine Goes.loop (X := Nat × List Bool) (fun x => ⟨ofL [(0, tL l), (5, .sl (.loc 15 0) 0 0 l.length), (8, .t (.int .i64 ((x.1 : Int) - 1)))], ofH (fun _ => none) [(.loc 15 0, .arr 1 (x.2.map T.bool) 0 0)], 0⟩)
      (fun x => x.1 ≤ l.length ∧ backL l x.1 x.2 = needsL l outs ∧ x.2.length = l.length) (fun x => x.1) (l.length, markOuts l outs) ?_ ⟨Nat.le_refl _, rfl, markOuts_length l outs⟩ ?_
    · refine Wk.rows _ _ (fun _ _ => rfl) rfl rfl ?_ (fun l hp => by cases l <;> first | rfl | cases hp) ?_ ?_
      · simp -implicitDefEqProofs +decide only [go_sem, ofH]
      · simp -implicitDefEqProofs +decide only [go_sem, tL, sL, tI, sI]
      · simp -implicitDefEqProofs +decide only [go_sem, tL, sL, tI, sI]
    rintro ⟨k, nd⟩ ⟨hk, he, hln⟩ J2 hJ2
    dsimp only at hk he hln hJ2 ⊢
    apply run_sound 200
    simp -implicitDefEqProofs +decide only [go_sem]
    refine selP_dec (fun hc2 => ?_) (fun hc2 => ?_)
    · obtain ⟨m, rfl⟩ : ∃ m, k = m + 1 := ⟨k - 1, by omega⟩
      obtain ⟨x, hx⟩ := getI (show m < l.length by omega)
      obtain ⟨b, hb⟩ := getI (show m < nd.length by omega)
      have hw : ((m + 1 : Nat) : Int) - 1 = m := by omega
      have hw2 : IntKind.wrap .i64 ((m : Int) - 1) = (m : Int) - 1 := by rw [w64] <;> omega
      have hml : m < l.length := by omega
      have hgx := hg m x hx
      have hst : stepL l m nd = if b = true ∧ 0 < arM x.op then (nd.set x.a.toNat true).set x.b.toNat ((nd.set x.a.toNat true).getD x.b.toNat false || decide (arM x.op = 2)) else nd := by
        unfold stepL; simp only [List.getD_eq_getElem?_getD, hb, hx, Option.getD_some]
      have hsl := stepL_length l m nd
      rw [backL] at he
      have ca := arity_ok x.op
      generalize arM x.op = r at ca hst hgx
      simp -implicitDefEqProofs +decide only [go_sem, hw, tL, sL, hx, In.T]
      refine CallG.pure _ Tryd.call27 (ca) (by first | rfl | (simp only [go_sem]; done) | (simp only [go_sem]; rfl)) (by first | rfl | (simp only [go_sem]; done) | (simp only [go_sem]; rfl)) ?_
      apply run_sound 200
      simp -implicitDefEqProofs +decide only [go_sem, hx, hb, hml, ofH]
      cases b
      · rw [if_neg (by simp)] at hst
        rw [hst] at he
        simp -implicitDefEqProofs +decide only [go_sem, hw, hw2]
        refine hJ2 (m, nd) _ ⟨by dsimp only; omega, he, hln⟩ (by dsimp only; omega) (Wk.rows _ _ (fun _ _ => rfl) rfl rfl ?_ (fun l hp => by cases l <;> first | rfl | cases hp) ?_ ?_)
        · simp -implicitDefEqProofs +decide only [go_sem, ofH]
        · simp -implicitDefEqProofs +decide only [go_sem, tL, sL, hw2, hw]
        · simp -implicitDefEqProofs +decide only [go_sem, tL, sL]
      · simp -implicitDefEqProofs +decide only [go_sem]
        refine selP_dec (fun h0 => ?_) (fun h0 => ?_)
        · obtain ⟨g1, g2, g3, g4⟩ := hgx h0
          obtain ⟨ka, hka⟩ : ∃ k : Nat, x.a = k := ⟨x.a.toNat, by omega⟩
          obtain ⟨kb, hkb⟩ : ∃ k : Nat, x.b = k := ⟨x.b.toNat, by omega⟩
          rw [if_pos ⟨rfl, h0⟩, hka, hkb, Int.toNat_natCast, Int.toNat_natCast] at hst
          have hal : ka < l.length := by omega
          have hbl : kb < l.length := by omega
          obtain ⟨c1, hc1⟩ := getI (show ka < nd.length by omega)
          obtain ⟨c, hcb⟩ := getI (show kb < (nd.set ka true).length by simp; omega)
          rw [List.getD_eq_getElem?_getD, hcb, Option.getD_some] at hst
          simp -implicitDefEqProofs +decide only [go_sem, hx, In.T, hka, hkb, hal, hbl, hc1, ofH, setB, hw]
          refine Goes.drawN mixed ?_
          cases c
          · rw [Bool.false_or] at hst
            simp -implicitDefEqProofs +decide only [go_sem, hx, In.T, hka, hkb, hal, hbl, hcb, ofH, setB, hw]
            refine ⟨.mk (by kernel_rfl), ?_⟩
            apply run_sound 200
            simp -implicitDefEqProofs +decide only [go_sem, hw, hw2]
            refine hJ2 (m, stepL l m nd) _ ⟨by dsimp only; omega, he, hsl.trans hln⟩ (by dsimp only; omega) (Wk.rows _ _ (fun _ _ => rfl) rfl rfl ?_ (fun l hp => by cases l <;> first | rfl | cases hp) ?_ ?_)
            · simp -implicitDefEqProofs +decide only [go_sem, ofH, hst, setB]
            · simp -implicitDefEqProofs +decide only [go_sem, tL, sL, hw2, hw]
            · simp -implicitDefEqProofs +decide only [go_sem, tL, sL]
          · rw [Bool.true_or] at hst
            simp -implicitDefEqProofs +decide only [go_sem, hx, In.T, hka, hkb, hal, hbl, hcb, ofH, setB, hw]
            refine ⟨.mk (by kernel_rfl), ?_⟩
            apply run_sound 200
            simp -implicitDefEqProofs +decide only [go_sem, hw, hw2]
            refine hJ2 (m, stepL l m nd) _ ⟨by dsimp only; omega, he, hsl.trans hln⟩ (by dsimp only; omega) (Wk.rows _ _ (fun _ _ => rfl) rfl rfl ?_ (fun l hp => by cases l <;> first | rfl | cases hp) ?_ ?_)
            · simp -implicitDefEqProofs +decide only [go_sem, ofH, hst, setB]
            · simp -implicitDefEqProofs +decide only [go_sem, tL, sL, hw2, hw]
            · simp -implicitDefEqProofs +decide only [go_sem, tL, sL]
        · rw [if_neg (by omega)] at hst
          rw [hst] at he
          simp -implicitDefEqProofs +decide only [go_sem, hw, hw2]
          refine hJ2 (m, nd) _ ⟨by dsimp only; omega, he, hln⟩ (by dsimp only; omega) (Wk.rows _ _ (fun _ _ => rfl) rfl rfl ?_ (fun l hp => by cases l <;> first | rfl | cases hp) ?_ ?_)
          · simp -implicitDefEqProofs +decide only [go_sem, ofH]
          · simp -implicitDefEqProofs +decide only [go_sem, tL, sL, hw2, hw]
          · simp -implicitDefEqProofs +decide only [go_sem, tL, sL]
    · have : k = 0 := by omega
      subst this
      rw [← he]
      simp -implicitDefEqProofs +decide only [go_sem]
      refine endF.row1 (lab := .loc 15 0) (v := 0) (len := l.length) (size := 1) (frz := 0) (es := nd.map T.bool) (.inr rfl) rfl rfl (by simp [hln]) (fun l hp => by cases l <;> first | rfl | cases hp) rfl
end Go.Fm
/- Lines: places behind trimming. -/
namespace Go.Fm
set_option maxRecDepth 100000

def atN (nd : List Bool) (j : Nat) : Nat := (nd.take j).count true
theorem atN_zero (nd : List Bool) : atN nd 0 = 0 := rfl
theorem atN_step {nd : List Bool} {j : Nat} {b : Bool} (h : nd[j]? = some b) : atN nd (j + 1) = atN nd j + (if b = true then 1 else 0) := by
  unfold atN
  rw [take_snoc h, List.count_append]
  cases b <;> rfl
theorem atN_le (nd : List Bool) (j : Nat) : atN nd j ≤ j := by
  unfold atN
  have := List.count_le_length (a := true) (l := nd.take j)
  rw [List.length_take] at this
  omega
theorem atN_mono {nd : List Bool} {i j : Nat} (h : i ≤ j) : atN nd i ≤ atN nd j := by
  unfold atN
  exact (List.Sublist.count_le (a := true) (by
    have : nd.take i = (nd.take j).take i := by rw [List.take_take, Nat.min_eq_left h]
    rw [this]; exact List.take_sublist _ _))

/-- The map's entries: where each of the first instructions stands. -/
def mk2 (nd : List Bool) (j : Nat) : Int × Int := ((j : Int), ((atN nd j : Nat) : Int))
def atM (nd : List Bool) (k : Nat) : List (Int × Int) := (List.range k).map (mk2 nd)
theorem midx_atM {nd : List Bool} {k j : Nat} (h : j < k) : midx (atM nd k) j = some j := by
  unfold midx
  rw [List.findIdx?_eq_some_iff_getElem]
  refine ⟨by simpa [atM] using h, by simp [atM, mk2], fun i hi => ?_⟩
  simp [atM, mk2]; omega
theorem midx_none {nd : List Bool} {k j : Nat} (h : k ≤ j) : midx (atM nd k) j = none := by
  unfold midx
  rw [List.findIdx?_eq_none_iff]
  intro p hp
  simp [atM, mk2] at hp
  obtain ⟨i, hi, rfl⟩ := hp
  simp; omega
theorem midx_isSome {nd : List Bool} {k j : Nat} (h : j < k) : (midx (atM nd k) j).isSome = true := by rw [midx_atM h]; rfl
theorem mget_atM {nd : List Bool} {k j : Nat} (h : j < k) : mget (atM nd k) j = ((atN nd j : Nat) : Int) := by
  unfold mget
  rw [midx_atM h]
  simp [atM, mk2, h]
theorem mput_atM (nd : List Bool) (k : Nat) : mput (atM nd k) k ((atN nd k : Nat) : Int) = atM nd (k + 1) := by
  unfold mput
  rw [midx_none (Nat.le_refl _)]
  simp [atM, List.range_succ, mk2]

def reL (nd : List Bool) (x : In) : In := ⟨x.op, if 0 < arM x.op then ((atN nd x.a.toNat : Nat) : Int) else x.a, if 1 < arM x.op then ((atN nd x.b.toNat : Nat) : Int) else x.b, x.x⟩
def trimTo (l : List In) (nd : List Bool) : Nat → List In
  | 0 => []
  | k + 1 => trimTo l nd k ++ (if nd.getD k false = true then [reL nd (l.getD k ⟨0, 0, 0, ⟨false, [], []⟩⟩)] else [])
theorem trimTo_step {l : List In} {nd : List Bool} {k : Nat} {x : In} {b : Bool} (hx : l[k]? = some x) (hb : nd[k]? = some b) : trimTo l nd (k + 1) = trimTo l nd k ++ (if b = true then [reL nd x] else []) := by
  rw [trimTo]; simp only [List.getD_eq_getElem?_getD, hb, hx, Option.getD_some]
theorem trimTo_length (l : List In) (nd : List Bool) : ∀ (k : Nat), k ≤ nd.length → (trimTo l nd k).length = atN nd k
  | 0, _ => rfl
  | k + 1, h => by
    obtain ⟨b, hb⟩ := getI (show k < nd.length by omega)
    rw [trimTo, List.length_append, trimTo_length l nd k (by omega), atN_step hb]
    simp only [List.getD_eq_getElem?_getD, hb, Option.getD_some]
    cases b <;> simp

def wh (l : List In) (nd : List Bool) (o : Int) : Int := if o < 0 ∨ (l.length : Int) ≤ o then -1 else ((atN nd o.toNat : Nat) : Int)
def whereL (l : List In) (nd : List Bool) (outs : List Int) : List Int := outs.map (wh l nd)
theorem whereL_step {l : List In} {nd : List Bool} {outs : List Int} {i : Nat} {o : Int} (h : outs[i]? = some o) : whereL l nd (outs.take (i + 1)) = whereL l nd (outs.take i) ++ [wh l nd o] := by
  unfold whereL; rw [take_snoc h, List.map_append]; rfl
end Go.Fm
/- Lines: trimming, by the reference. -/
namespace Go.Fm
open Go.Proofs
set_option maxRecDepth 100000

/-- The end of a function that gives two rows of its own, told as plain data. -/
theorem endF.row2 {t u : Nat} {la lb : Lab} {va vb na nb sa sb fa fb : Nat} {ea eb : List T} {h' : Heap} {m' : Nat} {e : Exit} {s : St} (he : e = .normal ∨ e = .ret)
    (hx : s.f t = .sl la va 0 na) (hla : s.h la = some (.arr sa ea va fa)) (hna : na = ea.length) (hp : Lab.pool la = false)
    (hy : s.f u = .sl lb vb 0 nb) (hlb : s.h lb = some (.arr sb eb vb fb)) (hnb : nb = eb.length) (hp2 : Lab.pool lb = false)
    (hh : ∀ l, Lab.pool l = true → h' l = s.h l) (hn : s.nxt = m') : endF [t, u] [.t (.slice ea), .t (.slice eb)] h' m' e s := by
  refine endF.mk (ws := [(la, .arr sa ea va ea.length), (lb, .arr sb eb vb eb.length)]) (os := [none, none]) (acc := [la, lb]) [false, false] he rfl ?_ rfl (fun l hl => ?_) hn
  · have : finL (([t, u].map s.f).zip [false, false]) = finL [(.sl la va 0 na, false), (.sl lb vb 0 nb, false)] := by rw [List.map_cons, List.map_cons, hx, hy]; rfl
    rw [this]
    have h1 : ea.take na = ea := List.take_of_length_le (by omega)
    have h2 : eb.take nb = eb := List.take_of_length_le (by omega)
    simp [finL, fin1, Rd.bind]
    simp [reify, reify1, Rd.bind, Rd.run, hla, hlb, h1, h2]
  · show _ = upd (upd s.h la _) lb _ l
    rw [upd_ne _ _ _ _ (fun e => by subst e; rw [hp2] at hl; cases hl), upd_ne _ _ _ _ (fun e => by subst e; rw [hp] at hl; cases hl)]
    exact hh l hl

def atL (nd : List Bool) (k : Nat) : List Int := (List.range k).map fun j => ((atN nd j : Nat) : Int)
theorem atL_length (nd : List Bool) (k : Nat) : (atL nd k).length = k := by simp [atL]
theorem atL_get {nd : List Bool} {k j : Nat} (h : j < k) : (atL nd k)[j]? = some ((atN nd j : Nat) : Int) := by simp [atL, h]
theorem atL_snoc (nd : List Bool) (k : Nat) : (atL nd k).map I ++ [.int .i64 ((atN nd k : Nat) : Int)] = (atL nd (k + 1)).map I := by
  simp [atL, List.range_succ, I]
theorem trim_snoc {l : List In} {nd : List Bool} {k : Nat} {x : In} (hx : l[k]? = some x) (hb : nd[k]? = some true) (op a b : Int) (n : Bool) (p q : List Nat) (he : reL nd x = ⟨op, a, b, ⟨n, p, q⟩⟩) :
    (trimTo l nd k).map In.T ++ [.agg [.int .i64 op, .int .i64 a, .int .i64 b, .bool n, sW p, sW q]] = (trimTo l nd (k + 1)).map In.T := by
  rw [trimTo_step hx hb, if_pos rfl, he, List.map_append]; rfl
theorem where_snoc {l : List In} {nd : List Bool} {outs : List Int} {i : Nat} {o z : Int} (h : outs[i]? = some o) (hz : wh l nd o = z) :
    (whereL l nd (outs.take i)).map I ++ [.int .i64 z] = (whereL l nd (outs.take (i + 1))).map I := by
  rw [whereL_step h, hz, List.map_append]; rfl
theorem where_length (l : List In) (nd : List Bool) (outs : List Int) : (whereL l nd outs).length = outs.length := by simp [whereL]

theorem rTrim15_ok (l : List In) (outs : List Int) (hg : GoodB l) (hn : l.length < 1000000000) (ho : outs.length < 1000000000) :
    Pure Tryd.prog 16 [sL l, sI outs] [.t (sL (trimTo l (needsOut l outs) l.length)), .t (sI (whereL l (needsOut l outs) outs))] := by
  have cn := rNeeds_ok l outs hg.good hn ho
  have hnl := needsOut_length l outs
  generalize needsOut l outs = nd at cn hnl ⊢
  refine Pure.intro Tryd.func16 rfl (rt := [4, 5]) rfl (by simp [Tryd.ntmps16]) (by decide) (sites := fun _ => false) ?_
  apply run_sound 200
  simp -implicitDefEqProofs +decide only [go_sem]
  refine CallG.pureS _ Tryd.call18 (cn) (by first | rfl | (simp only [go_sem]; done) | (simp only [go_sem]; rfl)) (by first | rfl | (simp only [go_sem]; done) | (simp only [go_sem]; rfl)) ?_
  apply run_sound 200
  simp -implicitDefEqProofs +decide only [go_sem, sL]
  refine Goes.wk (Wk.nilRow (d := 7) (lab := .loc 58 0) (size := 6) (by simp -implicitDefEqProofs +decide only [go_sem]) (by simp -implicitDefEqProofs +decide only [go_sem]) rfl (by decide)) ?_
  refine Goes.wk (Wk.nilRow (d := 8) (lab := .loc 25 0) (size := 1) (by simp -implicitDefEqProofs +decide only [go_sem]) (by simp -implicitDefEqProofs +decide only [go_sem]) rfl (by decide)) ?_
  refine Goes.loop (X := Nat) (fun i => ⟨ofL [(0, tL l), (1, tI outs), (6, tB nd), (7, .sl (.loc 58 0) (atN nd i) 0 (atN nd i)), (8, .sl (.loc 25 0) i 0 i), (17, .t (.int .i64 l.length)), (18, .t (.int .i64 i))], ofH (fun _ => none) [(.loc 58 0, .arr 6 ((trimTo l nd i).map In.T) (atN nd i) 0), (.loc 25 0, .arr 1 ((atL nd i).map I) i 0)], 0⟩) (fun i => i ≤ l.length) (fun i => l.length - i) 0 ?_ (by simp) ?_
  · refine Wk.rows _ _ (fun _ _ => rfl) rfl rfl ?_ (fun l hp => by cases l <;> first | rfl | cases hp) ?_ ?_
    · simp -implicitDefEqProofs +decide only [go_sem] <;> first | rfl | exact ⟨rfl, rfl⟩ | exact ⟨rfl, rfl, rfl⟩
    · simp -implicitDefEqProofs +decide only [go_sem, tL, sL, tI, sI, tB, sB] <;> rfl
    · simp -implicitDefEqProofs +decide only [go_sem, tL, sL, tI, sI, tB, sB]
  rintro i hi J hJ
  apply run_sound 200
  simp -implicitDefEqProofs +decide only [go_sem, tL, sL]
  refine selP_dec (fun hc => ?_) (fun hc => ?_)
  · obtain ⟨x, hx⟩ := getI (show i < l.length by omega)
    obtain ⟨b, hb⟩ := getI (show i < nd.length by omega)
    have hw := wS (show i < 1000000000000 by omega)
    have hat := atL_snoc nd i
    have hal := atL_length nd i
    have hal2 := atL_length nd (i + 1)
    have htl := trimTo_length l nd i (by omega)
    have hst := atN_step hb
    have hib : i + 1 < big := by unfold big; omega
    have han := atN_le nd i
    have hnb : atN nd i + 1 < big := by unfold big; omega
    have hgx := hg i x hx
    have hts := trimTo_step hx hb
    simp -implicitDefEqProofs +decide only [go_sem, tB, sB, ofH, hal, hat, hib, hb, htl, I]
    cases b
    · rw [if_neg (by decide), Nat.add_zero] at hst
      rw [if_neg (by decide), List.append_nil] at hts
      simp -implicitDefEqProofs +decide only [go_sem, hw]
      refine hJ (i + 1) _ (by omega) (by omega) (Wk.rows _ _ (fun _ _ => rfl) rfl rfl ?_ (fun l hp => by cases l <;> first | rfl | cases hp) ?_ ?_)
      · simp -implicitDefEqProofs +decide only [go_sem, hst, hts]
      · simp -implicitDefEqProofs +decide only [go_sem, hst, tL, sL, tI, sI, tB, sB, hw]
      · simp -implicitDefEqProofs +decide only [go_sem, tL, sL, tI, sI, tB, sB]
    · rw [if_pos rfl] at hst
      have ca := rArity_ok x.op
      have hsn := trim_snoc hx hb
      have hre : reL nd x = ⟨x.op, if 0 < arM x.op then ((atN nd x.a.toNat : Nat) : Int) else x.a, if 1 < arM x.op then ((atN nd x.b.toNat : Nat) : Int) else x.b, ⟨x.x.neg, x.x.p, x.x.q⟩⟩ := rfl
      generalize arM x.op = r at ca hgx hre
      simp -implicitDefEqProofs +decide only [go_sem, hx, In.T]
      refine CallG.pure _ Tryd.call28 (ca) (by first | rfl | (simp only [go_sem]; done) | (simp only [go_sem]; rfl)) (by first | rfl | (simp only [go_sem]; done) | (simp only [go_sem]; rfl)) ?_
      apply run_sound 200
      simp -implicitDefEqProofs +decide only [go_sem]
      refine selP_dec (fun h0 => ?_) (fun h0 => ?_)
      · obtain ⟨g1, g2, g3, g4⟩ := hgx h0
        obtain ⟨ka, hka⟩ : ∃ k : Nat, x.a = k := ⟨x.a.toNat, by omega⟩
        obtain ⟨kb, hkb⟩ : ∃ k : Nat, x.b = k := ⟨x.b.toNat, by omega⟩
        have ha1 : ka < i + 1 := by omega
        have hb1 : kb < i + 1 := by omega
        have ga := atL_get (nd := nd) ha1
        have gb := atL_get (nd := nd) hb1
        rw [if_pos h0, hka, Int.toNat_natCast] at hre
        simp -implicitDefEqProofs +decide only [go_sem, hka, ha1, ga, I]
        refine CallG.pure _ Tryd.call28 (ca) (by first | rfl | (simp only [go_sem]; done) | (simp only [go_sem]; rfl)) (by first | rfl | (simp only [go_sem]; done) | (simp only [go_sem]; rfl)) ?_
        apply run_sound 200
        simp -implicitDefEqProofs +decide only [go_sem]
        refine selP_dec (fun h1 => ?_) (fun h1 => ?_)
        · rw [if_pos h1, hkb, Int.toNat_natCast] at hre
          have hsn := hsn _ _ _ _ _ _ hre
          simp -implicitDefEqProofs +decide only [go_sem, hkb, hb1, gb, I, htl, hnb, hsn, hw]
          refine hJ (i + 1) _ (by omega) (by omega) (Wk.rows _ _ (fun _ _ => rfl) rfl rfl ?_ (fun l hp => by cases l <;> first | rfl | cases hp) ?_ ?_)
          · simp -implicitDefEqProofs +decide only [go_sem, hst]
          · simp -implicitDefEqProofs +decide only [go_sem, hst, tL, sL, tI, sI, tB, sB, hw]
          · simp -implicitDefEqProofs +decide only [go_sem, tL, sL, tI, sI, tB, sB]
        · rw [if_neg h1] at hre
          have hsn := hsn _ _ _ _ _ _ hre
          simp -implicitDefEqProofs +decide only [go_sem, I, htl, hnb, hsn, hw]
          refine hJ (i + 1) _ (by omega) (by omega) (Wk.rows _ _ (fun _ _ => rfl) rfl rfl ?_ (fun l hp => by cases l <;> first | rfl | cases hp) ?_ ?_)
          · simp -implicitDefEqProofs +decide only [go_sem, hst]
          · simp -implicitDefEqProofs +decide only [go_sem, hst, tL, sL, tI, sI, tB, sB, hw]
          · simp -implicitDefEqProofs +decide only [go_sem, tL, sL, tI, sI, tB, sB]
      · rw [if_neg h0, if_neg (by omega)] at hre
        have hsn := hsn _ _ _ _ _ _ hre
        simp -implicitDefEqProofs +decide only [go_sem]
        refine CallG.pure _ Tryd.call28 (ca) (by first | rfl | (simp only [go_sem]; done) | (simp only [go_sem]; rfl)) (by first | rfl | (simp only [go_sem]; done) | (simp only [go_sem]; rfl)) ?_
        apply run_sound 200
        simp -implicitDefEqProofs +decide only [go_sem]
        refine selP_dec (fun h1 => absurd h1 (by omega)) (fun h1 => ?_)
        simp -implicitDefEqProofs +decide only [go_sem, I, htl, hnb, hsn, hw]
        refine hJ (i + 1) _ (by omega) (by omega) (Wk.rows _ _ (fun _ _ => rfl) rfl rfl ?_ (fun l hp => by cases l <;> first | rfl | cases hp) ?_ ?_)
        · simp -implicitDefEqProofs +decide only [go_sem, hst]
        · simp -implicitDefEqProofs +decide only [go_sem, hst, tL, sL, tI, sI, tB, sB, hw]
        · simp -implicitDefEqProofs +decide only [go_sem, tL, sL, tI, sI, tB, sB]
  · obtain rfl : i = l.length := by omega
    simp -implicitDefEqProofs +decide only [go_sem, ofH]
    refine Goes.wk (Wk.nilRow (d := 11) (lab := .loc 81 0) (size := 1) (by simp -implicitDefEqProofs +decide only [go_sem]) (by simp -implicitDefEqProofs +decide only [go_sem]) rfl (by decide)) ?_
    refine Goes.loop (X := Nat) (fun i => ⟨ofL [(0, tL l), (1, tI outs), (7, .sl (.loc 58 0) (atN nd l.length) 0 (atN nd l.length)), (8, .sl (.loc 25 0) l.length 0 l.length), (11, .sl (.loc 81 0) i 0 i), (61, .t (.int .i64 outs.length)), (62, .t (.int .i64 i))],
        ofH (fun _ => none) [(.loc 58 0, .arr 6 ((trimTo l nd l.length).map In.T) (atN nd l.length) 0), (.loc 25 0, .arr 1 ((atL nd l.length).map I) l.length 0), (.loc 81 0, .arr 1 ((whereL l nd (outs.take i)).map I) i 0)], 0⟩) (fun i => i ≤ outs.length) (fun i => outs.length - i) 0 ?_ (by simp) ?_
    · refine Wk.rows _ _ (fun _ _ => rfl) rfl rfl ?_ (fun l hp => by cases l <;> first | rfl | cases hp) ?_ ?_
      · simp -implicitDefEqProofs +decide only [go_sem] <;> first | rfl | exact ⟨rfl, rfl⟩ | exact ⟨rfl, rfl, rfl⟩
      · simp -implicitDefEqProofs +decide only [go_sem, tL, sL, tI, sI, tB, sB] <;> rfl
      · simp -implicitDefEqProofs +decide only [go_sem, tL, sL, tI, sI, tB, sB]
    rintro i hi J hJ
    apply run_sound 200
    simp -implicitDefEqProofs +decide only [go_sem, tI, sI]
    refine selP_dec (fun hc => ?_) (fun hc => ?_)
    · obtain ⟨o, hio⟩ := getI (show i < outs.length by omega)
      have hw := wS (show i < 1000000000000 by omega)
      have hib : i + 1 < big := by unfold big; omega
      have hwl : (whereL l nd (outs.take i)).length = i := by rw [where_length, List.length_take]; omega
      have hal := atL_length nd l.length
      have hws : ∀ z, wh l nd o = z → _ := fun z hz => where_snoc (l := l) (nd := nd) hio hz
      simp -implicitDefEqProofs +decide only [go_sem, tI, sI, tL, sL, I, hio]
      refine selP_dec (fun h1 => ?_) (fun h1 => ?_)
      · have hws := hws (-1) (by unfold wh; rw [if_pos (.inl h1)])
        simp -implicitDefEqProofs +decide only [go_sem, h1, hio, I, ofH, hwl, hib, hws, hw]
        refine hJ (i + 1) _ (by omega) (by omega) (Wk.rows _ _ (fun _ _ => rfl) rfl rfl ?_ (fun l hp => by cases l <;> first | rfl | cases hp) ?_ ?_)
        · simp -implicitDefEqProofs +decide only [go_sem]
        · simp -implicitDefEqProofs +decide only [go_sem, tL, sL, tI, sI, tB, sB, hw]
        · simp -implicitDefEqProofs +decide only [go_sem, tL, sL, tI, sI, tB, sB]
      · simp -implicitDefEqProofs +decide only [go_sem, h1, hio, I]
        refine selP_dec (fun h2 => ?_) (fun h2 => ?_)
        · have hws := hws (-1) (by unfold wh; rw [if_pos (.inr h2)])
          simp -implicitDefEqProofs +decide only [go_sem, h1, h2, hio, I, ofH, hwl, hib, hws, hw]
          refine hJ (i + 1) _ (by omega) (by omega) (Wk.rows _ _ (fun _ _ => rfl) rfl rfl ?_ (fun l hp => by cases l <;> first | rfl | cases hp) ?_ ?_)
          · simp -implicitDefEqProofs +decide only [go_sem]
          · simp -implicitDefEqProofs +decide only [go_sem, tL, sL, tI, sI, tB, sB, hw]
          · simp -implicitDefEqProofs +decide only [go_sem, tL, sL, tI, sI, tB, sB]
        · obtain ⟨k, rfl⟩ : ∃ k : Nat, o = k := ⟨o.toNat, by omega⟩
          have hkl : k < l.length := by omega
          have gk := atL_get (nd := nd) hkl
          have hws := hws ((atN nd k : Nat) : Int) (by unfold wh; rw [if_neg (by omega), Int.toNat_natCast])
          simp -implicitDefEqProofs +decide only [go_sem, h1, h2, hio, I, ofH, hwl, hib, hkl, gk, hws, hw]
          refine hJ (i + 1) _ (by omega) (by omega) (Wk.rows _ _ (fun _ _ => rfl) rfl rfl ?_ (fun l hp => by cases l <;> first | rfl | cases hp) ?_ ?_)
          · simp -implicitDefEqProofs +decide only [go_sem]
          · simp -implicitDefEqProofs +decide only [go_sem, tL, sL, tI, sI, tB, sB, hw]
          · simp -implicitDefEqProofs +decide only [go_sem, tL, sL, tI, sI, tB, sB]
    · obtain rfl : i = outs.length := by omega
      have e : outs.take outs.length = outs := List.take_length
      rw [e]
      have htl := trimTo_length l nd l.length (by omega)
      simp -implicitDefEqProofs +decide only [go_sem, ofH]
      exact endF.row2 (la := .loc 58 0) (lb := .loc 81 0) (va := atN nd l.length) (vb := outs.length) (na := atN nd l.length) (nb := outs.length) (sa := 6) (sb := 1) (fa := 0) (fb := 0) (ea := (trimTo l nd l.length).map In.T) (eb := (whereL l nd outs).map I) (.inr rfl) rfl rfl (by simp [htl]) rfl rfl rfl (by simp [where_length]) rfl (fun l hp => by cases l <;> first | rfl | cases hp) rfl
end Go.Fm
/- Lines: trimming. -/
namespace Go.Fm
open Go.Proofs
set_option maxRecDepth 100000

theorem trim_snocU {l : List In} {nd : List Bool} {k : Nat} {x : In} (hx : l[k]? = some x) (hb : nd[k]? = some true) (op a b : Int) (n : Bool) (p q : List Nat) (he : reL nd x = ⟨op, a, b, ⟨n, p, q⟩⟩) :
    (trimTo l nd k).map In.T ++ [.agg [.int .i64 op, .int .i64 a, .int .i64 b, .bool n, .slice (p.map U), .slice (q.map U)]] = (trimTo l nd (k + 1)).map In.T := trim_snoc hx hb op a b n p q he

theorem lTrim_no (l : List In) (outs : List Int) (hl : LOK l) (hr : rightL l = false) (hn : l.length < 1000000000) (ho : outs.length < 1000000000) :
    Pure Tryd.prog 14 [sL l, sI outs] [.t (sL []), .t (sI [])] := by
  have cn := lNeeds_ok l outs hl hn ho
  have cr := lRight_ok l hl (by omega)
  rw [hr] at cr
  refine Pure.intro Tryd.func14 rfl (rt := [4, 5]) rfl (by simp [Tryd.ntmps14]) (by decide) (sites := fun _ => false) ?_
  apply run_sound 200
  simp -implicitDefEqProofs +decide only [go_sem]
  refine CallG.pureS _ Tryd.call13 (cn) (by first | rfl | (simp only [go_sem]; done) | (simp only [go_sem]; rfl)) (by first | rfl | (simp only [go_sem]; done) | (simp only [go_sem]; rfl)) ?_
  apply run_sound 200
  simp -implicitDefEqProofs +decide only [go_sem]
  refine CallG.pure _ Tryd.call21 (cr) (by first | rfl | (simp only [go_sem]; done) | (simp only [go_sem]; rfl)) (by first | rfl | (simp only [go_sem]; done) | (simp only [go_sem]; rfl)) ?_
  apply run_sound 200
  simp -implicitDefEqProofs +decide only [go_sem]
  exact endF.vals [(4, .slice []), (5, .slice [])] (.inr rfl) (vals_n (by simp -implicitDefEqProofs +decide only [go_sem]) (vals_n (by simp -implicitDefEqProofs +decide only [go_sem]) vals_nil)) (fun l hp => by cases l <;> first | rfl | cases hp) rfl

set_option maxHeartbeats 1600000 in
theorem lTrim_ok (l : List In) (outs : List Int) (hl : LOK l) (hr : rightL l = true) (hn : l.length < 1000000000) (ho : outs.length < 1000000000) :
    Pure Tryd.prog 14 [sL l, sI outs] [.t (sL (trimTo l (needsL l outs) l.length)), .t (sI (whereL l (needsL l outs) outs))] := by
  have cn := lNeeds_ok l outs hl hn ho
  have cr := lRight_ok l hl (by omega)
  rw [hr] at cr
  rw [show needsM l outs = needsL l outs from if_pos hr] at cn
  have hg := right_good hr
  have hnl := needsL_length l outs
  generalize needsL l outs = nd at cn hnl ⊢
  refine Pure.intro Tryd.func14 rfl (rt := [4, 5]) rfl (by simp [Tryd.ntmps14]) (by decide) (sites := fun _ => false) ?_
  apply run_sound 200
  simp -implicitDefEqProofs +decide only [go_sem]
  refine CallG.pureS _ Tryd.call13 (cn) (by first | rfl | (simp only [go_sem]; done) | (simp only [go_sem]; rfl)) (by first | rfl | (simp only [go_sem]; done) | (simp only [go_sem]; rfl)) ?_
  apply run_sound 200
  simp -implicitDefEqProofs +decide only [go_sem]
  refine CallG.pure _ Tryd.call21 (cr) (by first | rfl | (simp only [go_sem]; done) | (simp only [go_sem]; rfl)) (by first | rfl | (simp only [go_sem]; done) | (simp only [go_sem]; rfl)) ?_
  apply run_sound 200
  simp -implicitDefEqProofs +decide only [go_sem, sL]
  refine Goes.wk (Wk.nilRow (d := 8) (lab := .loc 77 0) (size := 6) (by simp -implicitDefEqProofs +decide only [go_sem]) (by simp -implicitDefEqProofs +decide only [go_sem]) rfl (by decide)) ?_
  refine Goes.loop (X := Nat) (fun i => ⟨ofL [(0, tL l), (1, tI outs), (6, tB nd), (7, .mp (.loc 20 0)), (8, .sl (.loc 77 0) (atN nd i) 0 (atN nd i)), (21, tL l), (22, .t (.int .i64 l.length)), (23, .t (.int .i64 i))], ofH (fun _ => none) [(.loc 77 0, .arr 6 ((trimTo l nd i).map In.T) (atN nd i) 0), (.loc 20 0, .map (atM nd i))], 0⟩) (fun i => i ≤ l.length) (fun i => l.length - i) 0 ?_ (by simp) ?_
  · refine Wk.rows _ _ (fun _ _ => rfl) rfl rfl ?_ (fun l hp => by cases l <;> first | rfl | cases hp) ?_ ?_
    · simp -implicitDefEqProofs +decide only [go_sem] <;> first | rfl | exact ⟨rfl, rfl⟩ | exact ⟨rfl, rfl, rfl⟩
    · simp -implicitDefEqProofs +decide only [go_sem, tL, sL, tI, sI, tB, sB] <;> rfl
    · simp -implicitDefEqProofs +decide only [go_sem, tL, sL, tI, sI, tB, sB]
  rintro i hi J hJ
  apply run_sound 200
  simp -implicitDefEqProofs +decide only [go_sem, tL, sL]
  refine selP_dec (fun hc => ?_) (fun hc => ?_)
  · obtain ⟨x, hx⟩ := getI (show i < l.length by omega)
    obtain ⟨b, hb⟩ := getI (show i < nd.length by omega)
    have hw := wS (show i < 1000000000000 by omega)
    have htl := trimTo_length l nd i (by omega)
    have hst := atN_step hb
    have hmp := mput_atM nd i
    have han := atN_le nd i
    have hnb : atN nd i + 1 < big := by unfold big; omega
    have hgx := hg i x hx
    have hts := trimTo_step hx hb
    have hxo := hl x (List.mem_of_getElem? hx)
    simp -implicitDefEqProofs +decide only [go_sem, tB, sB, ofH, hb, htl, hx, In.T, hmp]
    cases b
    · rw [if_neg (by decide), Nat.add_zero] at hst
      rw [if_neg (by decide), List.append_nil] at hts
      simp -implicitDefEqProofs +decide only [go_sem, hw]
      refine hJ (i + 1) _ (by omega) (by omega) (Wk.rows _ _ (fun _ _ => rfl) rfl rfl ?_ (fun l hp => by cases l <;> first | rfl | cases hp) ?_ ?_)
      · simp -implicitDefEqProofs +decide only [go_sem, hst, hts, ofH]
      · simp -implicitDefEqProofs +decide only [go_sem, hst, tL, sL, tI, sI, tB, sB, hw]
      · simp -implicitDefEqProofs +decide only [go_sem, tL, sL, tI, sI, tB, sB]
    · rw [if_pos rfl] at hst
      have ca := arity_ok x.op
      have hsn := trim_snocU hx hb
      have hre : reL nd x = ⟨x.op, if 0 < arM x.op then ((atN nd x.a.toNat : Nat) : Int) else x.a, if 1 < arM x.op then ((atN nd x.b.toNat : Nat) : Int) else x.b, ⟨x.x.neg, x.x.p, x.x.q⟩⟩ := rfl
      have har := arM_cases x.op
      generalize arM x.op = r at ca hgx hre har
      have hpb : x.x.p.length < big := by unfold big; have := hxo.lp; omega
      have hqb : x.x.q.length < big := by unfold big; have := hxo.lq; omega
      have tkp : (x.x.p.map U).take x.x.p.length = x.x.p.map U := List.take_of_length_le (by simp)
      have tkq : (x.x.q.map U).take x.x.q.length = x.x.q.map U := List.take_of_length_le (by simp)
      simp -implicitDefEqProofs +decide only [go_sem, hx, In.T]
      refine CallG.pure _ Tryd.call27 (ca) (by first | rfl | (simp only [go_sem]; done) | (simp only [go_sem]; rfl)) (by first | rfl | (simp only [go_sem]; done) | (simp only [go_sem]; rfl)) ?_
      apply run_sound 200
      simp -implicitDefEqProofs +decide only [go_sem]
      refine selP_dec (fun h2 => ?_) (fun h2 => ?_)
      · subst h2
        obtain ⟨g1, g2, g3, g4⟩ := hgx (by decide)
        obtain ⟨ka, hka⟩ : ∃ k : Nat, x.a = k := ⟨x.a.toNat, by omega⟩
        obtain ⟨kb, hkb⟩ : ∃ k : Nat, x.b = k := ⟨x.b.toNat, by omega⟩
        have ia := midx_isSome (nd := nd) (show ka < i + 1 by omega)
        have ib := midx_isSome (nd := nd) (show kb < i + 1 by omega)
        have ma := mget_atM (nd := nd) (show ka < i + 1 by omega)
        have mb := mget_atM (nd := nd) (show kb < i + 1 by omega)
        rw [if_pos (by decide), if_pos (by decide), hka, hkb, Int.toNat_natCast, Int.toNat_natCast] at hre
        have hsn := hsn _ _ _ _ _ _ hre
        simp -implicitDefEqProofs +decide only [go_sem]
        refine Goes.drawN mixed ?_
        simp -implicitDefEqProofs +decide only [go_sem, hka, hkb, ia, ib, ma, mb]
        refine ⟨.mk (by kernel_rfl), ?_⟩
        apply run_sound 200
        simp -implicitDefEqProofs +decide only [go_sem]
        refine Goes.drawN mixed ?_
        simp -implicitDefEqProofs +decide only [go_sem, sW, usAll, hpb, hqb, List.nil_append, Nat.zero_add]
        refine ⟨.mk (by kernel_rfl), ?_⟩
        apply run_sound 200
        simp -implicitDefEqProofs +decide only [go_sem, sW, List.drop_zero, tkp, tkq, htl, hnb, hsn, hw]
        refine hJ (i + 1) _ (by omega) (by omega) (Wk.rows _ _ (fun _ _ => rfl) rfl rfl ?_ (fun l hp => by cases l <;> first | rfl | cases hp) ?_ ?_)
        · simp -implicitDefEqProofs +decide only [go_sem, hst]
        · simp -implicitDefEqProofs +decide only [go_sem, hst, tL, sL, tI, sI, tB, sB, hw]
        · simp -implicitDefEqProofs +decide only [go_sem, tL, sL, tI, sI, tB, sB]
      · simp -implicitDefEqProofs +decide only [go_sem]
        refine selP_dec (fun h1 => ?_) (fun h1 => ?_)
        · subst h1
          obtain ⟨g1, g2, g3, g4⟩ := hgx (by decide)
          obtain ⟨ka, hka⟩ : ∃ k : Nat, x.a = k := ⟨x.a.toNat, by omega⟩
          have ia := midx_isSome (nd := nd) (show ka < i + 1 by omega)
          have ma := mget_atM (nd := nd) (show ka < i + 1 by omega)
          rw [if_pos (by decide), if_neg (by decide), hka, Int.toNat_natCast] at hre
          have hsn := hsn _ _ _ _ _ _ hre
          simp -implicitDefEqProofs +decide only [go_sem, hka, ia, ma]
          refine Goes.drawN mixed ?_
          simp -implicitDefEqProofs +decide only [go_sem, sW, usAll, hpb, hqb, List.nil_append, Nat.zero_add]
          refine ⟨.mk (by kernel_rfl), ?_⟩
          apply run_sound 200
          simp -implicitDefEqProofs +decide only [go_sem, sW, List.drop_zero, tkp, tkq, htl, hnb, hsn, hw]
          refine hJ (i + 1) _ (by omega) (by omega) (Wk.rows _ _ (fun _ _ => rfl) rfl rfl ?_ (fun l hp => by cases l <;> first | rfl | cases hp) ?_ ?_)
          · simp -implicitDefEqProofs +decide only [go_sem, hst]
          · simp -implicitDefEqProofs +decide only [go_sem, hst, tL, sL, tI, sI, tB, sB, hw]
          · simp -implicitDefEqProofs +decide only [go_sem, tL, sL, tI, sI, tB, sB]
        · rw [if_neg (by omega), if_neg (by omega)] at hre
          have hsn := hsn _ _ _ _ _ _ hre
          simp -implicitDefEqProofs +decide only [go_sem]
          refine Goes.drawN mixed ?_
          simp -implicitDefEqProofs +decide only [go_sem, sW, usAll, hpb, hqb, List.nil_append, Nat.zero_add]
          refine ⟨.mk (by kernel_rfl), ?_⟩
          apply run_sound 200
          simp -implicitDefEqProofs +decide only [go_sem, sW, List.drop_zero, tkp, tkq, htl, hnb, hsn, hw]
          refine hJ (i + 1) _ (by omega) (by omega) (Wk.rows _ _ (fun _ _ => rfl) rfl rfl ?_ (fun l hp => by cases l <;> first | rfl | cases hp) ?_ ?_)
          · simp -implicitDefEqProofs +decide only [go_sem, hst]
          · simp -implicitDefEqProofs +decide only [go_sem, hst, tL, sL, tI, sI, tB, sB, hw]
          · simp -implicitDefEqProofs +decide only [go_sem, tL, sL, tI, sI, tB, sB]
  · obtain rfl : i = l.length := by omega
    simp -implicitDefEqProofs +decide only [go_sem, ofH]
    refine Goes.wk (Wk.nilRow (d := 11) (lab := .loc 95 0) (size := 1) (by simp -implicitDefEqProofs +decide only [go_sem]) (by simp -implicitDefEqProofs +decide only [go_sem]) rfl (by decide)) ?_
    refine Goes.loop (X := Nat) (fun i => ⟨ofL [(0, tL l), (7, .mp (.loc 20 0)), (8, .sl (.loc 77 0) (atN nd l.length) 0 (atN nd l.length)), (11, .sl (.loc 95 0) i 0 i), (79, tI outs), (80, .t (.int .i64 outs.length)), (81, .t (.int .i64 i))],
        ofH (fun _ => none) [(.loc 77 0, .arr 6 ((trimTo l nd l.length).map In.T) (atN nd l.length) 0), (.loc 20 0, .map (atM nd l.length)), (.loc 95 0, .arr 1 ((whereL l nd (outs.take i)).map I) i 0)], 0⟩) (fun i => i ≤ outs.length) (fun i => outs.length - i) 0 ?_ (by simp) ?_
    · refine Wk.rows _ _ (fun _ _ => rfl) rfl rfl ?_ (fun l hp => by cases l <;> first | rfl | cases hp) ?_ ?_
      · simp -implicitDefEqProofs +decide only [go_sem] <;> first | rfl | exact ⟨rfl, rfl⟩ | exact ⟨rfl, rfl, rfl⟩
      · simp -implicitDefEqProofs +decide only [go_sem, tL, sL, tI, sI, tB, sB] <;> rfl
      · simp -implicitDefEqProofs +decide only [go_sem, tL, sL, tI, sI, tB, sB]
    rintro i hi J hJ
    apply run_sound 200
    simp -implicitDefEqProofs +decide only [go_sem, tI, sI]
    refine selP_dec (fun hc => ?_) (fun hc => ?_)
    · obtain ⟨o, hio⟩ := getI (show i < outs.length by omega)
      have hw := wS (show i < 1000000000000 by omega)
      have hib : i + 1 < big := by unfold big; omega
      have hwl : (whereL l nd (outs.take i)).length = i := by rw [where_length, List.length_take]; omega
      have hws : ∀ z, wh l nd o = z → _ := fun z hz => where_snoc (l := l) (nd := nd) hio hz
      simp -implicitDefEqProofs +decide only [go_sem, tI, sI, tL, sL, I, hio]
      refine selP_dec (fun h1 => ?_) (fun h1 => ?_)
      · have hws := hws (-1) (by unfold wh; rw [if_pos (.inl h1)])
        simp -implicitDefEqProofs +decide only [go_sem, h1, hio, I, ofH, hwl, hib, hws, hw]
        refine hJ (i + 1) _ (by omega) (by omega) (Wk.rows _ _ (fun _ _ => rfl) rfl rfl ?_ (fun l hp => by cases l <;> first | rfl | cases hp) ?_ ?_)
        · simp -implicitDefEqProofs +decide only [go_sem]
        · simp -implicitDefEqProofs +decide only [go_sem, tL, sL, tI, sI, tB, sB, hw]
        · simp -implicitDefEqProofs +decide only [go_sem, tL, sL, tI, sI, tB, sB]
      · simp -implicitDefEqProofs +decide only [go_sem, h1, hio, I]
        refine selP_dec (fun h2 => ?_) (fun h2 => ?_)
        · have hws := hws (-1) (by unfold wh; rw [if_pos (.inr h2)])
          simp -implicitDefEqProofs +decide only [go_sem, h1, h2, hio, I, ofH, hwl, hib, hws, hw]
          refine hJ (i + 1) _ (by omega) (by omega) (Wk.rows _ _ (fun _ _ => rfl) rfl rfl ?_ (fun l hp => by cases l <;> first | rfl | cases hp) ?_ ?_)
          · simp -implicitDefEqProofs +decide only [go_sem]
          · simp -implicitDefEqProofs +decide only [go_sem, tL, sL, tI, sI, tB, sB, hw]
          · simp -implicitDefEqProofs +decide only [go_sem, tL, sL, tI, sI, tB, sB]
        · obtain ⟨k, rfl⟩ : ∃ k : Nat, o = k := ⟨o.toNat, by omega⟩
          have hkl : k < l.length := by omega
          have ik := midx_isSome (nd := nd) hkl
          have mk := mget_atM (nd := nd) hkl
          have hws := hws ((atN nd k : Nat) : Int) (by unfold wh; rw [if_neg (by omega), Int.toNat_natCast])
          simp -implicitDefEqProofs +decide only [go_sem, h1, h2, hio, I, ofH, hwl, hib, ik, mk, hws, hw]
          refine hJ (i + 1) _ (by omega) (by omega) (Wk.rows _ _ (fun _ _ => rfl) rfl rfl ?_ (fun l hp => by cases l <;> first | rfl | cases hp) ?_ ?_)
          · simp -implicitDefEqProofs +decide only [go_sem]
          · simp -implicitDefEqProofs +decide only [go_sem, tL, sL, tI, sI, tB, sB, hw]
          · simp -implicitDefEqProofs +decide only [go_sem, tL, sL, tI, sI, tB, sB]
    · obtain rfl : i = outs.length := by omega
      have e : outs.take outs.length = outs := List.take_length
      rw [e]
      have htl := trimTo_length l nd l.length (by omega)
      simp -implicitDefEqProofs +decide only [go_sem, ofH]
      exact endF.row2 (la := .loc 77 0) (lb := .loc 95 0) (va := atN nd l.length) (vb := outs.length) (na := atN nd l.length) (nb := outs.length) (sa := 6) (sb := 1) (fa := 0) (fb := 0) (ea := (trimTo l nd l.length).map In.T) (eb := (whereL l nd outs).map I) (.inr rfl) rfl rfl (by simp [htl]) rfl rfl rfl (by simp [where_length]) rfl (fun l hp => by cases l <;> first | rfl | cases hp) rfl
end Go.Fm
/- Lines: what is always held. -/
namespace Go.Fm
open Go.Proofs
set_option maxRecDepth 100000

@[go_sem] theorem ti2 : tiOf Tryd.prog 2 = { d := Go.TypeDesc.int Go.IntKind.i64, size := 1, bytes := 8, zero := [Go.Value.int Go.IntKind.i64 0] } := by rfl

theorem word3_ok : Pure Tryd.prog 29 [.int .i64 3] [.t (.str [110, 101, 103])] := by
  have bE : ByteArray.empty.data.toList = [] := rfl
  have t3 : Int.toNat 3 = 3 := rfl
  refine Pure.intro Tryd.func29 rfl (rt := [2]) rfl (by simp [Tryd.ntmps29]) (by decide) (sites := fun _ => false) ?_
  apply run_sound 200
  simp -implicitDefEqProofs +decide only [go_sem, List.range_zero, List.map_nil, List.nil_append, List.cons_append, Nat.mul_one, bE, t3]
  exact endF.vals [(2, .str [110, 101, 103])] (.inr rfl) (vals_t (by first | (simp -implicitDefEqProofs +decide only [go_sem] <;> rfl) | rfl) (by first | rfl | exact T_true (by omega) | exact T_false (by omega) | exact T_dec (by omega) | exact T_ndec (by omega) | exact T_int (by omega)) vals_nil) (fun l hp => by cases l <;> first | rfl | cases hp) rfl

theorem small0_ok : Pure Tryd.prog 93 [.int .i64 0] [.t (.str [48])] := by
  refine Pure.intro Tryd.func93 rfl (rt := [2]) rfl (by simp [Tryd.ntmps93]) (by decide) (sites := fun _ => false) ?_
  apply run_sound 200
  simp -implicitDefEqProofs +decide only [go_sem]
  exact endF.vals [(2, .str [48])] (.inr rfl) (vals_t (by simp -implicitDefEqProofs +decide only [go_sem] <;> rfl) rfl vals_nil) (fun l hp => by cases l <;> first | rfl | cases hp) rfl
theorem format0_ok : Pure Tryd.prog 72 [.int .i64 0, .int .i64 10] [.t (.str [48])] := by
  refine Pure.intro Tryd.func72 rfl (rt := [4]) rfl (by simp [Tryd.ntmps72]) (by decide) (sites := fun _ => false) ?_
  apply run_sound 200
  simp -implicitDefEqProofs +decide only [go_sem]
  refine CallG.pure _ Tryd.call93 (small0_ok) (by first | rfl | (simp only [go_sem]; done) | (simp only [go_sem]; rfl)) (by first | rfl | (simp only [go_sem]; done) | (simp only [go_sem]; rfl)) ?_
  apply run_sound 200
  simp -implicitDefEqProofs +decide only [go_sem]
  exact endF.vals [(4, .str [48])] (.inr rfl) (vals_t (by simp -implicitDefEqProofs +decide only [go_sem] <;> rfl) rfl vals_nil) (fun l hp => by cases l <;> first | rfl | cases hp) rfl
theorem itoa0_ok : Pure Tryd.prog 53 [.int .i64 0] [.t (.str [48])] := by
  refine Pure.intro Tryd.func53 rfl (rt := [2]) rfl (by simp [Tryd.ntmps53]) (by decide) (sites := fun _ => false) ?_
  apply run_sound 200
  simp -implicitDefEqProofs +decide only [go_sem]
  refine CallG.pure _ Tryd.call72 (format0_ok) (by first | rfl | (simp only [go_sem]; done) | (simp only [go_sem]; rfl)) (by first | rfl | (simp only [go_sem]; done) | (simp only [go_sem]; rfl)) ?_
  apply run_sound 200
  simp -implicitDefEqProofs +decide only [go_sem]
  exact endF.vals [(2, .str [48])] (.inr rfl) (vals_t (by simp -implicitDefEqProofs +decide only [go_sem] <;> rfl) rfl vals_nil) (fun l hp => by cases l <;> first | rfl | cases hp) rfl
theorem itoa0s_ok : Pure Tryd.prog 39 [.int .i64 0] [.t (.str [48])] := by
  refine Pure.intro Tryd.func39 rfl (rt := [2]) rfl (by simp [Tryd.ntmps39]) (by decide) (sites := fun _ => false) ?_
  apply run_sound 200
  simp -implicitDefEqProofs +decide only [go_sem]
  refine CallG.pure _ Tryd.call53 (itoa0_ok) (by first | rfl | (simp only [go_sem]; done) | (simp only [go_sem]; rfl)) (by first | rfl | (simp only [go_sem]; done) | (simp only [go_sem]; rfl)) ?_
  apply run_sound 200
  simp -implicitDefEqProofs +decide only [go_sem]
  exact endF.vals [(2, .str [48])] (.inr rfl) (vals_t (by simp -implicitDefEqProofs +decide only [go_sem] <;> rfl) rfl vals_nil) (fun l hp => by cases l <;> first | rfl | cases hp) rfl
def neg0 : In := ⟨3, 0, 0, ⟨false, [], []⟩⟩
theorem show0_ok : Pure Tryd.prog 33 [neg0.T] [.t (.str [110, 101, 103, 32, 48])] := by
  have ca := arity_ok 3
  rw [show arM 3 = 1 by decide] at ca
  refine Pure.intro Tryd.func33 rfl (rt := [2]) rfl (by simp [Tryd.ntmps33]) (by decide) (sites := fun _ => false) ?_
  apply run_sound 200
  simp -implicitDefEqProofs +decide only [go_sem, In.T, neg0]
  refine CallG.pure _ Tryd.call27 (ca) (by first | rfl | (simp only [go_sem]; done) | (simp only [go_sem]; rfl)) (by first | rfl | (simp only [go_sem]; done) | (simp only [go_sem]; rfl)) ?_
  apply run_sound 200
  simp -implicitDefEqProofs +decide only [go_sem]
  refine Goes.drawN mixed ?_
  simp -implicitDefEqProofs +decide only [go_sem]
  refine CallD.pure _ Tryd.call29 word3_ok (by first | rfl | (simp only [go_sem]; done) | (simp only [go_sem]; rfl)) (by first | rfl | (simp only [go_sem]; done) | (simp only [go_sem]; rfl)) ?_
  simp -implicitDefEqProofs +decide only [go_sem]
  refine CallD.pure _ Tryd.call39 itoa0s_ok (by first | rfl | (simp only [go_sem]; done) | (simp only [go_sem]; rfl)) (by first | rfl | (simp only [go_sem]; done) | (simp only [go_sem]; rfl)) ?_
  simp -implicitDefEqProofs +decide only [go_sem]
  refine ⟨.mk (by kernel_rfl), ?_⟩
  apply run_sound 200
  simp -implicitDefEqProofs +decide only [go_sem]
  exact endF.vals [(2, .str [110, 101, 103, 32, 48])] (.inr rfl) (vals_t (by simp -implicitDefEqProofs +decide only [go_sem] <;> rfl) rfl vals_nil) (fun l hp => by cases l <;> first | rfl | cases hp) rfl

def lc : List In := [⟨1, 0, 0, ⟨false, [], []⟩⟩, ⟨3, 0, 0, ⟨false, [], []⟩⟩, ⟨6, 0, 0, ⟨false, [], []⟩⟩]
def lc' : List In := [⟨1, 0, 0, ⟨false, [], []⟩⟩, ⟨6, 0, 0, ⟨false, [], []⟩⟩]
theorem lc_ok : LOK lc := fun i hi => by
  simp only [lc, List.mem_cons, List.not_mem_nil, or_false] at hi
  rcases hi with rfl | rfl | rfl <;> exact ⟨(fun _ h => by cases h), (fun _ h => by cases h), (by decide), (by decide)⟩
theorem lc_right : rightL lc = true := by decide

theorem same_ok : Pure Tryd.prog 12 [] [.t (.bool true)] := by
  have c1 := lTrim_ok lc [2, 9] lc_ok lc_right (by decide) (by decide)
  rw [show trimTo lc (needsL lc [2, 9]) lc.length = lc' by decide, show whereL lc (needsL lc [2, 9]) [2, 9] = [1, -1] by decide] at c1
  have c2 := lRight_ok lc lc_ok (by decide)
  rw [lc_right] at c2
  refine Pure.intro Tryd.func12 rfl (rt := [0]) rfl (by simp [Tryd.ntmps12]) (by decide) (sites := fun _ => false) ?_
  apply run_sound 200
  simp -implicitDefEqProofs +decide only [go_sem, List.range_zero, List.map_nil, List.nil_append, List.cons_append, List.append_assoc]
  refine CallG.pureS _ Tryd.call14 (c1) (by first | rfl | (simp only [go_sem]; done) | (simp only [go_sem]; rfl)) (by first | rfl | (simp only [go_sem]; done) | (simp only [go_sem]; rfl)) ?_
  apply run_sound 200
  simp -implicitDefEqProofs +decide only [go_sem, sL, sI, lc']
  refine CallG.pure _ Tryd.call21 (c2) (by first | rfl | (simp only [go_sem]; done) | (simp only [go_sem]; rfl)) (by first | rfl | (simp only [go_sem]; done) | (simp only [go_sem]; rfl)) ?_
  apply run_sound 200
  have t0 : Int.toNat 0 = 0 := rfl
  have t1 : Int.toNat 1 = 1 := rfl
  simp -implicitDefEqProofs +decide only [go_sem, In.T, sW, I, t0, t1, List.map_nil]
  refine CallG.pure _ Tryd.call33 (show0_ok) (by first | rfl | (simp only [go_sem]; done) | (simp only [go_sem]; rfl)) (by first | rfl | (simp only [go_sem]; done) | (simp only [go_sem]; rfl)) ?_
  apply run_sound 200
  simp -implicitDefEqProofs +decide only [go_sem]
  exact endF.vals [(0, .bool true)] (.inr rfl) (vals_t (by simp -implicitDefEqProofs +decide only [go_sem] <;> rfl) rfl vals_nil) (fun l hp => by cases l <;> first | rfl | cases hp) rfl
end Go.Fm
/- Lines, the plain law: both ways of marking find the same instructions. -/
namespace Go.Fm
set_option maxRecDepth 100000

/-- One instruction asks for another one. -/
def Edge (l : List In) (i j : Nat) : Prop := ∃ x, l[i]? = some x ∧ ((0 < arM x.op ∧ x.a = j) ∨ (1 < arM x.op ∧ x.b = j))
theorem Edge.lt {l : List In} (hg : GoodL l) {i j : Nat} (h : Edge l i j) : j < i ∧ i < l.length := by
  obtain ⟨x, hx, h | h⟩ := h
  · have := (hg i x hx).1 h.1
    have := (List.getElem?_eq_some_iff.1 hx).1
    omega
  · have := (hg i x hx).2 h.1
    have := (List.getElem?_eq_some_iff.1 hx).1
    omega
abbrev On (nd : List Bool) (j : Nat) : Prop := nd[j]? = some true
theorem On.lt {nd : List Bool} {j : Nat} (h : On nd j) : j < nd.length := (List.getElem?_eq_some_iff.1 h).1

structure Fix (l : List In) (outs : List Int) (nd : List Bool) : Prop where
  len : nd.length = l.length
  on : ∀ j, j < l.length → (On nd j ↔ ((j : Int) ∈ outs ∨ ∃ i, On nd i ∧ Edge l i j))

theorem on_iff {a b : List Bool} {j : Nat} (ha : j < a.length) (hb : j < b.length) (h : On a j ↔ On b j) : a[j]? = b[j]? := by
  rw [List.getElem?_eq_getElem ha, List.getElem?_eq_getElem hb] at *
  unfold On at h
  rw [List.getElem?_eq_getElem ha, List.getElem?_eq_getElem hb] at h
  cases h1 : a[j] <;> cases h2 : b[j] <;> simp_all

theorem Fix.unique {l : List In} {outs : List Int} {nd nd' : List Bool} (hg : GoodL l) (h : Fix l outs nd) (h' : Fix l outs nd') : nd = nd' := by
  have key : ∀ k j, l.length - j ≤ k → j < l.length → (On nd j ↔ On nd' j) := by
    intro k
    induction k with
    | zero => intro j h1 h2; omega
    | succ k ih =>
      intro j h1 h2
      rw [h.on j h2, h'.on j h2]
      refine or_congr_right ⟨fun ⟨i, hi, he⟩ => ?_, fun ⟨i, hi, he⟩ => ?_⟩
      · have := he.lt hg
        exact ⟨i, (ih i (by omega) this.2).1 hi, he⟩
      · have := he.lt hg
        exact ⟨i, (ih i (by omega) this.2).2 hi, he⟩
  refine List.ext_getElem? fun j => ?_
  rcases Nat.lt_or_ge j l.length with hj | hj
  · exact on_iff (by rw [h.len]; exact hj) (by rw [h'.len]; exact hj) (key _ j (Nat.le_refl _) hj)
  · rw [List.getElem?_eq_none (by rw [h.len]; exact hj), List.getElem?_eq_none (by rw [h'.len]; exact hj)]

theorem On.set {nd : List Bool} {i j : Nat} (hi : i < nd.length) : On (nd.set i true) j ↔ (j = i ∨ On nd j) := by
  unfold On
  rw [List.getElem?_set]
  by_cases e : i = j
  · subst e; simp [hi]
  · rw [if_neg e]
    exact ⟨.inr, fun h => h.elim (fun h => absurd h.symm e) id⟩

theorem set_self {α : Type} {l : List α} {i : Nat} {x : α} (h : l[i]? = some x) : l.set i x = l := by
  refine List.ext_getElem? fun j => ?_
  rw [List.getElem?_set]
  by_cases e : i = j
  · subst e; rw [if_pos rfl, if_pos (List.getElem?_eq_some_iff.1 h).1, h]
  · rw [if_neg e]

theorem markOuts_on (l : List In) (outs : List Int) {j : Nat} (hj : j < l.length) : On (markOuts l outs) j ↔ (j : Int) ∈ outs := by
  unfold markOuts
  suffices h : ∀ nd : List Bool, nd.length = l.length → (On (outs.foldl (fun (nd : List Bool) (o : Int) => if 0 ≤ o ∧ o < l.length then nd.set o.toNat true else nd) nd) j ↔ (On nd j ∨ (j : Int) ∈ outs)) by
    rw [h _ (by simp)]
    have hz : ¬ On (List.replicate l.length false) j := fun h => by
      unfold On at h
      rw [List.getElem?_replicate] at h
      split at h <;> cases h
    exact ⟨fun h => h.elim (fun h => absurd h hz) id, .inr⟩
  induction outs with
  | nil => intro nd _; simp
  | cons o r ih =>
    intro nd hn
    rw [List.foldl_cons, ih _ (by split <;> simp [hn])]
    by_cases ho : 0 ≤ o ∧ o < l.length
    · rw [if_pos ho, On.set (by rw [hn]; omega), List.mem_cons]
      have : j = o.toNat ↔ (j : Int) = o := by omega
      rw [this]
      exact ⟨fun h => h.elim (fun h => h.elim (fun h => .inr (.inl h)) .inl) (fun h => .inr (.inr h)), fun h => h.elim (fun h => .inl (.inr h)) (fun h => h.elim (fun h => .inl (.inl h)) .inr)⟩
    · rw [if_neg ho, List.mem_cons]
      have : ¬ (j : Int) = o := by omega
      simp [this]

theorem stepL_on {l : List In} (hg : GoodB l) {nd : List Bool} {k j : Nat} (hk : k < l.length) (hn : nd.length = l.length) : On (stepL l k nd) j ↔ (On nd j ∨ (On nd k ∧ Edge l k j)) := by
  obtain ⟨x, hx⟩ := getI hk
  obtain ⟨b, hb⟩ := getI (show k < nd.length by omega)
  have hgx := hg k x hx
  unfold stepL
  simp only [List.getD_eq_getElem?_getD, hb, hx, Option.getD_some]
  by_cases hc : b = true ∧ 0 < arM x.op
  · obtain ⟨rfl, h0⟩ := hc
    obtain ⟨g1, g2, g3, g4⟩ := hgx h0
    rw [if_pos ⟨rfl, h0⟩]
    have hk' : On nd k := hb
    have he : Edge l k j ↔ (j = x.a.toNat ∨ (1 < arM x.op ∧ j = x.b.toNat)) := by
      constructor
      · rintro ⟨y, hy, h⟩
        rw [hx] at hy; cases hy
        rcases h with h | h
        · left; omega
        · right; exact ⟨h.1, by omega⟩
      · rintro (h | h)
        · exact ⟨x, hx, .inl ⟨h0, by omega⟩⟩
        · exact ⟨x, hx, .inr ⟨h.1, by omega⟩⟩
    have har : decide (arM x.op = 2) = decide (1 < arM x.op) := decide_eq_decide.2 (by rcases arM_cases x.op with h | h | h | h <;> omega)
    rw [he, har]
    have hal : x.a.toNat < nd.length := by omega
    have hbl : x.b.toNat < (nd.set x.a.toNat true).length := by rw [List.length_set]; omega
    obtain ⟨c, hc⟩ := getI hbl
    rw [hc, Option.getD_some]
    have hs := On.set (j := j) hal
    by_cases h1 : 1 < arM x.op
    · rw [decide_eq_true h1, Bool.or_true, On.set hbl, hs]
      refine ⟨fun h => ?_, fun h => ?_⟩
      · rcases h with h | h | h
        · exact .inr ⟨hk', .inr ⟨h1, h⟩⟩
        · exact .inr ⟨hk', .inl h⟩
        · exact .inl h
      · rcases h with h | ⟨_, h | ⟨_, h⟩⟩
        · exact .inr (.inr h)
        · exact .inr (.inl h)
        · exact .inl h
    · rw [decide_eq_false h1, Bool.or_false, set_self hc, hs]
      refine ⟨fun h => ?_, fun h => ?_⟩
      · rcases h with h | h
        · exact .inr ⟨hk', .inl h⟩
        · exact .inl h
      · rcases h with h | ⟨_, h | ⟨h, _⟩⟩
        · exact .inr h
        · exact .inl h
        · exact absurd h h1
  · rw [if_neg hc]
    constructor
    · exact .inl
    · rintro (h | ⟨h1, y, hy, h2⟩)
      · exact h
      · rw [hx] at hy; cases hy
        unfold On at h1
        rw [hb] at h1; cases h1
        exfalso; apply hc; exact ⟨rfl, by omega⟩

theorem backL_fix {l : List In} (hg : GoodB l) {outs : List Int} : ∀ (k : Nat) (nd : List Bool), k ≤ l.length → nd.length = l.length →
    (∀ j, j < l.length → (On nd j ↔ ((j : Int) ∈ outs ∨ ∃ i, k ≤ i ∧ On nd i ∧ Edge l i j))) → Fix l outs (backL l k nd)
  | 0, nd, _, hn, h => ⟨hn, fun j hj => by rw [backL, h j hj]; simp⟩
  | k + 1, nd, hk, hn, h => by
    rw [backL]
    have hs : ∀ j, On (stepL l k nd) j ↔ (On nd j ∨ (On nd k ∧ Edge l k j)) := fun j => stepL_on hg (by omega) hn
    refine backL_fix hg k _ (by omega) (by rw [stepL_length, hn]) fun j hj => ?_
    rw [hs, h j hj]
    have hi : ∀ i, k ≤ i → (On (stepL l k nd) i ↔ On nd i) := fun i hi => by
      rw [hs]
      exact ⟨fun h => h.elim id fun h => absurd (h.2.lt hg.good).1 (by omega), .inl⟩
    constructor
    · rintro ((h | ⟨i, h1, h2, h3⟩) | ⟨h1, h2⟩)
      · exact .inl h
      · exact .inr ⟨i, by omega, (hi i (by omega)).2 h2, h3⟩
      · exact .inr ⟨k, Nat.le_refl _, (hi k (Nat.le_refl _)).2 h1, h2⟩
    · rintro (h | ⟨i, h1, h2, h3⟩)
      · exact .inl (.inl h)
      · have h5 := (hi i h1).1 h2
        rcases Nat.lt_or_ge k i with h4 | h4
        · exact .inl (.inr ⟨i, h4, h5, h3⟩)
        · obtain rfl : k = i := by omega
          exact .inr ⟨h5, h3⟩

theorem needsL_fix {l : List In} (hg : GoodB l) (outs : List Int) : Fix l outs (needsL l outs) := by
  refine backL_fix hg l.length _ (Nat.le_refl _) (markOuts_length l outs) fun j hj => ?_
  rw [markOuts_on l outs hj]
  constructor
  · exact .inl
  · rintro (h | ⟨i, h1, h2, h3⟩)
    · exact h
    · have := (h3.lt hg.good).2; omega

/-- What is marked and stands below is answered for. -/
def Cl (l : List In) (nd : List Bool) (m : Nat) : Prop := ∀ i, i < m → On nd i → ∀ j, Edge l i j → On nd j
structure RecOk (l : List In) (nd nd' : List Bool) (i : Nat) : Prop where
  mono : ∀ j, On nd j → On nd' j
  self : On nd' i
  above : ∀ j, i < j → On nd' j → On nd j
  cl : ∀ m, i < m → Cl l nd m → Cl l nd' m
  just : ∀ j, On nd' j → On nd j ∨ j = i ∨ ∃ k, On nd' k ∧ Edge l k j

theorem needsR_ok {l : List In} (hg : GoodL l) : ∀ (f : Nat) (nd : List Bool) (i : Nat), i < f → i < l.length → nd.length = l.length → RecOk l nd (needsR l f nd i) i
  | 0, _, _, h, _, _ => absurd h (Nat.not_lt_zero _)
  | f + 1, nd, i, hf, hi, hn => by
    obtain ⟨x, hx⟩ := getI hi
    obtain ⟨b, hb⟩ := getI (show i < nd.length by omega)
    obtain ⟨ga, gb⟩ := hg i x hx
    rw [needsR]
    simp only [List.getD_eq_getElem?_getD, hb, hx, Option.getD_some]
    cases b
    · rw [if_neg (by decide)]
      have hs : ∀ j, On (nd.set i true) j ↔ (j = i ∨ On nd j) := fun j => On.set (by omega)
      obtain ⟨n1, e1⟩ : ∃ n1, nd.set i true = n1 := ⟨_, rfl⟩
      rw [e1] at hs ⊢
      have l1 : n1.length = l.length := by rw [← e1, List.length_set, hn]
      -- the first operand
      obtain ⟨n2, e2⟩ : ∃ n2, (if 0 < arM x.op then needsR l f n1 x.a.toNat else n1) = n2 := ⟨_, rfl⟩
      rw [e2]
      have l2 : n2.length = l.length := by rw [← e2]; split <;> simp [needsR_length, l1]
      have q2 : (∀ j, On n1 j → On n2 j) ∧ (0 < arM x.op → On n2 x.a.toNat) ∧ (∀ j, i ≤ j → On n2 j → On n1 j) ∧ (Cl l n1 i → Cl l n2 i) ∧ (∀ j, On n2 j → On n1 j ∨ (0 < arM x.op ∧ j = x.a.toNat) ∨ ∃ k, On n2 k ∧ Edge l k j) := by
        by_cases h0 : 0 < arM x.op
        · rw [if_pos h0] at e2
          have := ga h0
          have R := needsR_ok hg f n1 x.a.toNat (by omega) (by omega) l1
          rw [e2] at R
          exact ⟨R.mono, fun _ => R.self, fun j hj => R.above j (by omega), R.cl i (by omega), fun j hj => (R.just j hj).imp_right fun h => h.imp_left fun h => ⟨h0, h⟩⟩
        · rw [if_neg h0] at e2
          subst e2
          exact ⟨fun _ h => h, fun h => absurd h h0, fun _ _ h => h, fun h => h, fun _ h => .inl h⟩
      obtain ⟨a1, a2, a3, a4, a5⟩ := q2
      -- the second one
      obtain ⟨n3, e3⟩ : ∃ n3, (if 1 < arM x.op then needsR l f n2 x.b.toNat else n2) = n3 := ⟨_, rfl⟩
      rw [e3]
      have q3 : (∀ j, On n2 j → On n3 j) ∧ (1 < arM x.op → On n3 x.b.toNat) ∧ (∀ j, i ≤ j → On n3 j → On n2 j) ∧ (Cl l n2 i → Cl l n3 i) ∧ (∀ j, On n3 j → On n2 j ∨ (1 < arM x.op ∧ j = x.b.toNat) ∨ ∃ k, On n3 k ∧ Edge l k j) := by
        by_cases h0 : 1 < arM x.op
        · rw [if_pos h0] at e3
          have := gb h0
          have R := needsR_ok hg f n2 x.b.toNat (by omega) (by omega) l2
          rw [e3] at R
          exact ⟨R.mono, fun _ => R.self, fun j hj => R.above j (by omega), R.cl i (by omega), fun j hj => (R.just j hj).imp_right fun h => h.imp_left fun h => ⟨h0, h⟩⟩
        · rw [if_neg h0] at e3
          subst e3
          exact ⟨fun _ h => h, fun h => absurd h h0, fun _ _ h => h, fun h => h, fun _ h => .inl h⟩
      obtain ⟨b1, b2, b3, b4, b5⟩ := q3
      have on_i : On n3 i := b1 _ (a1 _ ((hs i).2 (.inl rfl)))
      have edge_i : ∀ j, Edge l i j → On n3 j := by
        rintro j ⟨y, hy, h⟩
        rw [hx] at hy; cases hy
        rcases h with ⟨h1, h2⟩ | ⟨h1, h2⟩
        · have := a2 h1
          rw [h2] at this
          exact b1 _ this
        · have := b2 h1
          rw [h2] at this
          exact this
      have iedge_a : 0 < arM x.op → Edge l i x.a.toNat := fun h => ⟨x, hx, .inl ⟨h, by have := ga h; omega⟩⟩
      have iedge_b : 1 < arM x.op → Edge l i x.b.toNat := fun h => ⟨x, hx, .inr ⟨h, by have := gb h; omega⟩⟩
      refine ⟨fun j h => b1 _ (a1 _ ((hs j).2 (.inr h))), on_i, fun j hj h => ?_, fun m hm hc => ?_, fun j h => ?_⟩
      · have := (hs j).1 (a3 j (by omega) (b3 j (by omega) h))
        rcases this with h | h
        · omega
        · exact h
      · have c1 : Cl l n1 i := fun k hk hon j he => (hs j).2 (.inr (hc k (by omega) (((hs k).1 hon).resolve_left (by omega)) j he))
        have c3 := b4 (a4 c1)
        intro k hk hon j he
        rcases Nat.lt_trichotomy k i with h | h | h
        · exact c3 k h hon j he
        · subst h; exact edge_i j he
        · have hn0 := (hs k).1 (a3 k (by omega) (b3 k (by omega) hon))
          have hn0 := hn0.resolve_left (by omega)
          exact b1 _ (a1 _ ((hs j).2 (.inr (hc k hk hn0 j he))))
      · rcases b5 j h with h | ⟨h1, h2⟩ | h
        · rcases a5 j h with h | ⟨h1, h2⟩ | ⟨k, h1, h2⟩
          · exact ((hs j).1 h).elim (fun h => .inr (.inl h)) .inl
          · subst h2; exact .inr (.inr ⟨i, on_i, iedge_a h1⟩)
          · exact .inr (.inr ⟨k, b1 _ h1, h2⟩)
        · subst h2; exact .inr (.inr ⟨i, on_i, iedge_b h1⟩)
        · exact .inr (.inr h)
    · rw [if_pos rfl]
      exact ⟨fun _ h => h, hb, fun _ _ h => h, fun _ _ h => h, fun _ h => .inl h⟩

theorem needsOut_fix {l : List In} (hg : GoodL l) (outs : List Int) : Fix l outs (needsOut l outs) := by
  have key : ∀ (rest pre : List Int) (nd : List Bool), nd.length = l.length → Cl l nd l.length → (∀ j, j < l.length → (j : Int) ∈ pre → On nd j) → (∀ j, On nd j → (j : Int) ∈ pre ∨ ∃ k, On nd k ∧ Edge l k j) →
      Fix l (pre ++ rest) (rest.foldl (fun (nd : List Bool) (o : Int) => if 0 ≤ o ∧ o < l.length then needsR l l.length nd o.toNat else nd) nd) := by
    intro rest
    induction rest with
    | nil =>
      intro pre nd hn hc h1 h2
      rw [List.append_nil, List.foldl_nil]
      exact ⟨hn, fun j hj => ⟨h2 j, fun h => h.elim (h1 j hj) fun ⟨k, hk, he⟩ => hc k (he.lt hg).2 hk j he⟩⟩
    | cons o r ih =>
      intro pre nd hn hc h1 h2
      rw [List.foldl_cons]
      have := ih (pre ++ [o]) (if 0 ≤ o ∧ o < l.length then needsR l l.length nd o.toNat else nd)
      rw [List.append_assoc] at this
      refine this (by split <;> simp [needsR_length, hn]) ?_ ?_ ?_
      · split
        · rename_i ho
          exact (needsR_ok hg l.length nd o.toNat (by omega) (by omega) hn).cl _ (by omega) hc
        · exact hc
      · intro j hj hm
        rw [List.mem_append, List.mem_singleton] at hm
        split
        · rename_i ho
          have R := needsR_ok hg l.length nd o.toNat (by omega) (by omega) hn
          rcases hm with h | h
          · exact R.mono j (h1 j hj h)
          · have e : j = o.toNat := by omega
            subst e
            exact R.self
        · rename_i ho
          rcases hm with h | h
          · exact h1 j hj h
          · omega
      · intro j
        split
        · rename_i ho
          have R := needsR_ok hg l.length nd o.toNat (by omega) (by omega) hn
          intro hj
          rcases R.just j hj with h | h | h
          · rcases h2 j h with h | ⟨k, h3, h4⟩
            · exact .inl (List.mem_append_left _ h)
            · exact .inr ⟨k, R.mono k h3, h4⟩
          · exact .inl (List.mem_append_right _ (by rw [List.mem_singleton]; omega))
          · exact .inr h
        · intro hj
          rcases h2 j hj with h | h
          · exact .inl (List.mem_append_left _ h)
          · exact .inr h
  have hz : ∀ j, ¬ On (List.replicate l.length false) j := fun j h => by
    unfold On at h
    rw [List.getElem?_replicate] at h
    split at h <;> cases h
  exact key outs [] (List.replicate l.length false) (by simp) (fun i _ h => absurd h (hz i)) (fun j _ h => by cases h) (fun j h => absurd h (hz j))

theorem needs_same {l : List In} (hg : GoodB l) (outs : List Int) : needsOut l outs = needsL l outs := Fix.unique hg.good (needsOut_fix hg.good outs) (needsL_fix hg outs)
end Go.Fm
/- Lines, the plain law: what is trimmed is a program, and trimmed once more it is the same. -/
namespace Go.Fm
set_option maxRecDepth 100000

theorem trimTo_prefix {l : List In} {nd : List Bool} {k k' : Nat} (h : k ≤ k') : ∃ t, trimTo l nd k' = trimTo l nd k ++ t := by
  induction k' with
  | zero => obtain rfl : k = 0 := by omega
            exact ⟨[], by simp⟩
  | succ k' ih =>
    rcases Nat.lt_or_ge k' k with h1 | h1
    · obtain rfl : k = k' + 1 := by omega
      exact ⟨[], by simp⟩
    · obtain ⟨t, ht⟩ := ih h1
      exact ⟨t ++ _, by rw [trimTo, ht, List.append_assoc]⟩

theorem trim_get {l : List In} {nd : List Bool} (hn : nd.length = l.length) {i : Nat} {x : In} (hx : l[i]? = some x) (ho : On nd i) : (trimTo l nd l.length)[atN nd i]? = some (reL nd x) := by
  have hi := (List.getElem?_eq_some_iff.1 hx).1
  obtain ⟨t, ht⟩ := trimTo_prefix (l := l) (nd := nd) (show i + 1 ≤ l.length by omega)
  have hl := trimTo_length l nd i (by omega)
  rw [ht, trimTo_step hx ho, if_pos rfl, List.append_assoc, List.getElem?_append_right (by omega), hl, Nat.sub_self]
  rfl

theorem trim_inv {l : List In} {nd : List Bool} (hn : nd.length = l.length) : ∀ (k : Nat), k ≤ l.length → ∀ (j : Nat) (y : In), (trimTo l nd k)[j]? = some y → ∃ i x, i < k ∧ l[i]? = some x ∧ On nd i ∧ j = atN nd i ∧ y = reL nd x
  | 0, _, j, y, h => by simp [trimTo] at h
  | k + 1, hk, j, y, h => by
    obtain ⟨x, hx⟩ := getI (show k < l.length by omega)
    obtain ⟨b, hb⟩ := getI (show k < nd.length by omega)
    have hl := trimTo_length l nd k (by omega)
    rw [trimTo_step hx hb] at h
    rcases Nat.lt_or_ge j (trimTo l nd k).length with hj | hj
    · rw [List.getElem?_append_left hj] at h
      obtain ⟨i, x, h1, h2⟩ := trim_inv hn k (by omega) j y h
      exact ⟨i, x, by omega, h2⟩
    · rw [List.getElem?_append_right hj] at h
      cases b
      · simp at h
      · rw [if_pos rfl] at h
        have h3 := (List.getElem?_eq_some_iff.1 h).1
        simp only [List.length_singleton] at h3
        have h4 : j - (trimTo l nd k).length = 0 := by omega
        rw [h4] at h
        cases h
        exact ⟨k, x, by omega, hx, hb, by omega, rfl⟩

theorem fitsAll_of {l : List In} : ∀ {k : Nat}, (∀ i x, l[i]? = some x → fitsM x (k + i) = true) → fitsAll k l = true := by
  induction l with
  | nil => intro k _; rfl
  | cons y r ih =>
    intro k h
    rw [fitsAll, Bool.and_eq_true]
    refine ⟨h 0 y rfl, ih fun i x hx => ?_⟩
    have := h (i + 1) x hx
    rwa [show k + 1 + i = k + (i + 1) by omega]

section
variable {l : List In} {outs : List Int} {nd : List Bool}

theorem atN_lt {i : Nat} (h : On nd i) {j : Nat} (hij : i < j) : atN nd i < atN nd j := by
  have h1 := atN_step h
  rw [if_pos rfl] at h1
  have h2 := atN_mono (nd := nd) (show i + 1 ≤ j by omega)
  omega

theorem on_edge (hg : GoodB l) (F : Fix l outs nd) {i j : Nat} (h : On nd i) (he : Edge l i j) : On nd j := by
  have := he.lt hg.good
  exact (F.on j (by omega)).2 (.inr ⟨i, h, he⟩)

theorem trim_right (hr : rightL l = true) (F : Fix l outs nd) : rightL (trimTo l nd l.length) = true := by
  have hg := right_good hr
  have hr0 := hr
  unfold rightL at hr ⊢
  rw [Bool.and_eq_true] at hr ⊢
  have hlen := trimTo_length l nd l.length (by rw [F.len]; exact Nat.le_refl _)
  have hle := atN_le nd l.length
  refine ⟨decide_eq_true (by have := of_decide_eq_true hr.1; omega), fitsAll_of fun j y hy => ?_⟩
  rw [Nat.zero_add]
  obtain ⟨i, x, h1, h2, h3, rfl, rfl⟩ := trim_inv F.len l.length (Nat.le_refl _) j y hy
  have hf := fitsAll_get hr.2 h2
  rw [Nat.zero_add] at hf
  have hq : fitsQ x.op x.a x.b i (noneM x.x).toNat x.x.right.toNat := of_decide_eq_true hf
  refine decide_eq_true ?_
  show fitsQ x.op (if 0 < arM x.op then ((atN nd x.a.toNat : Nat) : Int) else x.a) (if 1 < arM x.op then ((atN nd x.b.toNat : Nat) : Int) else x.b) (atN nd i) (noneM x.x).toNat x.x.right.toNat
  have ha : 0 < arM x.op → atN nd x.a.toNat < atN nd i := fun h0 => by
    have := hg i x h2 h0
    exact atN_lt (on_edge hg F h3 ⟨x, h2, .inl ⟨h0, by omega⟩⟩) (by omega)
  have hb : 1 < arM x.op → atN nd x.b.toNat < atN nd i := fun h0 => by
    have := hg i x h2 (by omega)
    exact atN_lt (on_edge hg F h3 ⟨x, h2, .inr ⟨h0, by omega⟩⟩) (by omega)
  generalize (noneM x.x).toNat = zn at hq ⊢
  generalize x.x.right.toNat = zr at hq ⊢
  clear hf hr hr0 hlen hle
  unfold fitsQ at hq ⊢
  rcases arM_cases x.op with ⟨e, h⟩ | ⟨e, h⟩ | ⟨e, h⟩ | ⟨e, h⟩ <;> rw [e] at ha hb ⊢
  · rw [if_neg (by decide), if_neg (by decide)]
    rcases hq with hq | hq | hq | hq
    · exact .inl hq
    · exact .inr (.inl hq)
    · exfalso; omega
    · exfalso; omega
  · rw [if_pos (by decide), if_neg (by decide)]
    have ha := ha (by decide)
    rcases hq with hq | hq | hq | hq
    · exfalso; omega
    · exfalso; omega
    · exact .inr (.inr (.inl ⟨hq.1, by omega, by omega, hq.2.2.2.1, hq.2.2.2.2⟩))
    · exfalso; omega
  · rw [if_pos (by decide), if_pos (by decide)]
    have ha := ha (by decide)
    have hb := hb (by decide)
    rcases hq with hq | hq | hq | hq
    · exfalso; omega
    · exfalso; omega
    · exfalso; omega
    · exact .inr (.inr (.inr ⟨hq.1, hq.2.1, by omega, by omega, by omega, by omega, hq.2.2.2.2.2.2⟩))
  · rcases hq with hq | hq | hq | hq <;> (exfalso; omega)

theorem atN_all {m a : Nat} (h : a ≤ m) : atN (List.replicate m true) a = a := by
  unfold atN
  rw [List.take_replicate, Nat.min_eq_left h, List.count_replicate_self]

theorem trim_fix (hr : rightL l = true) (F : Fix l outs nd) : Fix (trimTo l nd l.length) (whereL l nd outs) (List.replicate (trimTo l nd l.length).length true) := by
  refine ⟨by simp, fun j hj => ⟨fun _ => ?_, fun _ => by simp [On, hj]⟩⟩
  obtain ⟨y, hy⟩ := getI hj
  obtain ⟨i, x, h1, h2, h3, rfl, rfl⟩ := trim_inv F.len l.length (Nat.le_refl _) j y hy
  rcases (F.on i h1).1 h3 with h | ⟨k, hk, z, hz, he⟩
  · left
    unfold whereL
    rw [List.mem_map]
    refine ⟨i, h, ?_⟩
    unfold wh
    rw [if_neg (by omega), Int.toNat_natCast]
  · right
    have hg := trim_get F.len hz hk
    have hkl := (List.getElem?_eq_some_iff.1 hg).1
    refine ⟨atN nd k, by simp [On, hkl], reL nd z, hg, ?_⟩
    rcases he with ⟨h4, h5⟩ | ⟨h4, h5⟩
    · left
      refine ⟨h4, ?_⟩
      show (if 0 < arM z.op then ((atN nd z.a.toNat : Nat) : Int) else z.a) = _
      rw [if_pos h4, h5, Int.toNat_natCast]
    · right
      refine ⟨h4, ?_⟩
      show (if 1 < arM z.op then ((atN nd z.b.toNat : Nat) : Int) else z.b) = _
      rw [if_pos h4, h5, Int.toNat_natCast]

theorem trim_again (hr : rightL l = true) (F : Fix l outs nd) : needsL (trimTo l nd l.length) (whereL l nd outs) = List.replicate (trimTo l nd l.length).length true :=
  Fix.unique (right_good (trim_right hr F)).good (needsL_fix (right_good (trim_right hr F)) _) (trim_fix hr F)

theorem trim_all {p : List In} (hr : rightL p = true) : trimTo p (List.replicate p.length true) p.length = p := by
  have hg := right_good hr
  have key : ∀ k, k ≤ p.length → trimTo p (List.replicate p.length true) k = p.take k := by
    intro k
    induction k with
    | zero => intro _; simp [trimTo]
    | succ k ih =>
      intro hk
      obtain ⟨x, hx⟩ := getI (show k < p.length by omega)
      rw [trimTo_step (b := true) hx (by rw [List.getElem?_replicate, if_pos (by omega)]), ih (by omega), if_pos rfl, take_snoc hx]
      have : reL (List.replicate p.length true) x = x := by
        have hgx := hg k x hx
        unfold reL
        obtain ⟨op, a, b, y⟩ := x
        simp only [In.mk.injEq, true_and, and_true]
        dsimp only at hgx
        constructor
        · split
          · rename_i h; have := hgx h; rw [atN_all (by omega)]; omega
          · rfl
        · split
          · rename_i h; have := hgx (by omega); rw [atN_all (by omega)]; omega
          · rfl
      rw [this]
  rw [key _ (Nat.le_refl _), List.take_length]

theorem where_all (F : Fix l outs nd) : whereL (trimTo l nd l.length) (List.replicate (trimTo l nd l.length).length true) (whereL l nd outs) = whereL l nd outs := by
  have hlen := trimTo_length l nd l.length (by rw [F.len]; exact Nat.le_refl _)
  unfold whereL
  rw [List.map_map]
  refine List.map_congr_left fun o ho => ?_
  show wh _ _ (wh l nd o) = wh l nd o
  by_cases h : o < 0 ∨ (l.length : Int) ≤ o
  · rw [show wh l nd o = -1 from if_pos h]
    exact if_pos (.inl (by omega))
  · rw [show wh l nd o = ((atN nd o.toNat : Nat) : Int) from if_neg h]
    have h1 : On nd o.toNat := (F.on o.toNat (by omega)).2 (.inl (by rwa [show ((o.toNat : Nat) : Int) = o by omega]))
    have h2 := atN_lt h1 (show o.toNat < l.length by omega)
    unfold wh
    rw [if_neg (by omega), Int.toNat_natCast, atN_all (by omega)]

theorem trim_counts (hn : nd.length = l.length) : countsL (trimTo l nd l.length) ≤ countsL l := by
  have key : ∀ k, k ≤ l.length → countsL (trimTo l nd k) ≤ countsL (l.take k) := by
    intro k
    induction k with
    | zero => intro _; exact Nat.le_refl _
    | succ k ih =>
      intro hk
      obtain ⟨x, hx⟩ := getI (show k < l.length by omega)
      obtain ⟨b, hb⟩ := getI (show k < nd.length by omega)
      have := ih (by omega)
      rw [countsL_step hx, trimTo_step hx hb]
      have e : countsL (trimTo l nd k ++ (if b = true then [reL nd x] else [])) = countsL (trimTo l nd k) + (if b = true then (if 0 < arM x.op then 1 else 0) else 0) := by
        unfold countsL
        rw [List.countP_append]
        cases b
        · simp
        · by_cases h : 0 < arM x.op <;> simp [reL, h]
      rw [e]
      split <;> omega
  have := key l.length (Nat.le_refl _)
  rwa [List.take_length] at this

theorem inputs_snoc (p : List In) (y : In) : inputsL (p ++ [y]) = if y.op = 1 ∧ (inputsL p : Int) ≤ y.a ∧ y.a < 65536 then y.a.toNat + 1 else inputsL p := by
  unfold inputsL; rw [List.foldl_append]; rfl
theorem trim_inputs (hn : nd.length = l.length) : inputsL (trimTo l nd l.length) ≤ inputsL l := by
  have key : ∀ k, k ≤ l.length → inputsL (trimTo l nd k) ≤ inputsL (l.take k) := by
    intro k
    induction k with
    | zero => intro _; exact Nat.le_refl _
    | succ k ih =>
      intro hk
      obtain ⟨x, hx⟩ := getI (show k < l.length by omega)
      obtain ⟨b, hb⟩ := getI (show k < nd.length by omega)
      have h1 := ih (by omega)
      rw [inputsL_step hx, trimTo_step hx hb]
      cases b
      · rw [if_neg (by decide), List.append_nil]
        split <;> omega
      · rw [if_pos rfl, inputs_snoc]
        by_cases hop : x.op = 1
        · have : (reL nd x).a = x.a := by
            show (if 0 < arM x.op then ((atN nd x.a.toNat : Nat) : Int) else x.a) = _
            rw [hop, if_neg (by decide)]
          rw [this, show (reL nd x).op = x.op from rfl]
          split <;> split <;> omega
        · rw [if_neg (fun h => hop h.1), if_neg (fun h => hop h.1)]
          exact h1
  have := key l.length (Nat.le_refl _)
  rwa [List.take_length] at this

theorem trim_lok (hl : LOK l) (hn : nd.length = l.length) : LOK (trimTo l nd l.length) := fun y hy => by
  obtain ⟨j, hj⟩ := List.getElem?_of_mem hy
  obtain ⟨i, x, _, h2, _, _, rfl⟩ := trim_inv hn l.length (Nat.le_refl _) j y hj
  exact hl x (List.mem_of_getElem? h2)
end
end Go.Fm
/- Lines: the two laws' functions answer true. -/
namespace Go.Fm
open Go.Proofs
set_option maxRecDepth 100000

theorem noPtr_sIU (l : List Int) : noPtr (.slice (l.map I)) = true := noPtr_sI l
attribute [go_sem] noPtr_sIU
def LW (l : List In) : Prop := ∀ i ∈ l, WOK i.x.p ∧ WOK i.x.q
theorem lok_of {l : List In} (hw : LW l) (hm : manyL l = false) : LOK l ∧ l.length ≤ 300 := by
  unfold manyL at hm
  rw [Bool.or_eq_false_iff] at hm
  have h2 := of_decide_eq_false hm.2
  refine ⟨fun i hi => ?_, by omega⟩
  have h1 : longM i.x 8 = false := by
    cases h : longM i.x 8
    · rfl
    · rw [List.any_eq_true.2 ⟨i, hi, h⟩] at hm; cases hm.1
  have h1 := of_decide_eq_false h1
  exact ⟨(hw i hi).1, (hw i hi).2, by omega, by omega⟩
theorem sel_b {b : Bool} {p q : HP} (h1 : b = true → p.p) (h2 : b = false → q.p) : @selP b p q := ⟨h1, h2⟩

theorem lineTrims_fn (l : List In) (outs : List Int) (hw : LW l) (hn : l.length < 4000000000000000000) : Pure Tryd.prog 4 [sL l, sI outs] [.t (.bool true)] := by
  have cm := many_ok l hn
  refine Pure.intro Tryd.func4 rfl (rt := [4]) rfl (by simp [Tryd.ntmps4]) (by decide) (sites := fun _ => false) ?_
  apply run_sound 200
  simp -implicitDefEqProofs +decide only [go_sem]
  refine CallG.pure _ Tryd.call11 (cm) (by first | rfl | (simp only [go_sem]; done) | (simp only [go_sem]; rfl)) (by first | rfl | (simp only [go_sem]; done) | (simp only [go_sem]; rfl)) ?_
  apply run_sound 200
  simp -implicitDefEqProofs +decide only [go_sem, sI]
  cases hm : manyL l
  rotate_left
  · simp -implicitDefEqProofs +decide only [go_sem]
    refine CallG.pure _ Tryd.call12 (same_ok) (by first | rfl | (simp only [go_sem]; done) | (simp only [go_sem]; rfl)) (by first | rfl | (simp only [go_sem]; done) | (simp only [go_sem]; rfl)) ?_
    apply run_sound 200
    simp -implicitDefEqProofs +decide only [go_sem]
    exact endF.vals [(4, .bool true)] (.inr rfl) (vals_t (by simp -implicitDefEqProofs +decide only [go_sem] <;> rfl) rfl vals_nil) (fun l hp => by cases l <;> first | rfl | cases hp) rfl
  simp -implicitDefEqProofs +decide only [go_sem]
  obtain ⟨hl, hn3⟩ := lok_of hw hm
  refine selP_dec (fun h1 => ?_) (fun h1 => ?_)
  · simp -implicitDefEqProofs +decide only [go_sem, h1]
    refine CallG.pure _ Tryd.call12 (same_ok) (by first | rfl | (simp only [go_sem]; done) | (simp only [go_sem]; rfl)) (by first | rfl | (simp only [go_sem]; done) | (simp only [go_sem]; rfl)) ?_
    apply run_sound 200
    simp -implicitDefEqProofs +decide only [go_sem]
    exact endF.vals [(4, .bool true)] (.inr rfl) (vals_t (by simp -implicitDefEqProofs +decide only [go_sem] <;> rfl) rfl vals_nil) (fun l hp => by cases l <;> first | rfl | cases hp) rfl
  have ho : outs.length ≤ 100 := by omega
  have c1 := lNeeds_ok l outs hl (by omega) (by omega)
  have c3 := rRight_ok15 l hl (by omega)
  simp -implicitDefEqProofs +decide only [go_sem]
  refine CallG.pureS _ Tryd.call13 (c1) (by first | rfl | (simp only [go_sem]; done) | (simp only [go_sem]; rfl)) (by first | rfl | (simp only [go_sem]; done) | (simp only [go_sem]; rfl)) ?_
  apply run_sound 200
  simp -implicitDefEqProofs +decide only [go_sem]
  cases hr : rightL l
  · have c2 := lTrim_no l outs hl hr (by omega) (by omega)
    have hnm : needsM l outs = [] := if_neg (by rw [hr]; decide)
    rw [hr] at c3
    refine CallG.pureS _ Tryd.call14 (c2) (by first | rfl | (simp only [go_sem]; done) | (simp only [go_sem]; rfl)) (by first | rfl | (simp only [go_sem]; done) | (simp only [go_sem]; rfl)) ?_
    apply run_sound 200
    simp -implicitDefEqProofs +decide only [go_sem]
    refine CallG.pure _ Tryd.call15 (c3) (by first | rfl | (simp only [go_sem]; done) | (simp only [go_sem]; rfl)) (by first | rfl | (simp only [go_sem]; done) | (simp only [go_sem]; rfl)) ?_
    apply run_sound 200
    simp -implicitDefEqProofs +decide only [go_sem, hnm, sB, sL, sI, List.map_nil, List.length_nil]
    refine CallG.pure _ Tryd.call12 (same_ok) (by first | rfl | (simp only [go_sem]; done) | (simp only [go_sem]; rfl)) (by first | rfl | (simp only [go_sem]; done) | (simp only [go_sem]; rfl)) ?_
    apply run_sound 200
    simp -implicitDefEqProofs +decide only [go_sem]
    exact endF.vals [(4, .bool true)] (.inr rfl) (vals_t (by simp -implicitDefEqProofs +decide only [go_sem] <;> rfl) rfl vals_nil) (fun l hp => by cases l <;> first | rfl | cases hp) rfl
  · have c2 := lTrim_ok l outs hl hr (by omega) (by omega)
    have hg := right_good hr
    have hnm : needsM l outs = needsL l outs := if_pos hr
    rw [hr] at c3
    have c4 := rTrim15_ok l outs hg (by omega) (by omega)
    have c5 := rNeeds_ok l outs hg.good (by omega) (by omega)
    rw [needs_same hg] at c4 c5
    have hnl := needsL_length l outs
    have hlt := trim_lok hl hnl
    have htl := trimTo_length l (needsL l outs) l.length (by omega)
    have hal := atN_le (needsL l outs) l.length
    have hwl := where_length l (needsL l outs) outs
    have c6 := bools_ok (needsL l outs) (needsL l outs) (by omega)
    have c7 := same_ok15 (trimTo l (needsL l outs) l.length) (trimTo l (needsL l outs) l.length) hlt hlt (by omega)
    have c8 := ints_ok (whereL l (needsL l outs) outs) (whereL l (needsL l outs) outs) (by omega)
    rw [decide_eq_true rfl] at c6 c7 c8
    refine CallG.pureS _ Tryd.call14 (c2) (by first | rfl | (simp only [go_sem]; done) | (simp only [go_sem]; rfl)) (by first | rfl | (simp only [go_sem]; done) | (simp only [go_sem]; rfl)) ?_
    apply run_sound 200
    simp -implicitDefEqProofs +decide only [go_sem]
    refine CallG.pure _ Tryd.call15 (c3) (by first | rfl | (simp only [go_sem]; done) | (simp only [go_sem]; rfl)) (by first | rfl | (simp only [go_sem]; done) | (simp only [go_sem]; rfl)) ?_
    apply run_sound 200
    simp -implicitDefEqProofs +decide only [go_sem]
    refine CallG.pureS _ Tryd.call16 (c4) (by first | rfl | (simp only [go_sem]; done) | (simp only [go_sem]; rfl)) (by first | rfl | (simp only [go_sem]; done) | (simp only [go_sem]; rfl)) ?_
    apply run_sound 200
    simp -implicitDefEqProofs +decide only [go_sem, hnm]
    refine CallG.pureS _ Tryd.call18 (c5) (by first | rfl | (simp only [go_sem]; done) | (simp only [go_sem]; rfl)) (by first | rfl | (simp only [go_sem]; done) | (simp only [go_sem]; rfl)) ?_
    apply run_sound 200
    simp -implicitDefEqProofs +decide only [go_sem, hnm]
    refine CallG.pure _ Tryd.call17 (c6) (by first | rfl | (simp only [go_sem]; done) | (simp only [go_sem]; rfl)) (by first | rfl | (simp only [go_sem]; done) | (simp only [go_sem]; rfl)) ?_
    apply run_sound 200
    simp -implicitDefEqProofs +decide only [go_sem]
    refine CallG.pure _ Tryd.call19 (c7) (by first | rfl | (simp only [go_sem]; done) | (simp only [go_sem]; rfl)) (by first | rfl | (simp only [go_sem]; done) | (simp only [go_sem]; rfl)) ?_
    apply run_sound 200
    simp -implicitDefEqProofs +decide only [go_sem]
    refine CallG.pure _ Tryd.call20 (c8) (by first | rfl | (simp only [go_sem]; done) | (simp only [go_sem]; rfl)) (by first | rfl | (simp only [go_sem]; done) | (simp only [go_sem]; rfl)) ?_
    apply run_sound 200
    simp -implicitDefEqProofs +decide only [go_sem]
    refine CallG.pure _ Tryd.call12 (same_ok) (by first | rfl | (simp only [go_sem]; done) | (simp only [go_sem]; rfl)) (by first | rfl | (simp only [go_sem]; done) | (simp only [go_sem]; rfl)) ?_
    apply run_sound 200
    simp -implicitDefEqProofs +decide only [go_sem]
    exact endF.vals [(4, .bool true)] (.inr rfl) (vals_t (by simp -implicitDefEqProofs +decide only [go_sem] <;> rfl) rfl vals_nil) (fun l hp => by cases l <;> first | rfl | cases hp) rfl

theorem lineAgain_fn (l : List In) (outs : List Int) (hw : LW l) (hn : l.length < 4000000000000000000) : Pure Tryd.prog 5 [sL l, sI outs] [.t (.bool true)] := by
  have cm := many_ok l hn
  refine Pure.intro Tryd.func5 rfl (rt := [4]) rfl (by simp [Tryd.ntmps5]) (by decide) (sites := fun _ => false) ?_
  apply run_sound 200
  simp -implicitDefEqProofs +decide only [go_sem]
  refine CallG.pure _ Tryd.call11 (cm) (by first | rfl | (simp only [go_sem]; done) | (simp only [go_sem]; rfl)) (by first | rfl | (simp only [go_sem]; done) | (simp only [go_sem]; rfl)) ?_
  apply run_sound 200
  simp -implicitDefEqProofs +decide only [go_sem, sI]
  cases hm : manyL l
  rotate_left
  · simp -implicitDefEqProofs +decide only [go_sem]
    refine CallG.pure _ Tryd.call12 (same_ok) (by first | rfl | (simp only [go_sem]; done) | (simp only [go_sem]; rfl)) (by first | rfl | (simp only [go_sem]; done) | (simp only [go_sem]; rfl)) ?_
    apply run_sound 200
    simp -implicitDefEqProofs +decide only [go_sem]
    exact endF.vals [(4, .bool true)] (.inr rfl) (vals_t (by simp -implicitDefEqProofs +decide only [go_sem] <;> rfl) rfl vals_nil) (fun l hp => by cases l <;> first | rfl | cases hp) rfl
  simp -implicitDefEqProofs +decide only [go_sem]
  obtain ⟨hl, hn3⟩ := lok_of hw hm
  refine selP_dec (fun h1 => ?_) (fun h1 => ?_)
  · simp -implicitDefEqProofs +decide only [go_sem, h1]
    refine CallG.pure _ Tryd.call12 (same_ok) (by first | rfl | (simp only [go_sem]; done) | (simp only [go_sem]; rfl)) (by first | rfl | (simp only [go_sem]; done) | (simp only [go_sem]; rfl)) ?_
    apply run_sound 200
    simp -implicitDefEqProofs +decide only [go_sem]
    exact endF.vals [(4, .bool true)] (.inr rfl) (vals_t (by simp -implicitDefEqProofs +decide only [go_sem] <;> rfl) rfl vals_nil) (fun l hp => by cases l <;> first | rfl | cases hp) rfl
  have ho : outs.length ≤ 100 := by omega
  have c3 := rRight_ok15 l hl (by omega)
  simp -implicitDefEqProofs +decide only [go_sem, h1]
  refine CallG.pure _ Tryd.call15 (c3) (by first | rfl | (simp only [go_sem]; done) | (simp only [go_sem]; rfl)) (by first | rfl | (simp only [go_sem]; done) | (simp only [go_sem]; rfl)) ?_
  apply run_sound 200
  simp -implicitDefEqProofs +decide only [go_sem]
  cases hr : rightL l
  · simp -implicitDefEqProofs +decide only [go_sem]
    refine CallG.pure _ Tryd.call12 (same_ok) (by first | rfl | (simp only [go_sem]; done) | (simp only [go_sem]; rfl)) (by first | rfl | (simp only [go_sem]; done) | (simp only [go_sem]; rfl)) ?_
    apply run_sound 200
    simp -implicitDefEqProofs +decide only [go_sem]
    exact endF.vals [(4, .bool true)] (.inr rfl) (vals_t (by simp -implicitDefEqProofs +decide only [go_sem] <;> rfl) rfl vals_nil) (fun l hp => by cases l <;> first | rfl | cases hp) rfl
  have hg := right_good hr
  have F := needsL_fix hg outs
  have c2 := lTrim_ok l outs hl hr (by omega) (by omega)
  have hnl := needsL_length l outs
  have hlt := trim_lok hl hnl
  have htl := trimTo_length l (needsL l outs) l.length (by omega)
  have hal := atN_le (needsL l outs) l.length
  have hwl := where_length l (needsL l outs) outs
  have hrp := trim_right hr F
  have hag := trim_again hr F
  have hwa := where_all F
  have hta := trim_all hrp
  have hco := trim_counts (l := l) hnl
  have hin := trim_inputs (l := l) hnl
  generalize trimTo l (needsL l outs) l.length = p at *
  generalize whereL l (needsL l outs) outs = at' at *
  have c4 := lTrim_ok p at' hlt hrp (by omega) (by omega)
  rw [hag, hta, hwa] at c4
  have c5 := lRight_ok p hlt (by omega)
  rw [hrp] at c5
  have c7 := same_ok15 p p hlt hlt (by omega)
  have c8 := ints_ok at' at' (by omega)
  rw [decide_eq_true rfl] at c7 c8
  have d1 := lCounts_ok p (by omega)
  have d2 := lCounts_ok l (by omega)
  have e1 := lInputs_ok p (by omega)
  have e2 := lInputs_ok l (by omega)
  simp -implicitDefEqProofs +decide only [go_sem]
  refine CallG.pureS _ Tryd.call14 (c2) (by first | rfl | (simp only [go_sem]; done) | (simp only [go_sem]; rfl)) (by first | rfl | (simp only [go_sem]; done) | (simp only [go_sem]; rfl)) ?_
  apply run_sound 200
  simp -implicitDefEqProofs +decide only [go_sem]
  refine CallG.pureS _ Tryd.call14 (c4) (by first | rfl | (simp only [go_sem]; done) | (simp only [go_sem]; rfl)) (by first | rfl | (simp only [go_sem]; done) | (simp only [go_sem]; rfl)) ?_
  apply run_sound 200
  simp -implicitDefEqProofs +decide only [go_sem]
  refine CallG.pure _ Tryd.call21 (c5) (by first | rfl | (simp only [go_sem]; done) | (simp only [go_sem]; rfl)) (by first | rfl | (simp only [go_sem]; done) | (simp only [go_sem]; rfl)) ?_
  apply run_sound 200
  simp -implicitDefEqProofs +decide only [go_sem]
  refine CallG.pure _ Tryd.call19 (c7) (by first | rfl | (simp only [go_sem]; done) | (simp only [go_sem]; rfl)) (by first | rfl | (simp only [go_sem]; done) | (simp only [go_sem]; rfl)) ?_
  apply run_sound 200
  simp -implicitDefEqProofs +decide only [go_sem]
  refine CallG.pure _ Tryd.call20 (c8) (by first | rfl | (simp only [go_sem]; done) | (simp only [go_sem]; rfl)) (by first | rfl | (simp only [go_sem]; done) | (simp only [go_sem]; rfl)) ?_
  apply run_sound 200
  simp -implicitDefEqProofs +decide only [go_sem]
  refine CallG.pure _ Tryd.call22 (d1) (by first | rfl | (simp only [go_sem]; done) | (simp only [go_sem]; rfl)) (by first | rfl | (simp only [go_sem]; done) | (simp only [go_sem]; rfl)) ?_
  apply run_sound 200
  simp -implicitDefEqProofs +decide only [go_sem]
  refine CallG.pure _ Tryd.call22 (d2) (by first | rfl | (simp only [go_sem]; done) | (simp only [go_sem]; rfl)) (by first | rfl | (simp only [go_sem]; done) | (simp only [go_sem]; rfl)) ?_
  apply run_sound 200
  simp -implicitDefEqProofs +decide only [go_sem, hco]
  refine CallG.pure _ Tryd.call23 (e1) (by first | rfl | (simp only [go_sem]; done) | (simp only [go_sem]; rfl)) (by first | rfl | (simp only [go_sem]; done) | (simp only [go_sem]; rfl)) ?_
  apply run_sound 200
  simp -implicitDefEqProofs +decide only [go_sem]
  refine CallG.pure _ Tryd.call23 (e2) (by first | rfl | (simp only [go_sem]; done) | (simp only [go_sem]; rfl)) (by first | rfl | (simp only [go_sem]; done) | (simp only [go_sem]; rfl)) ?_
  apply run_sound 200
  simp -implicitDefEqProofs +decide only [go_sem, hin]
  refine CallG.pure _ Tryd.call12 (same_ok) (by first | rfl | (simp only [go_sem]; done) | (simp only [go_sem]; rfl)) (by first | rfl | (simp only [go_sem]; done) | (simp only [go_sem]; rfl)) ?_
  apply run_sound 200
  simp -implicitDefEqProofs +decide only [go_sem]
  exact endF.vals [(4, .bool true)] (.inr rfl) (vals_t (by simp -implicitDefEqProofs +decide only [go_sem] <;> rfl) rfl vals_nil) (fun l hp => by cases l <;> first | rfl | cases hp) rfl
end Go.Fm
/- The row of a law whose package variables are laid. -/
namespace Go.Fm
open Go.Deep Go.ChangeShapes Go.RowKit

section
variable {H : Type} {enc : TypeId × Value → H}
/-- The row of a law, with a condition on memory that the law doesn't use. -/
theorem law_rowL {C : Checked} {os : Os} {f : FuncId} {fn : Func} {s : ChangeSpec} {m : Nat} {X : World → Array Value → Prop} (hX : ∀ (w w' : World) (args : Array Value), w.heap = w'.heap → X w args → X w' args)
    (own : ownKnob C.prog.godebug = none) (started : os.Started) (noInit : C.prog.inits.idxOf? f = none) (hfn : C.prog.funcs[f]? = some fn)
    (witness : ∃ (w : World) (tape : Tape) (i : Input), w.os = os ∧ (w.forCall tape i).Shaped C.prog ∧ i.vars = [] ∧ Input.okWide C.prog (w.forCall tape i) .any w.heap.size f i ∧
      ((s.pre enc C.prog fn [] false (w.forCall tape i).memory i.args ∧ X (w.forCall tape i).memory i.args) ∧ sizedMet enc C.prog fn (OpenSpec.ofChange s) false (w.forCall tape i).memory i.args) ∧ Assume.holds {} C.prog (lone (Frame.enter C.prog f i.args .normal) [] (w.forCall tape i)))
    (laid : laidOutB C.prog = true) {pt : List TypeId} (hp : fn.params.toList = pt) (hok : pt.all (okT C.prog m) = true) (hrd : (pt.all fun t => C.prog.readableRec t && decide (t < C.prog.types.size)) = true)
    {rt : TypeId} (hres : fn.resultTypes = #[rt]) (hrt : C.prog.underlying rt = some .bool) (hvars : s.vars = [])
    (hspec : ∀ ds : List (DataW H), ds.length = pt.length → (s.fn H ds).results = [.lit (.bool true)] ∧ (s.fn H ds).args = ds ∧ (s.fn H ds).vars = [])
    (law : ∀ xs, Datas C.prog m pt xs → Pure C.prog f xs [.t (.bool true)]) :
    ReturnsInHanded {} C os f .any (fun w args => (s.pre enc C.prog fn [] false w args ∧ X w args) ∧ sizedMet enc C.prog fn (OpenSpec.ofChange s) false w args) (s.post enc C.prog fn false true false false) := by
  subst hp
  refine returnsInHanded_of_change_and hX own started noInit hfn witness ?_
  intro W base args ds gs before hval hW hcnd hsz _ _
  have hW' := hW
  obtain ⟨p, q, hA, hV, rfl, hfz, hnd⟩ := hW
  rw [hvars] at hV
  obtain ⟨rfl, rfl⟩ := trodVars_none hV
  have hsz' : ∀ n ∈ DataW.weightsEach C.prog fn.params.toList ds, n ≤ reachBytes := by
    intro n hn
    have hev : s.plain.varTypes C.prog = [] := by
      have : s.plain.vars = [] := hvars
      simp [DataSpec.varTypes, this]
    rw [hev, List.append_nil, List.append_nil] at hsz
    simpa using List.all_eq_true.1 hsz n hn
  obtain ⟨xs, h1, h2, h3⟩ := read_args hok (fun j t v hj hv => hval j t v (by simpa using hj) (by simpa using hv)) hA hsz'
  refine (pure_calls (law xs h1) h2 h3).mono fun e W' ⟨he, bel⟩ => ?_
  subst he
  have hlen : ∀ {pt : List TypeId} {vs : List Value} {ds : List (DataW H)} {p : List MemPlace}, DataW.TrodAll enc C.prog W 0 (fun _ => true) true pt vs ds p → ds.length = pt.length := by
    intro pt
    induction pt with
    | nil => intro vs ds p h; obtain ⟨_, rfl, _⟩ := trodAll_nil h; rfl
    | cons t pt ih => intro vs ds p h; obtain ⟨v, vs, d, ds, p, q, rfl, rfl, rfl, h1, h2⟩ := trodAll_cons h; simp [ih h2]
  obtain ⟨s1, s2, s3⟩ := hspec ds (hlen hA)
  refine ⟨_, rfl, ds, [], p ++ [], [], p, [], hW', ?_, ?_, ?_, bel.frame _, fun h => by cases h⟩
  · rw [List.append_nil, s1, hres]
    exact trodAll_mk1 (RowKit.shut_bool hrt _)
  · rw [List.append_nil, s2]
    exact args_back laid bel hrd hA
  · rw [List.append_nil, s3, hvars]
    exact rfl
end
end Go.Fm
/- Instructions read as data. -/
namespace Go.Fm
open Go.Proofs
set_option maxRecDepth 100000

theorem wfU {z : Int} (h : (Lit.int .u64 z).wf = true) : ∃ n : Nat, n < 18446744073709551616 ∧ z = n := by
  simp [Lit.wf, IntKind.min, IntKind.max, IntKind.signed, IntKind.bits] at h
  exact ⟨z.toNat, by omega, by omega⟩

theorem dat_words {n : Nat} {x : T} (h : Dat Tryd.prog (n + 2) 43 x) : ∃ p : List Nat, WOK p ∧ x = sW p := by
  obtain ⟨l, ⟨_, hl⟩, rfl⟩ := Dat.slice (f := U) (Q := fun k => k < 18446744073709551616) Tryd.underlying43 (fun x hx => by
    obtain ⟨z, hz, rfl⟩ := Dat.int Tryd.underlying57 hx
    obtain ⟨k, hk, rfl⟩ := wfU hz
    exact ⟨k, hk, rfl⟩) h
  exact ⟨l, hl, rfl⟩

theorem dat1 {n : Nat} {t : TypeId} {a : T} (hm : mkT Tryd.prog t [a] = a) (h : Typed Tryd.prog n t [a]) : Dat Tryd.prog n t a := ⟨[a], h, hm.symm⟩

theorem dat_rat {n : Nat} {a b c : T} (h : Typed Tryd.prog (n + 3) 45 [a, b, c]) : ∃ r : Rt, (WOK r.p ∧ WOK r.q) ∧ a = .bool r.neg ∧ b = sW r.p ∧ c = sW r.q := by
  simp only [Typed, Tryd.underlying45] at h
  obtain ⟨_, hf⟩ := h
  simp only [List.forall_mem_cons] at hf
  obtain ⟨h0, h1, h2, _⟩ := hf
  have c4 : Tryd.prog.cellsOf 4 = 1 := by kernel_rfl
  have c43 : Tryd.prog.cellsOf 43 = 1 := by kernel_rfl
  rw [c4] at h0
  rw [c43] at h1 h2
  obtain ⟨z, hz⟩ := Dat.bool Tryd.underlying4 (dat1 (n := n + 2) (t := 4) (a := a) (by simp [mkT, Tryd.underlying4]) h0)
  obtain ⟨p, hp, hpe⟩ := dat_words (dat1 (n := n + 2) (t := 43) (a := b) (by simp [mkT, Tryd.underlying43]) h1)
  obtain ⟨q, hq, hqe⟩ := dat_words (dat1 (n := n + 2) (t := 43) (a := c) (by simp [mkT, Tryd.underlying43]) h2)
  exact ⟨⟨z, p, q⟩, ⟨hp, hq⟩, hz, hpe, hqe⟩

theorem dat_in {n : Nat} {x : T} (h : Dat Tryd.prog (n + 4) 47 x) : ∃ i : In, (WOK i.x.p ∧ WOK i.x.q) ∧ x = i.T := by
  obtain ⟨ts, h, rfl⟩ := h
  simp only [Typed, Tryd.underlying47] at h
  obtain ⟨hl, hf⟩ := h
  rw [show Tryd.prog.cellsOf 47 = 6 by kernel_rfl] at hl
  match ts, hl with
  | [a, b, c, d, e, g], _ =>
    simp only [List.forall_mem_cons] at hf
    obtain ⟨h0, h1, h2, h3, _⟩ := hf
    have c3 : Tryd.prog.cellsOf 3 = 1 := by kernel_rfl
    have c45 : Tryd.prog.cellsOf 45 = 3 := by kernel_rfl
    rw [c3] at h0 h1 h2
    rw [c45] at h3
    obtain ⟨op, _, rfl⟩ := Dat.int Tryd.underlying3 (dat1 (n := n + 3) (t := 3) (a := a) (by simp [mkT, Tryd.underlying3]) h0)
    obtain ⟨x, _, rfl⟩ := Dat.int Tryd.underlying3 (dat1 (n := n + 3) (t := 3) (a := b) (by simp [mkT, Tryd.underlying3]) h1)
    obtain ⟨y, _, rfl⟩ := Dat.int Tryd.underlying3 (dat1 (n := n + 3) (t := 3) (a := c) (by simp [mkT, Tryd.underlying3]) h2)
    obtain ⟨r, hr, rfl, rfl, rfl⟩ := dat_rat (n := n) (a := d) (b := e) (c := g) h3
    exact ⟨⟨op, x, y, r⟩, hr, by simp [mkT, Tryd.underlying47, In.T]⟩
end Go.Fm
