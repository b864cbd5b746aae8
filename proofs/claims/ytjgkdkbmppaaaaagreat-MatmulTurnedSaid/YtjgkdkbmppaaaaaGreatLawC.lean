/- The law on a product with a sum. -/
import Derived.Test.YtjgkdkbmppaaaaaGreatLawB
set_option linter.unusedVariables false
set_option linter.unusedSimpArgs false
namespace Go.Fm
open Go.Proofs
set_option maxRecDepth 100000
attribute [local irreducible] tiOf

theorem noPtrL_Sc (l : List Sc) : noPtrL (l.map Sc.T) = true := by have := noPtr_sS l; simpa only [sS, noPtr] using this
set_option maxHeartbeats 1000000 in
theorem matmulSums_yes (a b out : List Int) (xs ys zs : List Rat) (hm : mdims a b = (out, 0)) (hxl : (xs.length : Int) = cnt a) (hyl : (ys.length : Int) = cnt b) (hzl : zs.length = ys.length)
    (hxq : ∀ r ∈ xs, QB r 9) (hyq : ∀ r ∈ ys, QB r 9) (hzq : ∀ r ∈ zs, QB r 9) :
    Pure Tryz.prog 5 [argT a xs, argT b ys, sV zs] [.t (.bool true)] := by
  have hb0 : ∀ l, Lab.pool l = false → (fun _ => none : Heap) l = none := fun _ _ => rfl
  have H := mdims_inv hm
  have la6 := (chk0 H.ca).1
  have lb6 := (chk0 H.cb).1
  have pa := (chk0 H.ca).2.2
  have pb := (chk0 H.cb).2.2
  have po := (chk0 H.co).2.2
  have ca : cnt a = prodL a := by unfold cnt; rw [if_pos H.ca]
  have cb : cnt b = prodL b := by unfold cnt; rw [if_pos H.cb]
  have co : cnt out = prodL out := by unfold cnt; rw [if_pos H.co]
  have cs := same28_ok
  have cr := rightArgs_ok [(a, xs), (b, ys), (b, zs)] (by simp) (by
    intro p hp
    simp only [List.mem_cons, List.not_mem_nil, or_false] at hp
    rcases hp with rfl | rfl | rfl
    · exact ⟨by dsimp only; omega, by dsimp only; omega, hxq⟩
    · exact ⟨by dsimp only; omega, by dsimp only; omega, hyq⟩
    · exact ⟨by dsimp only; omega, by dsimp only; omega, hzq⟩)
  have cw1 := whole_ok ⟨a, xs.map scR⟩ ⟨b, ys.map scR⟩ (by dsimp only; omega) (by dsimp only; omega)
  have cw2 := whole_ok ⟨a, xs.map scR⟩ ⟨b, zs.map scR⟩ (by dsimp only; omega) (by dsimp only; omega)
  have hwb1 : wholeB ⟨a, xs.map scR⟩ ⟨b, ys.map scR⟩ = true := by
    unfold wholeB; rw [hm]; simp [hxl, hyl]
  have hwb2 : wholeB ⟨a, xs.map scR⟩ ⟨b, zs.map scR⟩ = true := by
    unfold wholeB; rw [hm]; simp [hxl, hzl, hyl]
  rw [hwb1, Ag_scR, Ag_scR] at cw1
  rw [hwb2, Ag_scR, Ag_scR] at cw2
  have q9 : ∀ {l : List Rat} {k : Nat}, (∀ r ∈ l, QB r k) → k ≤ 1000 → ∀ r ∈ l, QB r 1000 := fun h hk r hr => (h r hr).mono hk
  have hsq : ∀ r ∈ addL ys zs, QB r 19 := addL_mem (Q := fun r => QB r 9) hyq hzq fun r s h1 h2 => (QB_add h1 h2).mono (by decide)
  have hsl : (addL ys zs).length = ys.length := addL_length hzl
  have z9 : ∀ {l : List Rat}, (∀ r ∈ l, QB r 9) → ∀ r ∈ l, ZB r 576 := fun h r hr => ZB_of (h r hr)
  -- the banks
  obtain ⟨N, hN⟩ : ∃ N, (cnt out).toNat = N := ⟨_, rfl⟩
  obtain ⟨k1, hk1⟩ : ∃ k1, kM a out 0 N = k1 := ⟨_, rfl⟩
  have n1 := bankNew_ok (fun _ => none) 0 hb0 rfl
  have d1 := mdo_ok (upd (fun _ => none) (.obj 0) (some (bankO 0))) 1 0 0 a b out xs ys (bank_hb hb0) (upd_same _ _ _) (by decide) hm hxl hyl (q9 hxq (by decide)) (q9 hyq (by decide))
  rw [obj_up, hN, hk1] at d1
  have n2 := bankNew_ok (upd (fun _ => none) (.obj 0) (some (bankO k1))) 1 (bank_hb hb0) rfl
  have d2 := mdo_ok (upd (upd (fun _ => none) (.obj 0) (some (bankO k1))) (.obj 1) (some (bankO 0))) 2 1 0 a b out xs zs (bank_hb (bank_hb hb0)) (upd_same _ _ _) (by decide) hm hxl (by rw [hzl]; exact hyl) (q9 hxq (by decide)) (q9 hzq (by decide))
  rw [obj_up, hN, hk1] at d2
  have n3 := bankNew_ok (upd (upd (fun _ => none) (.obj 0) (some (bankO k1))) (.obj 1) (some (bankO k1))) 2 (bank_hb (bank_hb hb0)) rfl
  have d3 := mdo_ok (upd (upd (upd (fun _ => none) (.obj 0) (some (bankO k1))) (.obj 1) (some (bankO k1))) (.obj 2) (some (bankO 0))) 3 2 0 a b out xs (addL ys zs) (bank_hb (bank_hb (bank_hb hb0))) (upd_same _ _ _) (by decide) hm hxl (by rw [hsl]; exact hyl) (q9 hxq (by decide)) (q9 hsq (by decide))
  rw [obj_up, hN, hk1] at d3
  have t1 := added_ok ys zs hzl (by omega) (fun r hr => ⟨(hyq r hr).mono (by decide), (z9 hyq r hr).mono (by decide)⟩) (fun r hr => ⟨(hzq r hr).mono (by decide), (z9 hzq r hr).mono (by decide)⟩)
  have hv1 := doM_QB (N := N) hm hxq hyq (by decide)
  have hv2 := doM_QB (N := N) hm hxq hzq (by decide)
  have hv3 := doM_QB (N := N) hm (fun r hr => (hxq r hr).mono (show 9 ≤ 19 by decide)) hsq (by decide)
  have hz1 := doM_ZB (a := a) (b := b) (out := out) (N := N) (z9 hxq) (z9 hyq)
  have hz2 := doM_ZB (a := a) (b := b) (out := out) (N := N) (z9 hxq) (z9 hzq)
  have hl1 := doM_length a b out xs ys N
  have hl2 := doM_length a b out xs zs N
  have hl3 := doM_length a b out xs (addL ys zs) N
  have hsum := doM_addL a b out (xs := xs) hzl N
  obtain ⟨v1, e1⟩ : ∃ v, doM a b out xs ys N = v := ⟨_, rfl⟩
  obtain ⟨v2, e2⟩ : ∃ v, doM a b out xs zs N = v := ⟨_, rfl⟩
  obtain ⟨v3, e3⟩ : ∃ v, doM a b out xs (addL ys zs) N = v := ⟨_, rfl⟩
  rw [e1] at d1 hv1 hz1 hl1 hsum
  rw [e2] at d2 hv2 hz2 hl2 hsum
  rw [e3] at d3 hv3 hl3 hsum
  have hN64 : N ≤ 64 := by omega
  have t2 := added_ok v1 v2 (by omega) (by omega) (fun r hr => ⟨(hv1 r hr).mono (by decide), (hz1 r hr).mono (by decide)⟩) (fun r hr => ⟨(hv2 r hr).mono (by decide), (hz2 r hr).mono (by decide)⟩)
  rw [hsum] at t2
  have cc := rAllR_ok v3 v3 (by omega) (by omega) (fun r hr => (hv3 r hr).mono (by decide)) (fun r hr => (hv3 r hr).mono (by decide))
  rw [decide_eq_true rfl] at cc
  have hN2 : decide (((N : Nat) : Int) = (N : Int)) = true := by simp
  simp only [List.map_cons, List.map_nil, argT, sI, sV] at cr cw1 cw2
  clear e1 e2 e3 hsum hv1 hv2 hv3 hz1 hz2 hwb1 hwb2 hsq hsl
  generalize addL ys zs = us at *
  simp only [argT, sI, sV] at d1 d2 d3 t1
  refine Pure.drop (h' := upd (upd (upd (fun _ => none) (.obj 0) (some (bankO k1))) (.obj 1) (some (bankO k1))) (.obj 2) (some (bankO k1))) (m' := 3) ?_ rfl
  refine Ret.intro Tryz.func5 rfl (rt := [6]) rfl (by simp [Tryz.ntmps5]) (by decide) (sites := fun _ => false) (bank_hb (bank_hb (bank_hb hb0))) (Keeps.none _) ?_
  unfold argT
  apply run_sound 200
  simp -implicitDefEqProofs +decide only [go_sem, sI, sV]
  refine CallG.pure _ Tryz.call15 (cr) (by simp only [List.all_cons, List.all_nil, noPtr, noPtrL, noPtr_sW, noPtr_sI, noPtr_sV, noPtrL_U, noPtrL_I, noPtrL_vT, I, List.map_cons, List.map_nil, Bool.and_true, Bool.and_self]) (by first | rfl | (simp only [go_sem]; done) | (simp only [go_sem]; rfl)) ?_
  apply run_sound 200
  simp -implicitDefEqProofs +decide only [go_sem]
  refine CallG.pure _ Tryz.call16 (cw1) (by simp only [List.all_cons, List.all_nil, noPtr, noPtrL, noPtr_sW, noPtr_sI, noPtr_sV, noPtrL_U, noPtrL_I, noPtrL_vT, I, List.map_cons, List.map_nil, Bool.and_true, Bool.and_self]) (by first | rfl | (simp only [go_sem]; done) | (simp only [go_sem]; rfl)) ?_
  apply run_sound 200
  simp -implicitDefEqProofs +decide only [go_sem]
  refine CallG.pure _ Tryz.call16 (cw2) (by simp only [List.all_cons, List.all_nil, noPtr, noPtrL, noPtr_sW, noPtr_sI, noPtr_sV, noPtrL_U, noPtrL_I, noPtrL_vT, I, List.map_cons, List.map_nil, Bool.and_true, Bool.and_self]) (by first | rfl | (simp only [go_sem]; done) | (simp only [go_sem]; rfl)) ?_
  apply run_sound 200
  simp -implicitDefEqProofs +decide only [go_sem]
  refine Goes.drawP mixed (Calm.of (by repeat first | exact Clean.und | refine Clean.upd ?_ rfl | refine Clean.upd ?_ (by simp only [cleanA, cleanL, ])) (by repeat first | exact HCalm.none | exact HCalm.hb hb | exact HCalm.hb (bank_hb hb) | refine HCalm.row ?_ | refine HCalm.box ?_ (by first | rfl | (simp only [cleanA, cleanL, ]; done) | assumption))) ?_
  simp -implicitDefEqProofs +decide only [go_sem]
  refine CallD.make _ [(.obj 0, bankO 0)] 1 Tryz.call18 n1 rfl hb0 (fun l hp => by cases l <;> first | rfl | cases hp) (fun _ _ => rfl) rfl (.inl (by simp)) ?_
  simp -implicitDefEqProofs +decide only [go_sem]
  refine CallD.make _ [(.obj 0, bankO k1)] 0 Tryz.call17 d1 rfl (bank_hb hb0) (by rintro (_ | _ | _ | _ | _) hp <;> first | (cases hp; done) | simp -implicitDefEqProofs +decide only [go_sem]) (fun l _ => (congrFun (obj_up _ 0 0 k1) l).symm) rfl (.inr rfl) ?_
  simp -implicitDefEqProofs +decide only [go_sem]
  refine ⟨.mk (by kernel_rfl), ?_⟩
  apply run_sound 200
  simp -implicitDefEqProofs +decide only [go_sem]
  refine Goes.drawP mixed (Calm.of (by repeat first | exact Clean.und | refine Clean.upd ?_ rfl | refine Clean.upd ?_ (by simp only [cleanA, cleanL, ])) (by repeat first | exact HCalm.none | exact HCalm.hb hb | exact HCalm.hb (bank_hb hb) | refine HCalm.row ?_ | refine HCalm.box ?_ (by first | rfl | (simp only [cleanA, cleanL, ]; done) | assumption))) ?_
  simp -implicitDefEqProofs +decide only [go_sem]
  refine CallD.make _ [(.obj 1, bankO 0)] 1 Tryz.call18 n2 rfl (bank_hb hb0) (by rintro (_ | _ | _ | _ | _) hp <;> first | (cases hp; done) | simp -implicitDefEqProofs +decide only [go_sem]) (fun _ _ => rfl) rfl (.inl (by simp)) ?_
  simp -implicitDefEqProofs +decide only [go_sem]
  refine CallD.make _ [(.obj 1, bankO k1)] 0 Tryz.call17 d2 rfl (bank_hb (bank_hb hb0)) (by rintro (_ | _ | _ | _ | _) hp <;> first | (cases hp; done) | simp -implicitDefEqProofs +decide only [go_sem]) (fun l _ => (congrFun (obj_up _ 1 0 k1) l).symm) rfl (.inr rfl) ?_
  simp -implicitDefEqProofs +decide only [go_sem]
  refine ⟨.mk (by kernel_rfl), ?_⟩
  apply run_sound 200
  simp -implicitDefEqProofs +decide only [go_sem]
  refine Goes.drawP mixed (Calm.of (by repeat first | exact Clean.und | refine Clean.upd ?_ rfl | refine Clean.upd ?_ (by simp only [cleanA, cleanL, ])) (by repeat first | exact HCalm.none | exact HCalm.hb hb | exact HCalm.hb (bank_hb hb) | refine HCalm.row ?_ | refine HCalm.box ?_ (by first | rfl | (simp only [cleanA, cleanL, ]; done) | assumption))) ?_
  simp -implicitDefEqProofs +decide only [go_sem]
  refine CallD.make _ [(.obj 2, bankO 0)] 1 Tryz.call18 n3 rfl (bank_hb (bank_hb hb0)) (by rintro (_ | _ | _ | _ | _) hp <;> first | (cases hp; done) | simp -implicitDefEqProofs +decide only [go_sem]) (fun _ _ => rfl) rfl (.inl (by simp)) ?_
  simp -implicitDefEqProofs +decide only [go_sem]
  refine CallD.pureS _ Tryz.call21 t1 (by simp only [List.all_cons, List.all_nil, noPtr, noPtrL, noPtr_sW, noPtr_sI, noPtr_sV, noPtrL_U, noPtrL_I, noPtrL_vT, I, List.map_cons, List.map_nil, Bool.and_true, Bool.and_self]) (by first | rfl | (simp only [go_sem]; done) | (simp only [go_sem]; rfl)) ?_
  simp -implicitDefEqProofs +decide only [go_sem]
  refine CallD.make _ [(.obj 2, bankO k1)] 0 Tryz.call17 d3 rfl (bank_hb (bank_hb (bank_hb hb0))) (by rintro (_ | _ | _ | _ | _) hp <;> first | (cases hp; done) | simp -implicitDefEqProofs +decide only [go_sem]) (fun l _ => (congrFun (obj_up _ 2 0 k1) l).symm) rfl (.inr rfl) ?_
  simp -implicitDefEqProofs +decide only [go_sem]
  refine ⟨.mk (by kernel_rfl), ?_⟩
  apply run_sound 200
  simp only [sV] at t2 cc
  simp -implicitDefEqProofs +decide only [go_sem, sV, List.length_map, hl1, hl2, hN2]
  refine CallG.pureS _ Tryz.call21 (t2) (by simp only [List.all_cons, List.all_nil, noPtr, noPtrL, noPtr_sW, noPtr_sI, noPtr_sV, noPtrL_U, noPtrL_I, noPtrL_vT, I, List.map_cons, List.map_nil, Bool.and_true, Bool.and_self]) (by first | rfl | (simp only [go_sem]; done) | (simp only [go_sem]; rfl)) ?_
  apply run_sound 200
  simp -implicitDefEqProofs +decide only [go_sem]
  refine CallG.pure _ Tryz.call20 (cc) (by simp only [List.all_cons, List.all_nil, noPtr, noPtrL, noPtr_sW, noPtr_sI, noPtr_sV, noPtrL_U, noPtrL_I, noPtrL_vT, I, List.map_cons, List.map_nil, Bool.and_true, Bool.and_self]) (by first | rfl | (simp only [go_sem]; done) | (simp only [go_sem]; rfl)) ?_
  apply run_sound 200
  simp -implicitDefEqProofs +decide only [go_sem]
  refine CallG.pure _ Tryz.call9 (cs) (by first | rfl | (simp only [go_sem]; done) | (simp only [go_sem]; rfl)) (by first | rfl | (simp only [go_sem]; done) | (simp only [go_sem]; rfl)) ?_
  apply run_sound 200
  simp -implicitDefEqProofs +decide only [go_sem]
  exact endF.vals [(6, .bool true)] (.inr rfl) (vals_t (by first | rfl | (simp -implicitDefEqProofs +decide only [go_sem]; done) | (simp -implicitDefEqProofs +decide only [go_sem]; rfl)) rfl vals_nil) (by rintro (_ | _ | _ | _ | _) hp <;> first | (cases hp; done) | simp -implicitDefEqProofs +decide only [go_sem]) rfl

theorem matmulSums_ok (x y : Ag) (z : List Sc) (hx : ∀ s ∈ x.v, WOK s.x.p ∧ WOK s.x.q) (hy : ∀ s ∈ y.v, WOK s.x.p ∧ WOK s.x.q) (hz : ∀ s ∈ z, WOK s.x.p ∧ WOK s.x.q) : Pure Tryz.prog 5 [x.T, y.T, sS z] [.t (.bool true)] := by
  have cs := same28_ok
  have hw : ∀ a ∈ [x, y, ⟨y.d, z⟩], ∀ s ∈ a.v, WOK s.x.p ∧ WOK s.x.q := by
    intro a ha
    simp only [List.mem_cons, List.not_mem_nil, or_false] at ha
    rcases ha with rfl | rfl | rfl
    · exact hx
    · exact hy
    · exact hz
  have cr := argsRight_ok [x, y, ⟨y.d, z⟩] (by simp) (argsSOK hw)
  obtain ⟨b, hb⟩ : ∃ b, (!argsB [x, y, ⟨y.d, z⟩] && [x, y, ⟨y.d, z⟩].all fun a => a.v.all rightB) = b := ⟨_, rfl⟩
  rw [hb] at cr
  simp only [sA, List.map_cons, List.map_nil, Ag.T, sI, sS] at cr
  cases b with
  | false =>
    refine Pure.intro Tryz.func5 rfl (rt := [6]) rfl (by simp [Tryz.ntmps5]) (by decide) (sites := fun _ => false) ?_
    apply run_sound 200
    simp -implicitDefEqProofs +decide only [go_sem, Ag.T, sI, sS]
    refine CallG.pure _ Tryz.call15 cr (by simp only [List.all_cons, List.all_nil, noPtr, noPtrL, noPtrL_I, noPtrL_Sc, Bool.and_self]) (by first | rfl | (simp only [go_sem]; done) | (simp only [go_sem]; rfl)) ?_
    apply run_sound 200
    simp -implicitDefEqProofs +decide only [go_sem]
    refine CallG.pure _ Tryz.call9 (cs) (by first | rfl | (simp only [go_sem]; done) | (simp only [go_sem]; rfl)) (by first | rfl | (simp only [go_sem]; done) | (simp only [go_sem]; rfl)) ?_
    apply run_sound 200
    simp -implicitDefEqProofs +decide only [go_sem]
    exact endF.vals [(6, .bool true)] (.inr rfl) (vals_t (by simp -implicitDefEqProofs +decide only [go_sem] <;> rfl) rfl vals_nil) (fun l hp => by cases l <;> first | rfl | cases hp) rfl
  | true =>
    rw [Bool.and_eq_true] at hb
    obtain ⟨hb1, hb2⟩ := hb
    have hb1 : argsB [x, y, ⟨y.d, z⟩] = false := by simpa using hb1
    obtain ⟨_, hsh⟩ := short_of hb1
    obtain ⟨x1, x2, x3⟩ := hsh x (by simp)
    obtain ⟨y1, y2, y3⟩ := hsh y (by simp)
    obtain ⟨z1, z2, z3⟩ := hsh ⟨y.d, z⟩ (by simp)
    simp only [List.all_cons, List.all_nil, Bool.and_true, Bool.and_eq_true] at hb2
    obtain ⟨xs, hxs, hxq⟩ := rightNum hx hb2.1 x3
    obtain ⟨ys, hys, hyq⟩ := rightNum hy hb2.2.1 y3
    obtain ⟨zs, hzs, hzq⟩ := rightNum (a := ⟨y.d, z⟩) hz hb2.2.2 z3
    have cw := whole_ok x y (by omega) (by omega)
    have cw2 := whole_ok x ⟨y.d, z⟩ (by omega) (by dsimp only; omega)
    obtain ⟨w, hw1⟩ : ∃ w, wholeB x y = w := ⟨_, rfl⟩
    obtain ⟨w2, hw2⟩ : ∃ w, wholeB x ⟨y.d, z⟩ = w := ⟨_, rfl⟩
    rw [hw1] at cw
    rw [hw2] at cw2
    by_cases hyes : w = true ∧ w2 = true
    · obtain ⟨rfl, rfl⟩ := hyes
      obtain ⟨xd, xv⟩ := x
      obtain ⟨yd, yv⟩ := y
      dsimp only at *
      subst hxs hys hzs
      unfold wholeB at hw1 hw2
      simp only [Bool.and_eq_true, decide_eq_true_eq, List.length_map] at hw1 hw2
      obtain ⟨w1, w3, w4⟩ := hw1
      obtain ⟨out, hout⟩ : ∃ out, mdims xd yd = (out, 0) := ⟨_, Prod.ext rfl w1⟩
      rw [Ag_scR, Ag_scR, sS_scR]
      exact matmulSums_yes xd yd out xs ys zs hout w3 w4 (by have := hw2.2.2; omega) hxq hyq hzq
    · simp only [Ag.T, sI, sS] at cw cw2
      refine Pure.intro Tryz.func5 rfl (rt := [6]) rfl (by simp [Tryz.ntmps5]) (by decide) (sites := fun _ => false) ?_
      apply run_sound 200
      simp -implicitDefEqProofs +decide only [go_sem, Ag.T, sI, sS]
      refine CallG.pure _ Tryz.call15 cr (by simp only [List.all_cons, List.all_nil, noPtr, noPtrL, noPtrL_I, noPtrL_Sc, Bool.and_self]) (by first | rfl | (simp only [go_sem]; done) | (simp only [go_sem]; rfl)) ?_
      apply run_sound 200
      simp -implicitDefEqProofs +decide only [go_sem]
      refine CallG.pure _ Tryz.call16 cw (by simp only [List.all_cons, List.all_nil, noPtr, noPtrL, noPtrL_I, noPtrL_Sc, Bool.and_self]) (by first | rfl | (simp only [go_sem]; done) | (simp only [go_sem]; rfl)) ?_
      apply run_sound 200
      cases w
      · skip
        simp -implicitDefEqProofs +decide only [go_sem]
        refine CallG.pure _ Tryz.call9 (cs) (by first | rfl | (simp only [go_sem]; done) | (simp only [go_sem]; rfl)) (by first | rfl | (simp only [go_sem]; done) | (simp only [go_sem]; rfl)) ?_
        apply run_sound 200
        simp -implicitDefEqProofs +decide only [go_sem]
        exact endF.vals [(6, .bool true)] (.inr rfl) (vals_t (by simp -implicitDefEqProofs +decide only [go_sem] <;> rfl) rfl vals_nil) (fun l hp => by cases l <;> first | rfl | cases hp) rfl
      · obtain rfl : w2 = false := by cases w2 <;> first | rfl | exact absurd ⟨rfl, rfl⟩ hyes
        simp -implicitDefEqProofs +decide only [go_sem]
        refine CallG.pure _ Tryz.call16 cw2 (by simp only [List.all_cons, List.all_nil, noPtr, noPtrL, noPtrL_I, noPtrL_Sc, Bool.and_self]) (by first | rfl | (simp only [go_sem]; done) | (simp only [go_sem]; rfl)) ?_
        apply run_sound 200
        simp -implicitDefEqProofs +decide only [go_sem]
        refine CallG.pure _ Tryz.call9 (cs) (by first | rfl | (simp only [go_sem]; done) | (simp only [go_sem]; rfl)) (by first | rfl | (simp only [go_sem]; done) | (simp only [go_sem]; rfl)) ?_
        apply run_sound 200
        simp -implicitDefEqProofs +decide only [go_sem]
        exact endF.vals [(6, .bool true)] (.inr rfl) (vals_t (by simp -implicitDefEqProofs +decide only [go_sem] <;> rfl) rfl vals_nil) (fun l hp => by cases l <;> first | rfl | cases hp) rfl
end Go.Fm
/- Scalars and operands read as data. -/
namespace Go.Fm
open Go.Proofs
set_option maxRecDepth 100000
attribute [local irreducible] tiOf

theorem wfU {z : Int} (h : (Lit.int .u64 z).wf = true) : ∃ n : Nat, n < 18446744073709551616 ∧ z = n := by
  simp [Lit.wf, IntKind.min, IntKind.max, IntKind.signed, IntKind.bits] at h
  exact ⟨z.toNat, by omega, by omega⟩
theorem dat1 {n : Nat} {t : TypeId} {a : T} (hm : mkT Tryz.prog t [a] = a) (h : Typed Tryz.prog n t [a]) : Dat Tryz.prog n t a := ⟨[a], h, hm.symm⟩
theorem dat_int {n : Nat} {x : T} (h : Dat Tryz.prog (n + 1) 3 x) : ∃ z : Int, (-9223372036854775808 ≤ z ∧ z ≤ 9223372036854775807) ∧ x = I z := by
  obtain ⟨z, hz, rfl⟩ := Dat.int Tryz.underlying3 h
  exact ⟨z, wf64 hz, rfl⟩
theorem dat_ints {n : Nat} {x : T} (h : Dat Tryz.prog (n + 2) 22 x) : ∃ l : List Int, (l.length * 8 ≤ reachBytes ∧ ∀ z ∈ l, -9223372036854775808 ≤ z ∧ z ≤ 9223372036854775807) ∧ x = sI l := by
  obtain ⟨l, hl, rfl⟩ := Dat.slice (f := I) (Q := fun z => -9223372036854775808 ≤ z ∧ z ≤ 9223372036854775807) Tryz.underlying22 (fun x hx => dat_int hx) h
  rw [show (Tryz.prog).bytesOf 3 = 8 by kernel_rfl] at hl
  exact ⟨l, hl, rfl⟩
theorem dat_words {n : Nat} {x : T} (h : Dat Tryz.prog (n + 2) 68 x) : ∃ p : List Nat, WOK p ∧ x = sW p := by
  obtain ⟨l, ⟨_, hl⟩, rfl⟩ := Dat.slice (f := U) (Q := fun k => k < 18446744073709551616) Tryz.underlying68 (fun x hx => by
    obtain ⟨z, hz, rfl⟩ := Dat.int Tryz.underlying71 hx
    obtain ⟨k, hk, rfl⟩ := wfU hz
    exact ⟨k, hk, rfl⟩) h
  exact ⟨l, hl, rfl⟩
theorem dat_rat {n : Nat} {a b c : T} (h : Typed Tryz.prog (n + 3) 70 [a, b, c]) : ∃ r : Rt, (WOK r.p ∧ WOK r.q) ∧ a = .bool r.neg ∧ b = sW r.p ∧ c = sW r.q := by
  simp only [Typed, Tryz.underlying70] at h
  obtain ⟨_, hf⟩ := h
  simp only [List.forall_mem_cons] at hf
  obtain ⟨h0, h1, h2, _⟩ := hf
  have c4 : (Tryz.prog).cellsOf 4 = 1 := by kernel_rfl
  have c43 : (Tryz.prog).cellsOf 68 = 1 := by kernel_rfl
  rw [c4] at h0
  rw [c43] at h1 h2
  obtain ⟨z, hz⟩ := Dat.bool Tryz.underlying4 (dat1 (n := n + 2) (t := 4) (a := a) (by simp [mkT, Tryz.underlying4]) h0)
  obtain ⟨p, hp, hpe⟩ := dat_words (dat1 (n := n + 2) (t := 68) (a := b) (by simp [mkT, Tryz.underlying68]) h1)
  obtain ⟨q, hq, hqe⟩ := dat_words (dat1 (n := n + 2) (t := 68) (a := c) (by simp [mkT, Tryz.underlying68]) h2)
  exact ⟨⟨z, p, q⟩, ⟨hp, hq⟩, hz, hpe, hqe⟩
def ScW (s : Sc) : Prop := WOK s.x.p ∧ WOK s.x.q
theorem dat_val {n : Nat} {x : T} (h : Dat Tryz.prog (n + 4) 73 x) : ∃ s : Sc, (ScW s ∧ s.b < 18446744073709551616) ∧ x = s.T := by
  obtain ⟨ts, h, rfl⟩ := h
  simp only [Typed, Tryz.underlying73] at h
  obtain ⟨hl, hf⟩ := h
  rw [show (Tryz.prog).cellsOf 73 = 5 by kernel_rfl] at hl
  match ts, hl with
  | [a, b, c, d, e], _ =>
    simp only [List.forall_mem_cons] at hf
    obtain ⟨h0, h1, h2, _⟩ := hf
    rw [show (Tryz.prog).cellsOf 70 = 3 by kernel_rfl] at h0
    rw [show (Tryz.prog).cellsOf 71 = 1 by kernel_rfl] at h1
    rw [show (Tryz.prog).cellsOf 3 = 1 by kernel_rfl] at h2
    obtain ⟨r, hr, rfl, rfl, rfl⟩ := dat_rat (n := n) (a := a) (b := b) (c := c) h0
    obtain ⟨z, hz, rfl⟩ := Dat.int Tryz.underlying71 (dat1 (n := n + 3) (t := 71) (a := d) (by simp [mkT, Tryz.underlying71]) h1)
    obtain ⟨k, hk, rfl⟩ := wfU hz
    obtain ⟨f, _, rfl⟩ := Dat.int Tryz.underlying3 (dat1 (n := n + 3) (t := 3) (a := e) (by simp [mkT, Tryz.underlying3]) h2)
    exact ⟨⟨r, k, f⟩, ⟨hr, hk⟩, by simp [mkT, Tryz.underlying73, Sc.T]⟩
theorem dat_vals {n : Nat} {x : T} (h : Dat Tryz.prog (n + 5) 36 x) : ∃ l : List Sc, (l.length * 72 ≤ reachBytes ∧ ∀ s ∈ l, ScW s ∧ s.b < 18446744073709551616) ∧ x = sS l := by
  obtain ⟨l, hl, rfl⟩ := Dat.slice (f := Sc.T) (Q := fun s => ScW s ∧ s.b < 18446744073709551616) Tryz.underlying36 (fun x hx => dat_val hx) h
  rw [show (Tryz.prog).bytesOf 73 = 72 by kernel_rfl] at hl
  exact ⟨l, hl, rfl⟩
theorem dat_argL {n : Nat} {a b : T} (h : Typed Tryz.prog (n + 6) 38 [a, b]) : ∃ g : Ag, (∀ s ∈ g.v, ScW s ∧ s.b < 18446744073709551616) ∧ a = sI g.d ∧ b = sS g.v := by
  simp only [Typed, Tryz.underlying38] at h
  obtain ⟨_, hf⟩ := h
  simp only [List.forall_mem_cons] at hf
  obtain ⟨h0, h1, _⟩ := hf
  rw [show (Tryz.prog).cellsOf 22 = 1 by kernel_rfl] at h0
  rw [show (Tryz.prog).cellsOf 36 = 1 by kernel_rfl] at h1
  obtain ⟨d, _, rfl⟩ := dat_ints (dat1 (n := n + 5) (t := 22) (a := a) (by simp [mkT, Tryz.underlying22]) h0)
  obtain ⟨v, hv, rfl⟩ := dat_vals (n := n) (dat1 (n := n + 5) (t := 36) (a := b) (by simp [mkT, Tryz.underlying36]) h1)
  exact ⟨⟨d, v⟩, hv.2, rfl, rfl⟩
theorem dat_arg {n : Nat} {x : T} (h : Dat Tryz.prog (n + 6) 38 x) : ∃ g : Ag, (∀ s ∈ g.v, ScW s ∧ s.b < 18446744073709551616) ∧ x = g.T := by
  obtain ⟨ts, h, rfl⟩ := h
  have hl : ts.length = 2 := by
    simp only [Typed, Tryz.underlying38] at h
    have := h.1
    rwa [show (Tryz.prog).cellsOf 38 = 2 by kernel_rfl] at this
  match ts, hl with
  | [a, b], _ =>
    obtain ⟨g, hg, rfl, rfl⟩ := dat_argL (n := n) h
    exact ⟨g, hg, by simp [mkT, Tryz.underlying38, Ag.T]⟩
end Go.Fm
