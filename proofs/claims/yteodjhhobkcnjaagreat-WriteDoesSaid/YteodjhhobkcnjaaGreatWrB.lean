/- Writes: what is wrong with one, by the program and by the reference. -/
import Derived.Test.YteodjhhobkcnjaaGreatWqA
import Derived.Test.YteodjhhobkcnjaaGreatMwA
import Derived.Test.YteodjhhobkcnjaaGreatWrA
import Derived.Test.YteodjhhobkcnjaaGreatBwA
import Derived.Test.YteodjhhobkcnjaaGreatLwA
set_option linter.unusedVariables false
set_option linter.unusedSimpArgs false
namespace Go.Fm
open Go.Proofs
set_option maxRecDepth 100000
attribute [local irreducible] tiOf

def constB (p q : Int) : Bool := decide (p ≥ -1048576) && (decide (p ≤ 1048576) && (decide (q ≥ 1) && decide (q ≤ 1048576)))
theorem const_ok (p q : Int) : Pure Tryz.prog 115 [.int .i64 p, .int .i64 q] [.t (.bool (constB p q))] := by
 unfold constB
 obtain ⟨b1, h1⟩ : ∃ b, decide (p ≥ -1048576) = b := ⟨_, rfl⟩
 obtain ⟨b2, h2⟩ : ∃ b, decide (p ≤ 1048576) = b := ⟨_, rfl⟩
 obtain ⟨b3, h3⟩ : ∃ b, decide (q ≥ 1) = b := ⟨_, rfl⟩
 obtain ⟨b4, h4⟩ : ∃ b, decide (q ≤ 1048576) = b := ⟨_, rfl⟩
 rw [h1, h2, h3, h4]
 cases b1
 ·skip
  simp only [Bool.false_and, Bool.true_and]
  refine Pure.I Tryz.func115 [4] ?_
  simp -implicitDefEqProofs +decide only [go_sem, h1, h2, h3, h4]
  exact endF.V1 4 (.bool false)
 ·cases b2
  ·skip
   simp only [Bool.false_and, Bool.true_and]
   refine Pure.I Tryz.func115 [4] ?_
   simp -implicitDefEqProofs +decide only [go_sem, h1, h2, h3, h4]
   exact endF.V1 4 (.bool false)
  ·cases b3
   ·skip
    simp only [Bool.false_and, Bool.true_and]
    refine Pure.I Tryz.func115 [4] ?_
    simp -implicitDefEqProofs +decide only [go_sem, h1, h2, h3, h4]
    exact endF.V1 4 (.bool false)
   ·skip
    simp only [Bool.false_and, Bool.true_and]
    refine Pure.I Tryz.func115 [4] ?_
    simp -implicitDefEqProofs +decide only [go_sem, h1, h2, h3, h4]
    exact endF.V1 4 (.bool b4)
theorem rconst_ok (p q : Int) : Pure Tryz.prog 126 [.int .i64 p, .int .i64 q] [.t (.bool (constB p q))] := by
 unfold constB
 obtain ⟨b1, h1⟩ : ∃ b, decide (p ≥ -1048576) = b := ⟨_, rfl⟩
 obtain ⟨b2, h2⟩ : ∃ b, decide (p ≤ 1048576) = b := ⟨_, rfl⟩
 obtain ⟨b3, h3⟩ : ∃ b, decide (q ≥ 1) = b := ⟨_, rfl⟩
 obtain ⟨b4, h4⟩ : ∃ b, decide (q ≤ 1048576) = b := ⟨_, rfl⟩
 rw [h1, h2, h3, h4]
 cases b1
 ·skip
  simp only [Bool.false_and, Bool.true_and]
  refine Pure.I Tryz.func126 [4] ?_
  simp -implicitDefEqProofs +decide only [go_sem, h1, h2, h3, h4]
  exact endF.V1 4 (.bool false)
 ·cases b2
  ·skip
   simp only [Bool.false_and, Bool.true_and]
   refine Pure.I Tryz.func126 [4] ?_
   simp -implicitDefEqProofs +decide only [go_sem, h1, h2, h3, h4]
   exact endF.V1 4 (.bool false)
  ·cases b3
   ·skip
    simp only [Bool.false_and, Bool.true_and]
    refine Pure.I Tryz.func126 [4] ?_
    simp -implicitDefEqProofs +decide only [go_sem, h1, h2, h3, h4]
    exact endF.V1 4 (.bool false)
   ·skip
    simp only [Bool.false_and, Bool.true_and]
    refine Pure.I Tryz.func126 [4] ?_
    simp -implicitDefEqProofs +decide only [go_sem, h1, h2, h3, h4]
    exact endF.V1 4 (.bool b4)
theorem rwholeA_ok (a : Ag) (h : a.d.length < 1000000000) : Pure Tryz.prog 125 [a.T] [.t (.bool (decide ((a.v.length : Int) = cnt a.d)))] := by
 have c := rCount_ok a.d h
 obtain ⟨d, v⟩ := a
 dsimp only at *
 simp only [sI] at c
 refine Pure.I Tryz.func125 [2] ?_
 simp -implicitDefEqProofs +decide only [go_sem, Ag.T, sI, sS]
 refine Goes.drawN mixed ?_
 simp -implicitDefEqProofs +decide only [go_sem, List.length_map]
 refine CallD.P _ Tryz.call25 c ?_
 refine Sm ?_
 refine ⟨.mk (by kernel_rfl), ?_⟩
 apply run_sound 200
 refine Sm ?_
 exact endF.V1 2 (.bool (decide ((v.length : Int) = cnt d)))
noncomputable def wchkC (to : Ag) (b : Bool) : Int := if chk to.d ≠ 0 then chk to.d else if (to.v.length : Int) ≠ cnt to.d then 1 else if b = true then 0 else 1
theorem check_n (op : Int) (x : Atr) (to frm : Ag) (h : op < 1 ∨ 5 < op) : Pure Tryz.prog 62 [.int .i64 op, x.T, to.T, frm.T] [.t (.int .i64 14)] := by
 have ci := wis_ok op
 have e : (decide (op ≥ 1) && decide (op ≤ 5)) = false := by
  rcases h with h | h
  ·rw [decide_eq_false (show ¬ op ≥ 1 by omega)]; rfl
  ·rw [decide_eq_false (show ¬ op ≤ 5 by omega), Bool.and_false]
 rw [e] at ci
 obtain ⟨d, l⟩ := to
 obtain ⟨e, k⟩ := frm
 obtain ⟨n, a, b, c, p, q, r, s, kp, li⟩ := x
 refine Pure.I Tryz.func62 [8] ?_
 simp -implicitDefEqProofs +decide only [go_sem, Ag.T, sI, sS, Atr.T, I]
 refine CallG.P _ Tryz.call21 (ci) ?_
 refine Sm ?_
 exact endF.V1 8 (.int .i64 14)
theorem check_c (op : Int) (x : Atr) (to frm : Ag) (ht : to.d.length < 1000000000) (h1 : 4 ≤ op) (h3 : op ≤ 5) : Pure Tryz.prog 62 [.int .i64 op, x.T, to.T, frm.T] [.t (.int .i64 (wchkC to (constB x.p x.q)))] := by
 have ci := wis_ok op
 rw [decide_eq_true (show op ≥ 1 by omega), decide_eq_false (show ¬ op ≤ 3 by omega), decide_eq_true h3] at ci
 have c1 := check_ok to.d ht
 have c2 := wholeA_ok to ht
 have c3 := const_ok x.p x.q
 obtain ⟨bb, hbb⟩ : ∃ bb, constB x.p x.q = bb := ⟨_, rfl⟩
 rw [hbb] at c3 ⊢
 obtain ⟨v, hv⟩ : ∃ v, wchkC to bb = v := ⟨_, rfl⟩
 rw [hv]
 unfold wchkC at hv
 obtain ⟨d, l⟩ := to
 obtain ⟨e, k⟩ := frm
 obtain ⟨n, a, b, c, p, q, r, s, kp, li⟩ := x
 dsimp only at *
 simp only [Ag.T, sI, sS] at c1 c2
 refine Pure.I Tryz.func62 [8] ?_
 simp -implicitDefEqProofs +decide only [go_sem, Ag.T, sI, sS, Atr.T, I]
 refine CallG.P _ Tryz.call21 (ci) ?_
 refine Sm ?_
 refine CallG.P _ Tryz.call106 (c1) ?_
 refine Sm ?_
 refine selP_dec (fun g1 => ?_) (fun g1 => ?_)
 ·rw [if_pos g1] at hv
  subst hv
  refine Sm ?_
  exact endF.V1 8 (.int .i64 (chk d))
 rw [if_neg g1] at hv
 refine Sm ?_
 refine CallG.pure _ Tryz.call114 c2 (by simp only [List.all_cons, List.all_nil, noPtr, noPtrL, noPtrL_I, noPtrL_Sc, Bool.and_self]) (by first | rfl | (simp only [go_sem]; done) | (simp only [go_sem]; rfl)) ?_
 apply run_sound 200
 by_cases g2 : (l.length : Int) = cnt d
 ·rw [if_pos g2]
  rw [if_neg (fun h => h g2)] at hv
  refine Sm ?_
  refine CallG.P _ Tryz.call115 (c3) ?_
  cases bb
  ·rw [if_neg (by decide)] at hv
   subst hv
   refine Sm ?_
   exact endF.V1 8 (.int .i64 1)
  ·rw [if_pos rfl] at hv
   subst hv
   refine Sm ?_
   exact endF.V1 8 (.int .i64 0)
 ·rw [if_neg g2]
  rw [if_pos g2] at hv
  subst hv
  refine Sm ?_
  exact endF.V1 8 (.int .i64 1)
theorem rcheck_n (op : Int) (x : Atr) (to frm : Ag) (h : op < 1 ∨ 5 < op) : Pure Tryz.prog 69 [.int .i64 op, x.T, to.T, frm.T] [.t (.int .i64 14)] := by
 obtain ⟨d, l⟩ := to
 obtain ⟨e, k⟩ := frm
 obtain ⟨n, a, b, c, p, q, r, s, kp, li⟩ := x
 rcases Int.lt_or_le op 1 with h1 | h1
 ·have e1 : decide (op < 1) = true := decide_eq_true h1
  refine Pure.I Tryz.func69 [8] ?_
  simp -implicitDefEqProofs +decide only [go_sem, Ag.T, sI, sS, Atr.T, I, e1]
  exact endF.V1 8 (.int .i64 14)
 ·have e1 : decide (op < 1) = false := decide_eq_false (by omega)
  have e2 : decide ((5 : Int) < op) = true := decide_eq_true (by omega)
  refine Pure.I Tryz.func69 [8] ?_
  simp -implicitDefEqProofs +decide only [go_sem, Ag.T, sI, sS, Atr.T, I, e1, e2]
  exact endF.V1 8 (.int .i64 14)
theorem rcheck_c (op : Int) (x : Atr) (to frm : Ag) (ht : to.d.length < 1000000000) (h1 : 4 ≤ op) (h3 : op ≤ 5) : Pure Tryz.prog 69 [.int .i64 op, x.T, to.T, frm.T] [.t (.int .i64 (wchkC to (constB x.p x.q)))] := by
 have c1 := rCheck_ok to.d ht
 have c2 := rwholeA_ok to ht
 have c3 := rconst_ok x.p x.q
 obtain ⟨bb, hbb⟩ : ∃ bb, constB x.p x.q = bb := ⟨_, rfl⟩
 rw [hbb] at c3 ⊢
 obtain ⟨v, hv⟩ : ∃ v, wchkC to bb = v := ⟨_, rfl⟩
 rw [hv]
 unfold wchkC at hv
 obtain ⟨d, l⟩ := to
 obtain ⟨e, k⟩ := frm
 obtain ⟨n, a, b, c, p, q, r, s, kp, li⟩ := x
 dsimp only at *
 simp only [Ag.T, sI, sS] at c1 c2
 have e1 : decide (op < 1) = false := decide_eq_false (by omega)
 have e2 : decide ((5 : Int) < op) = false := decide_eq_false (by omega)
 have e3 : decide ((3 : Int) < op) = true := decide_eq_true (by omega)
 refine Pure.I Tryz.func69 [8] ?_
 simp -implicitDefEqProofs +decide only [go_sem, Ag.T, sI, sS, Atr.T, I, e1, e2]
 refine CallG.P _ Tryz.call78 (c1) ?_
 refine Sm ?_
 refine selP_dec (fun g1 => ?_) (fun g1 => ?_)
 ·rw [if_pos g1] at hv
  subst hv
  refine Sm ?_
  exact endF.V1 8 (.int .i64 (chk d))
 rw [if_neg g1] at hv
 refine Sm ?_
 refine CallG.pure _ Tryz.call125 c2 (by simp only [List.all_cons, List.all_nil, noPtr, noPtrL, noPtrL_I, noPtrL_Sc, Bool.and_self]) (by first | rfl | (simp only [go_sem]; done) | (simp only [go_sem]; rfl)) ?_
 apply run_sound 200
 by_cases g2 : (l.length : Int) = cnt d
 ·rw [decide_eq_true g2]
  rw [if_neg (fun h => h g2)] at hv
  simp -implicitDefEqProofs +decide only [go_sem, e3]
  refine CallG.P _ Tryz.call126 (c3) ?_
  cases bb
  ·rw [if_neg (by decide)] at hv
   subst hv
   simp -implicitDefEqProofs +decide only [go_sem, e3]
   exact endF.V1 8 (.int .i64 1)
  ·rw [if_pos rfl] at hv
   subst hv
   simp -implicitDefEqProofs +decide only [go_sem, e3]
   exact endF.V1 8 (.int .i64 0)
 ·rw [decide_eq_false g2]
  rw [if_pos g2] at hv
  subst hv
  refine Sm ?_
  exact endF.V1 8 (.int .i64 1)
theorem rcheck_w (op : Int) (x : Atr) (to frm : Ag) (ht : to.d.length < 1000000000) (hf : frm.d.length < 1000000000) (h1 : 1 ≤ op) (h3 : op ≤ 3) : Pure Tryz.prog 69 [.int .i64 op, x.T, to.T, frm.T] [.t (.int .i64 (wchk to frm))] := by
 have c1 := rCheck_ok to.d ht
 have c2 := rwholeA_ok to ht
 have c3 := rCheck_ok frm.d hf
 have c4 := rwholeA_ok frm hf
 have c5 := rFits_ok frm.d to.d hf ht
 obtain ⟨v, hv⟩ : ∃ v, wchk to frm = v := ⟨_, rfl⟩
 rw [hv]
 unfold wchk at hv
 obtain ⟨d, l⟩ := to
 obtain ⟨e, k⟩ := frm
 obtain ⟨n, a, b, c, p, q, r, s, kp, li⟩ := x
 dsimp only at *
 simp only [Ag.T, sI, sS] at c1 c2 c3 c4 c5
 have e1 : decide (op < 1) = false := decide_eq_false (by omega)
 have e2 : decide ((5 : Int) < op) = false := decide_eq_false (by omega)
 have e3 : decide ((3 : Int) < op) = false := decide_eq_false (by omega)
 refine Pure.I Tryz.func69 [8] ?_
 simp -implicitDefEqProofs +decide only [go_sem, Ag.T, sI, sS, Atr.T, I, e1, e2]
 refine CallG.P _ Tryz.call78 (c1) ?_
 refine Sm ?_
 refine selP_dec (fun g1 => ?_) (fun g1 => ?_)
 ·rw [if_pos g1] at hv
  subst hv
  refine Sm ?_
  exact endF.V1 8 (.int .i64 (chk d))
 rw [if_neg g1] at hv
 refine Sm ?_
 refine CallG.pure _ Tryz.call125 c2 (by simp only [List.all_cons, List.all_nil, noPtr, noPtrL, noPtrL_I, noPtrL_Sc, Bool.and_self]) (by first | rfl | (simp only [go_sem]; done) | (simp only [go_sem]; rfl)) ?_
 apply run_sound 200
 by_cases g2 : (l.length : Int) = cnt d
 ·rw [decide_eq_true g2]
  rw [if_neg (fun h => h g2)] at hv
  simp -implicitDefEqProofs +decide only [go_sem, e3]
  refine CallG.P _ Tryz.call78 (c3) ?_
  refine Sm ?_
  refine selP_dec (fun g3 => ?_) (fun g3 => ?_)
  ·rw [if_pos g3] at hv
   subst hv
   refine Sm ?_
   exact endF.V1 8 (.int .i64 (chk e))
  rw [if_neg g3] at hv
  refine Sm ?_
  refine CallG.pure _ Tryz.call125 c4 (by simp only [List.all_cons, List.all_nil, noPtr, noPtrL, noPtrL_I, noPtrL_Sc, Bool.and_self]) (by first | rfl | (simp only [go_sem]; done) | (simp only [go_sem]; rfl)) ?_
  apply run_sound 200
  by_cases g4 : (k.length : Int) = cnt e
  ·rw [decide_eq_true g4]
   rw [if_neg (fun h => h g4)] at hv
   refine Sm ?_
   refine CallG.P _ Tryz.call93 (c5) ?_
   refine Sm ?_
   by_cases g5 : twoS e d = (d, 0)
   ·rw [if_neg (fun h => h g5)] at hv
    subst hv
    have t5 : decide (twoS e d = (d, 0)) = true := decide_eq_true g5
    simp -implicitDefEqProofs +decide only [go_sem, t5]
    exact endF.V1 8 (.int .i64 0)
   ·rw [if_pos g5] at hv
    subst hv
    have t5 : decide (twoS e d = (d, 0)) = false := decide_eq_false g5
    simp -implicitDefEqProofs +decide only [go_sem, t5]
    exact endF.V1 8 (.int .i64 8)
  ·rw [decide_eq_false g4]
   rw [if_pos g4] at hv
   subst hv
   refine Sm ?_
   exact endF.V1 8 (.int .i64 1)
 ·rw [decide_eq_false g2]
  rw [if_pos g2] at hv
  subst hv
  refine Sm ?_
  exact endF.V1 8 (.int .i64 1)
end Go.Fm
/- Whether scalars are not too long; differences; what is taken back. -/
namespace Go.Fm
open Go.Proofs
set_option maxRecDepth 100000
attribute [local irreducible] tiOf

def fitsV : Vx → Bool
 | .q r => decide (bitsR r ≤ 512)
 | .d _ => true
theorem pbits0_ok : Pure Tryz.prog 192 [.agg [.bool false, .slice [], .slice []]] [.t (.int .i64 0)] := by
 have c1 := natBits_ok [] (by simp [WOK]) (by decide)
 have e : ((bitLen (nv []) : Nat) : Int) = 0 := rfl
 rw [e] at c1
 have e1 : sW [] = T.slice [] := rfl
 rw [e1] at c1
 refine Pure.I Tryz.func192 [2] ?_
 refine Sm ?_
 refine Goes.drawN mixed ?_
 refine Sm ?_
 refine CallD.P _ Tryz.call184 c1 ?_
 refine Sm ?_
 refine CallD.P _ Tryz.call184 c1 ?_
 refine Sm ?_
 refine ⟨.mk (by kernel_rfl), ?_⟩
 apply run_sound 200
 refine Sm ?_
 exact endF.V1 2 (.int .i64 0)
theorem bfitsX_ok (v : Vx) (h : v.B 10000000) : Pure Tryz.prog 123 [v.T] [.t (.bool (fitsV v))] := by
 cases v with
 | q r => exact bfits_ok r h
 | d b =>
   have c := pbits0_ok
   show Pure _ _ _ [.t (.bool true)]
   rw [Vx_d]
   refine Pure.I Tryz.func123 [2] ?_
   refine Sm ?_
   refine CallG.P _ Tryz.call192 (c) ?_
   refine Sm ?_
   exact endF.V1 2 (.bool true)
theorem rbits_okQ (r : Rat) (h : QB r 10000000) : Pure Tryz.prog 193 [(qR r).T] [.t (.int .i64 (bitsR r : Nat))] := by
 have h1 := h.n
 have h2 := h.d
 have c1 := rBits_ok (wordsOf r.num.natAbs) (WOK_wordsOf _) (by omega)
 have c2 := rBits_ok (wordsOf r.den) (WOK_wordsOf _) (by omega)
 rw [nv_wordsOf] at c1 c2
 rw [qT]
 unfold bitsR
 generalize wordsOf r.num.natAbs = p at *
 generalize wordsOf r.den = q at *
 generalize bitLen r.num.natAbs = x at *
 generalize bitLen r.den = y at *
 have hmx : (if x < y then (y : Int) else (x : Int)) = ((max x y : Nat) : Int) := by split <;> omega
 refine Pure.I Tryz.func193 [2] ?_
 refine Sm ?_
 refine Goes.drawN mixed ?_
 refine Sm ?_
 refine CallD.P _ Tryz.call139 c1 ?_
 refine Sm ?_
 refine CallD.P _ Tryz.call139 c2 ?_
 simp -implicitDefEqProofs +decide only [go_sem, hmx]
 refine ⟨.mk (by kernel_rfl), ?_⟩
 apply run_sound 200
 refine Sm ?_
 exact endF.V1 2 (.int .i64 (max x y : Nat))
theorem rbits0_ok : Pure Tryz.prog 193 [.agg [.bool false, .slice [], .slice []]] [.t (.int .i64 0)] := by
 have c1 := rBits_ok [] (by simp [WOK]) (by decide)
 have e : ((bitLen (nv []) : Nat) : Int) = 0 := rfl
 rw [e] at c1
 have e1 : sW [] = T.slice [] := rfl
 rw [e1] at c1
 refine Pure.I Tryz.func193 [2] ?_
 refine Sm ?_
 refine Goes.drawN mixed ?_
 refine Sm ?_
 refine CallD.P _ Tryz.call139 c1 ?_
 refine Sm ?_
 refine CallD.P _ Tryz.call139 c1 ?_
 refine Sm ?_
 refine ⟨.mk (by kernel_rfl), ?_⟩
 apply run_sound 200
 refine Sm ?_
 exact endF.V1 2 (.int .i64 0)
theorem rfitsX_ok (v : Vx) (h : v.B 10000000) : Pure Tryz.prog 127 [v.T] [.t (.bool (fitsV v))] := by
 cases v with
 | q r =>
   have c := rbits_okQ r h
   rw [qT] at c
   show Pure _ _ _ [.t (.bool (decide (bitsR r ≤ 512)))]
   generalize bitsR r = b at *
   have hd : decide ((b : Int) ≤ 512) = decide (b ≤ 512) := decide_eq_decide.2 (by omega)
   rw [Vx_q, vT_eq]
   refine Pure.I Tryz.func127 [2] ?_
   refine Sm ?_
   refine CallG.P _ Tryz.call193 (c) ?_
   simp -implicitDefEqProofs +decide only [go_sem, hd]
   exact endF.V1 2 (.bool (decide (b ≤ 512)))
 | d b =>
   have c := rbits0_ok
   show Pure _ _ _ [.t (.bool true)]
   rw [Vx_d]
   refine Pure.I Tryz.func127 [2] ?_
   refine Sm ?_
   refine CallG.P _ Tryz.call193 (c) ?_
   refine Sm ?_
   exact endF.V1 2 (.bool true)

theorem subV_B {x y : Vx} {a b : Nat} (h : x.md = y.md) (hx : x.B a) (hy : y.B b) : (subV x y).B (a + b + 1) := by
 cases x <;> cases y <;> first | (simp [Vx.md] at h; done) | exact addD_lt hx (flipD_lt hy) | skip
 rename_i r s
 show QB (r - s) _
 rw [Rat.sub_eq_add_neg]
 exact QB_add hx ⟨by rw [show (-s).num = -s.num from rfl, Int.natAbs_neg]; exact hy.n, hy.d⟩
theorem exQSub_ok (h : Heap) (m id : Nat) (r s : Rat) (hb : ∀ l, Lab.pool l = false → h l = none) (hr : QB r 10000000) (hs : QB s 10000000) :
  Ret Tryz.prog 165 [.ptr id, .int .i64 5, (qR r).T, (qR s).T] h m [.t (qR (r - s)).T] h m := by
 have hl : ∀ d j, h (.loc d j) = none := fun d j => hb _ rfl
 have c1 := sub_okQ r s hr hs
 refine Ret.introC Tryz.func165 rfl (rv := [.c 8 65]) rfl (by simp [Tryz.ntmps165]) (by decide) (sites := fun _ => false) hb (Keeps.refl _) ?_
 simp only [qT] at c1 ⊢
 apply run_sound 200
 simp -implicitDefEqProofs +decide only [go_sem, hl]
 refine CallG.PS _ Tryz.call216 (c1) ?_
 simp -implicitDefEqProofs +decide only [go_sem, hl, sW]
 exact endC.one (.inr rfl) (by first | rfl | (simp -implicitDefEqProofs +decide only [go_sem, valC, hl, sW]; done) | (simp -implicitDefEqProofs +decide only [go_sem, valC, hl, sW]; rfl)) (by first | rfl | (simp -implicitDefEqProofs +decide only [go_sem, hl, sW]; done) | (simp -implicitDefEqProofs +decide only [go_sem, hl, sW]; rfl)) (fun l hp => by cases l <;> first | rfl | cases hp) rfl
theorem bankSubG_ok (h : Heap) (m id k : Nat) (md : Int) (mc : AV) (tie : Bool) (x y : Vx) (hb : ∀ l, Lab.pool l = false → h l = none) (hk : h (.obj id) = some (bankG md mc k tie)) (hkb : k < 1000000000) (mx : x.md = md) (my : y.md = md) (bx : x.B 10000000) (by' : y.B 10000000) :
  Ret Tryz.prog 66 [.ptr id, x.T, y.T] h m [.t (subV x y).T] (upd h (.obj id) (some (bankG md mc (k + 1) tie))) m := by
 have hl : ∀ d j, h (.loc d j) = none := fun d j => hb _ rfl
 have c1 : Ret Tryz.prog 110 [.ptr id, .int .i64 5, x.T, y.T, .bool true] h m [.t (subV x y).T] (upd h (.obj id) (some (bankG md mc (k + 1) tie))) m := by
  subst mx
  cases x with
  | q r => cases y with
    | q s => exact doQ_ok 5 (r - s) h m id k mc tie r s hb hk hkb fun h hb => exQSub_ok h m id r s hb bx by'
    | d b => simp [Vx.md] at my
  | d a => cases y with
    | q s => simp [Vx.md] at my
    | d b => exact doD_ok 5 (addD a (flipD b)) h m id k mc tie a b hb hk hkb (dblSub_ok a b bx by')
 refine Ret.introC Tryz.func66 rfl (rv := [.c 6 68]) rfl (by simp [Tryz.ntmps66]) (by decide) (sites := fun _ => false) (upd_hb hb) bank_keeps ?_
 simp only [Vx_T] at c1 ⊢
 apply run_sound 200
 simp -implicitDefEqProofs +decide only [go_sem, hl]
 refine CallG.pool _ Tryz.call110 c1 hb (by rintro (_ | _ | _ | _ | _) hp <;> first | (cases hp; done) | simp -implicitDefEqProofs +decide only [go_sem]) ?_
 apply run_sound 200
 simp -implicitDefEqProofs +decide only [go_sem, hl, sW]
 exact endC.oneV (.inr rfl) (by first | (simp -implicitDefEqProofs +decide only [go_sem, valC, hl, sW]; done) | (simp -implicitDefEqProofs +decide only [go_sem, valC, hl, sW]; rfl)) (by first | rfl | (simp -implicitDefEqProofs +decide only [go_sem, hl, sW]; done) | (simp -implicitDefEqProofs +decide only [go_sem, hl, sW]; rfl)) (by rintro (_ | _ | _ | _ | _) hp <;> first | (cases hp; done) | simp -implicitDefEqProofs +decide only [go_sem, hl, sW]) rfl
theorem rexSub_ok (h : Heap) (m id : Nat) (r s : Rat) (hb : ∀ l, Lab.pool l = false → h l = none) (hr : QB r 40000) (hs : QB s 40000) (zr : ZB r 30000) (zs : ZB s 30000) :
  Ret Tryz.prog 113 [.ptr id, .int .i64 5, (qR r).T, (qR s).T] h m [.t (qR (r - s)).T] h m := by
 have hl : ∀ d j, h (.loc d j) = none := fun d j => hb _ rfl
 have c1 := rSub_okQ r s hr hs zr zs
 refine Ret.introC Tryz.func113 rfl (rv := [.c 8 65]) rfl (by simp [Tryz.ntmps113]) (by decide) (sites := fun _ => false) hb (Keeps.refl _) ?_
 simp only [qT] at c1 ⊢
 apply run_sound 200
 simp -implicitDefEqProofs +decide only [go_sem, hl]
 refine CallG.PS _ Tryz.call178 (c1) ?_
 simp -implicitDefEqProofs +decide only [go_sem, hl, sW]
 exact endC.one (.inr rfl) (by first | rfl | (simp -implicitDefEqProofs +decide only [go_sem, valC, hl, sW]; done) | (simp -implicitDefEqProofs +decide only [go_sem, valC, hl, sW]; rfl)) (by first | rfl | (simp -implicitDefEqProofs +decide only [go_sem, hl, sW]; done) | (simp -implicitDefEqProofs +decide only [go_sem, hl, sW]; rfl)) (fun l hp => by cases l <;> first | rfl | cases hp) rfl
theorem rdoSub_ok (h : Heap) (m id k : Nat) (md : Int) (mc : AV) (tie : Bool) (x y : Vx) (hb : ∀ l, Lab.pool l = false → h l = none) (hk : h (.obj id) = some (bankR md mc k tie)) (hkb : k < 1000000000) (mx : x.md = md) (my : y.md = md)
  (bx : x.B 40000) (by' : y.B 40000) (zx : x.Z 30000) (zy : y.Z 30000) :
  Ret Tryz.prog 60 [.ptr id, .int .i64 5, x.T, y.T] h m [.t (subV x y).T] (upd h (.obj id) (some (bankR md mc (k + 1) tie))) m := by
 subst mx
 cases x with
 | q r => cases y with
   | q s => exact rdoQ_ok 5 (r - s) h m id k mc tie r s hb hk hkb (rexSub_ok h m id r s hb bx by' zx zy)
   | d b => simp [Vx.md] at my
 | d a => cases y with
   | q s => simp [Vx.md] at my
   | d b => exact rdoD_ok 5 (addD a (flipD b)) h m id k mc tie a b hb hk hkb (rdblSub_ok a b bx by')

def markX (k : Nat) : T := .agg [.int .i64 0, .int .i64 0, .int .i64 0, .int .i64 k, .int .i64 0, .bool false, .int .i64 0]
theorem markG_ok (h : Heap) (m id k : Nat) (md : Int) (hb : ∀ l, Lab.pool l = false → h l = none) (hk : h (.obj id) = some (bankG md .nil k false)) :
  Ret Tryz.prog 63 [.ptr id] h m [.t (markX k)] h m := by
 have hl : ∀ d j, h (.loc d j) = none := fun d j => hb _ rfl
 unfold bankG at hk
 refine Ret.introC Tryz.func63 rfl (rv := [.c 2 _]) rfl (by simp [Tryz.ntmps63]) (by decide) (sites := fun _ => false) hb (Keeps.refl _) ?_
 apply run_sound 200
 simp -implicitDefEqProofs +decide only [go_sem, hl]
 refine Goes.drawN mixed ?_
 simp -implicitDefEqProofs +decide only [go_sem, hk, hl, List.length_nil]
 refine ⟨.mk (by kernel_rfl), ?_⟩
 apply run_sound 200
 refine Sm ?_
 exact endC.one (.inr rfl) (by first | rfl | (simp -implicitDefEqProofs +decide only [go_sem, valC, hl]; done) | (simp -implicitDefEqProofs +decide only [go_sem, valC, hl]; rfl)) (by first | rfl | (simp -implicitDefEqProofs +decide only [go_sem, hl]; done) | (simp -implicitDefEqProofs +decide only [go_sem, hl]; rfl)) (fun l hp => by cases l <;> first | rfl | cases hp) rfl
set_option maxHeartbeats 2000000 in
theorem undoG_ok (h : Heap) (m id k k' : Nat) (md : Int) (hb : ∀ l, Lab.pool l = false → h l = none) (hk : h (.obj id) = some (bankG md .nil k false)) (hkk : k' ≤ k) :
  Ret Tryz.prog 124 [.ptr id, markX k'] h m [.t (.bool true)] (upd h (.obj id) (some (bankG md .nil k' false))) m := by
 have hl : ∀ d j, h (.loc d j) = none := fun d j => hb _ rfl
 have d1 : decide ((k' : Int) < 0) = false := decide_eq_false (by omega)
 have d2 : decide (k < k') = false := decide_eq_false (by omega)
 have hk2 := hk
 unfold bankG at hk2
 refine Ret.intro Tryz.func124 rfl (rt := [4]) rfl (by simp [Tryz.ntmps124]) (by decide) (sites := fun _ => false) (upd_hb hb) bank_keeps ?_
 apply run_sound 200
 simp -implicitDefEqProofs +decide only [go_sem, markX, hl]
 refine Goes.drawP mixed (Calm.of (by repeat first | exact Clean.und | refine Clean.upd ?_ rfl | refine Clean.upd ?_ (by simp only [cleanA, cleanL, ])) (by repeat first | exact HCalm.none | exact HCalm.hb hb | exact HCalm.hb (bank_hb hb) | refine HCalm.row ?_ | refine HCalm.box ?_ (by first | rfl | (simp only [cleanA, cleanL, ]; done) | assumption))) ?_
 simp -implicitDefEqProofs +decide only [go_sem, hk2, hl, List.length_nil, List.append_eq, List.cons_append, List.nil_append, d1, d2]
 refine ⟨.mk (by kernel_rfl), ?_⟩
 apply run_sound 200
 refine Sm ?_
 refine Goes.drawP mixed (Calm.of (by repeat first | exact Clean.und | refine Clean.upd ?_ rfl | refine Clean.upd ?_ (by simp only [cleanA, cleanL, ])) (by repeat first | exact HCalm.none | exact HCalm.hb hb | exact HCalm.hb (bank_hb hb) | refine HCalm.row ?_ | refine HCalm.box ?_ (by first | rfl | (simp only [cleanA, cleanL, ]; done) | assumption))) ?_
 simp -implicitDefEqProofs +decide only [go_sem, hk2, hl, List.length_nil, d1, d2]
 refine ⟨.mk (by kernel_rfl), ?_⟩
 apply run_sound 200
 refine Sm ?_
 refine Goes.drawP mixed (Calm.of (by repeat first | exact Clean.und | refine Clean.upd ?_ rfl | refine Clean.upd ?_ (by simp only [cleanA, cleanL, ])) (by repeat first | exact HCalm.none | exact HCalm.hb hb | exact HCalm.hb (bank_hb hb) | refine HCalm.row ?_ | refine HCalm.box ?_ (by first | rfl | (simp only [cleanA, cleanL, ]; done) | assumption))) ?_
 simp -implicitDefEqProofs +decide only [go_sem, hk2, hl, List.length_nil, d1, d2]
 refine ⟨.mk (by kernel_rfl), ?_⟩
 apply run_sound 200
 refine Sm ?_
 exact endF.vals [(4, .bool true)] (.inr rfl) (vals_t (by first | rfl | (simp -implicitDefEqProofs +decide only [go_sem]; done) | (simp -implicitDefEqProofs +decide only [go_sem]; rfl)) rfl vals_nil) (by rintro (_ | _ | _ | _ | _) hp <;> first | (cases hp; done) | simp -implicitDefEqProofs +decide only [go_sem, bankG]) rfl
end Go.Fm
/- What went wrong behind a mark. -/
namespace Go.Fm
open Go.Proofs
set_option maxRecDepth 100000
attribute [local irreducible] tiOf

theorem copyX_ok (v : Vx) (h : v.B 10000000) : Pure Tryz.prog 67 [v.T] [.t v.T] := copy_ok v.sc (ScB_Vx h (by decide))
def fitE (l : List Vx) : Int := if l.all fitsV = true then 0 else 5
theorem fitE_cases (l : List Vx) : fitE l = 0 ∧ l.all fitsV = true ∨ fitE l = 5 ∧ l.all fitsV = false := by
 unfold fitE
 cases h : l.all fitsV
 ·exact .inr ⟨rfl, rfl⟩
 ·exact .inl ⟨rfl, rfl⟩
theorem fitE_snoc {l : List Vx} {i : Nat} {v : Vx} (h : l[i]? = some v) : fitE (l.take (i + 1)) = if fitE (l.take i) = 0 then (if fitsV v = true then 0 else 5) else 5 := by
 unfold fitE
 rw [take_snoc h, List.all_append]
 cases (l.take i).all fitsV <;> cases hv : fitsV v <;> simp [hv]
set_option maxHeartbeats 2000000 in
theorem doneG_ok (h : Heap) (m id k k' : Nat) (md : Int) (l : List Vx) (hb : ∀ l, Lab.pool l = false → h l = none) (hk : h (.obj id) = some (bankG md .nil k false)) (hkk : k' ≤ k) (hl : l.length < 1000000000) (hq : ∀ v ∈ l, v.B 10000000) :
  Ret Tryz.prog 68 [.ptr id, markX k', sX l] h m [.t (.int .i64 (fitE l))] (upd h (.obj id) (some (bankG md .nil (if fitE l = 0 then k else k') false))) m := by
 have hloc : ∀ d j, h (.loc d j) = none := fun d j => hb _ rfl
 have c1 := errG_ok h m id k md .nil false hb hk
 have c3 := undoG_ok h m id k k' md hb hk hkk
 refine Ret.intro Tryz.func68 rfl (rt := [6]) rfl (by simp [Tryz.ntmps68]) (by decide) (sites := fun _ => false) (upd_hb hb) bank_keeps ?_
 apply run_sound 200
 simp -implicitDefEqProofs +decide only [go_sem, hloc, markX, sX]
 refine CallG.pool _ Tryz.call17 c1 hb (by rintro (_ | _ | _ | _ | _) hp <;> first | (cases hp; done) | simp -implicitDefEqProofs +decide only [go_sem, hloc]) ?_
 apply run_sound 200
 simp -implicitDefEqProofs +decide only [go_sem, List.length_map]
 refine Goes.loop (X := Nat) (fun i => ⟨ofL [(0, .t (.ptr id)), (4, .bp (.loc 4 0) 0), (7, .t (.int .i64 (fitE (l.take i)))), (12, .t (sX l)), (13, .t (.int .i64 l.length)), (14, .t (.int .i64 i))], ofH h [(.loc 4 0, .box [.t (.int .i64 0), .t (.int .i64 0), .t (.int .i64 0), .t (.int .i64 k'), .t (.int .i64 0), .t (.bool false), .t (.int .i64 0)])], m⟩) (fun i => i ≤ l.length) (fun i => l.length - i) 0 ?_ (by omega) ?_
 ·refine Wk.boxes _ _ hb rfl rfl ?_ (by rintro (_ | _ | _ | _ | _) hp <;> first | (cases hp; done) | simp -implicitDefEqProofs +decide only [go_sem, hloc]) ?_ ?_
  ·simp -implicitDefEqProofs +decide only [go_sem, sX, hloc] <;> first | rfl | exact ⟨rfl, rfl⟩ | skip
  ·have : fitE (l.take 0) = 0 := rfl
   simp -implicitDefEqProofs +decide only [go_sem, sX, this] <;> rfl
  ·simp -implicitDefEqProofs +decide only [go_sem, sX]
 rintro i hi J hJ
 apply run_sound 200
 refine SmX ?_
 refine selP_dec (fun hc => ?_) (fun hc => ?_)
 ·obtain ⟨v, hv⟩ := getI (show i < l.length by omega)
  have hw := wS (show i < 1000000000000 by omega)
  have c2 := bfitsX_ok v (hq v (List.mem_of_getElem? hv))
  have hsn := fitE_snoc hv
  simp only [Vx_T] at c2
  rcases fitE_cases (l.take i) with ⟨e0, _⟩ | ⟨e0, _⟩
  ·rw [e0] at hsn ⊢
   rw [if_pos rfl] at hsn
   simp -implicitDefEqProofs +decide only [go_sem, hv, Vx_T, hloc, ofH]
   refine CallG.P _ Tryz.call123 (c2) ?_
   cases hf : fitsV v
   ·rw [hf, if_neg (by decide)] at hsn
    simp -implicitDefEqProofs +decide only [go_sem, hw]
    refine hJ (i + 1) _ (by omega) (by omega) (Wk.boxes _ _ hb rfl rfl ?_ (by rintro (_ | _ | _ | _ | _) hp <;> first | (cases hp; done) | simp -implicitDefEqProofs +decide only [go_sem, hloc]) ?_ ?_)
    ·simp -implicitDefEqProofs +decide only [go_sem, sX, ofH, hloc] <;> first | rfl | exact ⟨rfl, rfl⟩ | skip
    ·simp -implicitDefEqProofs +decide only [go_sem, sX, hsn]
    ·simp -implicitDefEqProofs +decide only [go_sem, sX]
   ·rw [hf, if_pos rfl] at hsn
    simp -implicitDefEqProofs +decide only [go_sem, hw]
    refine hJ (i + 1) _ (by omega) (by omega) (Wk.boxes _ _ hb rfl rfl ?_ (by rintro (_ | _ | _ | _ | _) hp <;> first | (cases hp; done) | simp -implicitDefEqProofs +decide only [go_sem, hloc]) ?_ ?_)
    ·simp -implicitDefEqProofs +decide only [go_sem, sX, ofH, hloc] <;> first | rfl | exact ⟨rfl, rfl⟩ | skip
    ·simp -implicitDefEqProofs +decide only [go_sem, sX, hsn]
    ·simp -implicitDefEqProofs +decide only [go_sem, sX]
  ·rw [e0] at hsn ⊢
   rw [if_neg (by decide)] at hsn
   simp -implicitDefEqProofs +decide only [go_sem, hv, Vx_T, hloc, ofH]
   simp -implicitDefEqProofs +decide only [go_sem, hw]
   refine hJ (i + 1) _ (by omega) (by omega) (Wk.boxes _ _ hb rfl rfl ?_ (by rintro (_ | _ | _ | _ | _) hp <;> first | (cases hp; done) | simp -implicitDefEqProofs +decide only [go_sem, hloc]) ?_ ?_)
   ·simp -implicitDefEqProofs +decide only [go_sem, sX, ofH, hloc] <;> first | rfl | exact ⟨rfl, rfl⟩ | skip
   ·simp -implicitDefEqProofs +decide only [go_sem, sX, hsn]
   ·simp -implicitDefEqProofs +decide only [go_sem, sX]
 ·obtain rfl : i = l.length := by omega
  rw [List.take_length]
  rcases fitE_cases l with ⟨e0, _⟩ | ⟨e0, _⟩
  ·rw [e0, if_pos rfl]
   refine Sm ?_
   refine endF.vals [(6, .int .i64 0)] (.inr rfl) (vals_t (by first | rfl | (simp -implicitDefEqProofs +decide only [go_sem]; done) | (simp -implicitDefEqProofs +decide only [go_sem]; rfl)) rfl vals_nil) ?_ rfl
   intro lb hp
   cases lb with
   | obj id' =>
     by_cases e : Lab.obj id' = .obj id
     ·rw [e, upd_same]
      simp -implicitDefEqProofs +decide only [go_sem, hk]
     ·rw [upd_ne _ _ _ _ e]
      simp -implicitDefEqProofs +decide only [go_sem]
   | _ => first | (cases hp; done) | simp -implicitDefEqProofs +decide only [go_sem]
  ·rw [e0, if_neg (by decide)]
   simp -implicitDefEqProofs +decide only [go_sem, ofH, hloc]
   simp only [markX] at c3
   refine CallG.pool _ Tryz.call124 c3 hb (by rintro (_ | _ | _ | _ | _) hp <;> first | (cases hp; done) | simp -implicitDefEqProofs +decide only [go_sem, hloc]) ?_
   apply run_sound 200
   refine Sm ?_
   exact endF.vals [(6, .int .i64 5)] (.inr rfl) (vals_t (by first | rfl | (simp -implicitDefEqProofs +decide only [go_sem]; done) | (simp -implicitDefEqProofs +decide only [go_sem]; rfl)) rfl vals_nil) (by rintro (_ | _ | _ | _ | _) hp <;> first | (cases hp; done) | simp -implicitDefEqProofs +decide only [go_sem]) rfl

def bankT (md : Int) (k : Nat) : T := .agg [.int .i64 md, .int .i64 0, .int .i64 k, .slice [], .bool false]
theorem rdone_ok (md : Int) (k : Nat) (l : List Vx) (hl : l.length < 1000000000) (hq : ∀ v ∈ l, v.B 10000000) : Pure Tryz.prog 71 [bankT md k, sX l] [.t (.int .i64 (fitE l))] := by
 refine Pure.I Tryz.func71 [4] ?_
 simp -implicitDefEqProofs +decide only [go_sem, bankT, sX]
 refine Goes.loop (X := Nat) (fun i => ⟨ofL [(1, .t (sX l)), (4, .t (.int .i64 0)), (12, .t (.int .i64 l.length)), (13, .t (.int .i64 i))], fun _ => none, 0⟩) (fun i => i ≤ l.length ∧ (l.take i).all fitsV = true) (fun i => l.length - i) 0 ?_ (by simp) ?_
 ·exact (Wk.mixed _ (fun _ _ => rfl) rfl (fun l hp => by cases l <;> first | rfl | cases hp) (by simp -implicitDefEqProofs +decide only [go_sem, sX, List.length_map]) (by simp -implicitDefEqProofs +decide only [go_sem, sX, List.length_map]))
 rintro i ⟨hi, hall⟩ J hJ
 apply run_sound 200
 refine SmX ?_
 refine selP_dec (fun hc => ?_) (fun hc => ?_)
 ·obtain ⟨v, hv⟩ := getI (show i < l.length by omega)
  have hw := wS (show i < 1000000000000 by omega)
  have c2 := rfitsX_ok v (hq v (List.mem_of_getElem? hv))
  simp only [Vx_T] at c2
  simp -implicitDefEqProofs +decide only [go_sem, hv, Vx_T]
  refine CallG.P _ Tryz.call127 (c2) ?_
  cases hf : fitsV v
  ·have e5 : fitE l = 5 := by
    unfold fitE
    rw [if_neg]
    intro ha
    rw [List.all_eq_true] at ha
    rw [ha v (List.mem_of_getElem? hv)] at hf
    cases hf
   rw [e5]
   refine Sm ?_
   exact endF.V1 4 (.int .i64 5)
  ·simp -implicitDefEqProofs +decide only [go_sem, hw]
   refine hJ (i + 1) _ ⟨by omega, ?_⟩ (by omega) (Wk.mixed _ (fun _ _ => rfl) rfl (fun l hp => by cases l <;> first | rfl | cases hp) (by simp -implicitDefEqProofs +decide only [go_sem, sX, hw]) (by simp -implicitDefEqProofs +decide only [go_sem, sX, hw]))
   rw [take_snoc hv, List.all_append, hall]
   simp [hf]
 ·obtain rfl : i = l.length := by omega
  rw [List.take_length] at hall
  have e0 : fitE l = 0 := by unfold fitE; rw [if_pos hall]
  rw [e0]
  refine Sm ?_
  exact endF.V1 4 (.int .i64 0)
end Go.Fm
/- Writes, by the program, on exact numbers or doubles. -/
namespace Go.Fm
open Go.Proofs
set_option maxRecDepth 100000
attribute [local irreducible] tiOf

def wrO (op : Int) (x y c : Vx) : Vx := if op = 1 then y else if op = 2 then addV x y else if op = 3 then subV x y else if op = 4 then mulV x c else c
def wrX (op : Int) (f t : List Int) (xs ys : List Vx) (c : Vx) (n : Nat) : List Vx := (List.range n).map fun (i : Nat) => wrO op (xs.getD i c) (ys.getD (srcN f t (i : Int)).toNat c) c
theorem wrX_length (op : Int) (f t : List Int) (xs ys : List Vx) (c : Vx) (n : Nat) : (wrX op f t xs ys c n).length = n := by simp [wrX]
theorem wrX_snoc (op : Int) {f t : List Int} {xs ys : List Vx} {c : Vx} {n q : Nat} {x y z : Vx} (hx : xs[n]? = some x) (hq : srcN f t (n : Int) = (q : Int)) (hy : ys[q]? = some y) (hz : wrO op x y c = z) :
  (wrX op f t xs ys c n).map Vx.T ++ [.agg [.bool z.neg, sW z.p, sW z.qq, .int .u64 z.bits, .int .i64 0]] = (wrX op f t xs ys c (n + 1)).map Vx.T := by
 unfold wrX
 rw [List.range_succ, List.map_append, List.map_append]
 simp [hx, hq, hy, hz, Vx_T]
def opsW (op : Int) (n : Nat) : Nat := if op = 1 ∨ op = 5 then 0 else n
theorem opsW_le (op : Int) (n : Nat) : opsW op n ≤ n := by unfold opsW; split <;> omega
theorem wrO_ok {op : Int} {x y c : Vx} {md : Int} {a : Nat} (h1 : 1 ≤ op) (h3 : op ≤ 3) (hx : x.md = md ∧ x.B a) (hy : y.md = md ∧ y.B a) : (wrO op x y c).md = md ∧ (wrO op x y c).B (a + a + 1) := by
 have hm := hx.1.trans hy.1.symm
 unfold wrO
 split
 ·exact ⟨hy.1, hy.2.mono (by omega)⟩
 split
 ·exact ⟨(addV_md hm).trans hx.1, addV_B hm hx.2 hy.2⟩
 split
 ·exact ⟨(subV_md hm).trans hx.1, subV_B hm hx.2 hy.2⟩
 ·omega
theorem srcN_lt' {f t : List Int} (h : twoS f t = (t, 0)) (n : Int) : 0 ≤ srcN f t n ∧ srcN f t n < cnt f := by
 have F := twoS_fit h
 have b := (srcS_in (n := n) F).bnd f.length (Nat.le_refl _)
 rw [placeI_take (srcS_length _ _ _), List.take_length] at b
 unfold srcN cnt
 rw [if_pos F.cf]
 exact b
theorem wrX_ok {op : Int} {f t : List Int} {xs ys : List Vx} {c : Vx} {md : Int} {a : Nat} (h1 : 1 ≤ op) (h3 : op ≤ 3) (hfit : twoS f t = (t, 0)) (hy : (ys.length : Int) = cnt f) (hxq : AllX md a xs) (hyq : AllX md a ys) : AllX md (a + a + 1) (wrX op f t xs ys c xs.length) := by
 intro v hv
 unfold wrX at hv
 obtain ⟨i, hi, rfl⟩ := List.mem_map.1 hv
 have hi := List.mem_range.1 hi
 obtain ⟨x, hx⟩ := getI hi
 have hs := srcN_lt' hfit (i : Int)
 obtain ⟨y, hye⟩ := getI (show (srcN f t (i : Int)).toNat < ys.length by omega)
 rw [List.getD_eq_getElem?_getD, List.getD_eq_getElem?_getD, hx, hye]
 exact wrO_ok h1 h3 (hxq x (List.mem_of_getElem? hx)) (hyq y (List.mem_of_getElem? hye))

set_option maxHeartbeats 4000000 in
theorem writeS_ok (h : Heap) (m id k : Nat) (md op : Int) (h1 : 1 ≤ op) (h3 : op ≤ 3) (x : Atr) (f t : List Int) (xs ys : List Vx) (hb : ∀ l, Lab.pool l = false → h l = none) (hk : h (.obj id) = some (bankG md .nil k false)) (hkb : k < 100000000) (hfit : twoS f t = (t, 0)) (hx : (xs.length : Int) = cnt t) (hy : (ys.length : Int) = cnt f)
  (hxq : AllX md 1000 xs) (hyq : AllX md 1000 ys) (L : List Vx) (hL : wrX op f t xs ys (.q 0) xs.length = L) :
  Ret Tryz.prog 19 [.ptr id, .int .i64 op, x.T, argX t xs, argX f ys] h m [.t (sX (if fitE L = 0 then L else [])), .t (.int .i64 (fitE L))] (upd h (.obj id) (some (bankG md .nil (if fitE L = 0 then k + opsW op xs.length else k) false))) m := by
 have c2 := check_w op x ⟨t, xs.map Vx.sc⟩ ⟨f, ys.map Vx.sc⟩ (by have := (chk0 (twoS_fit hfit).ct).1; dsimp only; omega) (by have := (chk0 (twoS_fit hfit).cf).1; dsimp only; omega) h1 h3
 have hloc : ∀ d j, h (.loc d j) = none := fun d j => hb _ rfl
 obtain ⟨a1, a2, a3, a4, a5, a6, a7, a8, ak, al⟩ := x
 have F := twoS_fit hfit
 have lt6 := (chk0 F.ct).1
 have lf6 := (chk0 F.cf).1
 have hcn := (chk0 F.ct).2.2
 have hct : cnt t = prodL t := by unfold cnt; rw [if_pos F.ct]
 have c1 := errG_ok h m id k md .nil false hb hk
 have hw0 : wchk ⟨t, xs.map Vx.sc⟩ ⟨f, ys.map Vx.sc⟩ = 0 := by
  unfold wchk
  dsimp only
  rw [if_neg (fun e => e F.ct), if_neg (fun e => e (by rw [List.length_map]; exact hx)), if_neg (fun e => e F.cf), if_neg (fun e => e (by rw [List.length_map]; exact hy)), if_neg (fun e => e hfit)]
 rw [hw0, Ag_sc, Ag_sc] at c2
 have c3 := markG_ok h m id k md hb hk
 have hn64 : xs.length ≤ 64 := by omega
 have hLq := wrX_ok (c := .q 0) h1 h3 hfit hy hxq hyq
 have hLl := wrX_length op f t xs ys (.q 0) xs.length
 have hop1 := opsW_le op xs.length
 have c5 := doneG_ok (upd h (.obj id) (some (bankG md .nil (k + opsW op xs.length) false))) m id (k + opsW op xs.length) k md (wrX op f t xs ys (.q 0) xs.length) (upd_hb hb) (upd_same _ _ _) (by omega) (by omega) (fun v hv => (hLq v hv).2.mono (by decide))
 rw [upd_upd] at c5
 have e4 : decide (op = 4) = false := decide_eq_false (by omega)
 have e5 : decide (op = 5) = false := decide_eq_false (by omega)
 have e3 : decide (op ≤ 3) = true := decide_eq_true h3
 have hu0 : upd h (.obj id) (some (bankG md .nil (k + opsW op 0) false)) = h := by
  have : opsW op 0 = 0 := Nat.le_zero.1 (opsW_le op 0)
  rw [this]
  funext l
  by_cases e : l = .obj id
  ·subst e; rw [upd_same, hk]; rfl
  ·rw [upd_ne _ _ _ _ e]
 simp only [argX, sI, sX, Atr.T, I, markX] at c2 c3
 refine Ret.intro Tryz.func19 rfl (rt := [10, 11]) rfl (by simp [Tryz.ntmps19]) (by decide) (sites := fun _ => false) (upd_hb hb) bank_keeps ?_
 unfold argX
 apply run_sound 200
 simp -implicitDefEqProofs +decide only [go_sem, Atr.T, I, sI, sX, hloc]
 refine CallG.pool _ Tryz.call17 c1 hb (by rintro (_ | _ | _ | _ | _) hp <;> first | (cases hp; done) | simp -implicitDefEqProofs +decide only [go_sem, hloc]) ?_
 apply run_sound 200
 simp -implicitDefEqProofs +decide only [go_sem, hloc]
 refine CallG.pure _ Tryz.call62 c2 (by simp only [List.all_cons, List.all_nil, noPtr, noPtrL, noPtrL_I, noPtrL_Vx, Bool.and_self]) (by first | rfl | (simp only [go_sem]; done) | (simp only [go_sem]; rfl)) ?_
 apply run_sound 200
 simp -implicitDefEqProofs +decide only [go_sem, hloc]
 refine CallG.pool _ Tryz.call63 c3 hb (by rintro (_ | _ | _ | _ | _) hp <;> first | (cases hp; done) | simp -implicitDefEqProofs +decide only [go_sem, hloc]) ?_
 apply run_sound 200
 simp -implicitDefEqProofs +decide only [go_sem, hloc, List.length_map, e4, e5]
 refine Goes.wk (Wk.nilRow (d := 16) (lab := .loc 100 0) (size := 5) (by simp -implicitDefEqProofs +decide only [go_sem]) (by simp -implicitDefEqProofs +decide only [go_sem, hloc]) rfl (by decide)) ?_
 refine Goes.loop (X := Nat) (fun n => ⟨ofL [(0, .t (.ptr id)), (1, .t (.int .i64 op)), (8, .bp (.loc 8 0) 0), (9, .bp (.loc 9 0) 0), (14, .bp (.loc 14 0) 0), (16, .sl (.loc 100 0) n 0 n), (51, .t (sX xs)), (52, .t (.int .i64 xs.length)), (53, .t (.int .i64 n))],
     ofH (upd h (.obj id) (some (bankG md .nil (k + opsW op n) false))) [(.loc 8 0, .box [.t (sI t), .t (sX xs)]), (.loc 9 0, .box [.t (sI f), .t (sX ys)]), (.loc 14 0, .box [.t (.int .i64 0), .t (.int .i64 0), .t (.int .i64 0), .t (.int .i64 k), .t (.int .i64 0), .t (.bool false), .t (.int .i64 0)]), (.loc 100 0, .arr 5 ((wrX op f t xs ys (.q 0) n).map Vx.T) n 0)], m⟩) (fun n => n ≤ xs.length) (fun n => xs.length - n) 0 ?_ (by omega) ?_
 ·dsimp only
  rw [hu0]
  refine Wk.boxes _ _ hb rfl rfl ?_ (by rintro (_ | _ | _ | _ | _) hp <;> first | (cases hp; done) | simp -implicitDefEqProofs +decide only [go_sem, hloc]) ?_ ?_
  ·simp -implicitDefEqProofs +decide only [go_sem, sI, sX, hloc] <;> first | rfl | exact ⟨rfl, rfl⟩ | skip
  ·simp -implicitDefEqProofs +decide only [go_sem, sX] <;> rfl
  ·simp -implicitDefEqProofs +decide only [go_sem, sX]
 rintro n hn J hJ
 apply run_sound 200
 refine SmX ?_
 have hwl := wrX_length op f t xs ys (.q 0) n
 refine selP_dec (fun hc => ?_) (fun hc => ?_)
 ·obtain ⟨x, hxe⟩ := getI (show n < xs.length by omega)
  obtain ⟨q, hq'⟩ : ∃ q : Nat, srcN f t (n : Int) = (q : Int) := ⟨(srcN f t n).toNat, (Int.toNat_of_nonneg (srcN_lt' hfit n).1).symm⟩
  have hql := (srcN_lt' hfit n).2
  obtain ⟨y, hye⟩ := getI (show q < ys.length by omega)
  have cs := sourceP_ok f t n hfit ⟨by omega, by omega⟩
  rw [hq'] at cs
  have hQx := hxq x (List.mem_of_getElem? hxe)
  have hQy := hyq y (List.mem_of_getElem? hye)
  obtain ⟨z, hz⟩ : ∃ z, wrO op x y (.q 0) = z := ⟨_, rfl⟩
  have hzb := wrO_ok (c := .q 0) h1 h3 hQx hQy
  rw [hz] at hzb
  have cc := copyX_ok z (hzb.2.mono (by decide))
  have hsn := wrX_snoc op hxe hq' hye hz
  simp only [Vx_T] at cc
  simp only [sI] at cs
  have hw := wS (show n < 1000000000000 by omega)
  have hnb : n + 1 < big := by unfold big; omega
  simp -implicitDefEqProofs +decide only [go_sem, hxe, Vx_T, hloc, ofH, sI, sX, e3]
  refine CallG.P _ Tryz.call65 (cs) ?_
  simp -implicitDefEqProofs +decide only [go_sem, hye, Vx_T, hloc, ofH, sI, sX, Int.toNat_natCast]
  have hop : op = 1 ∨ op = 2 ∨ op = 3 := by omega
  rcases hop with rfl | rfl | rfl
  ·have hkn : bankG md .nil (k + opsW 1 (n + 1)) false = bankG md .nil (k + opsW 1 n) false := rfl
   have hz : y = z := hz
   subst hz
   simp -implicitDefEqProofs +decide only [go_sem, hloc]
   refine CallG.PS _ Tryz.call67 (cc) ?_
   simp -implicitDefEqProofs +decide only [go_sem, hloc, hwl, hnb, hsn, hw, List.length_map]
   refine hJ (n + 1) _ (by omega) (by omega) (Wk.boxes _ _ (upd_hb hb) rfl rfl ?_ (by rintro (_ | _ | _ | _ | _) hp <;> first | (cases hp; done) | simp -implicitDefEqProofs +decide only [go_sem, hloc, hkn]) ?_ ?_)
   ·simp -implicitDefEqProofs +decide only [go_sem, sI, sX, ofH, hloc] <;> first | rfl | exact ⟨rfl, rfl⟩ | skip
   ·simp -implicitDefEqProofs +decide only [go_sem, sX]
   ·simp -implicitDefEqProofs +decide only [go_sem, sX]
  ·have hkn : k + opsW 2 (n + 1) = k + opsW 2 n + 1 := rfl
   have cadd := bankAddG_ok (upd h (.obj id) (some (bankG md .nil (k + opsW 2 n) false))) m id (k + opsW 2 n) md .nil false x y (upd_hb hb) (upd_same _ _ _) (by have := opsW_le 2 n; omega) hQx.1 hQy.1 (hQx.2.mono (by decide)) (hQy.2.mono (by decide))
   rw [upd_upd, show addV x y = z from hz] at cadd
   simp only [Vx_T] at cadd
   refine Sm ?_
   refine CallG.pool _ Tryz.call57 cadd (upd_hb hb) (by rintro (_ | _ | _ | _ | _) hp <;> first | (cases hp; done) | simp -implicitDefEqProofs +decide only [go_sem, hloc]) ?_
   apply run_sound 200
   simp -implicitDefEqProofs +decide only [go_sem, hloc]
   refine CallG.PS _ Tryz.call67 (cc) ?_
   simp -implicitDefEqProofs +decide only [go_sem, hloc, hwl, hnb, hsn, hw, List.length_map]
   refine hJ (n + 1) _ (by omega) (by omega) (Wk.boxes _ _ (upd_hb hb) rfl rfl ?_ (by rintro (_ | _ | _ | _ | _) hp <;> first | (cases hp; done) | simp -implicitDefEqProofs +decide only [go_sem, hloc, hkn]) ?_ ?_)
   ·simp -implicitDefEqProofs +decide only [go_sem, sI, sX, ofH, hloc] <;> first | rfl | exact ⟨rfl, rfl⟩ | skip
   ·simp -implicitDefEqProofs +decide only [go_sem, sX]
   ·simp -implicitDefEqProofs +decide only [go_sem, sX]
  ·have hkn : k + opsW 3 (n + 1) = k + opsW 3 n + 1 := rfl
   have cadd := bankSubG_ok (upd h (.obj id) (some (bankG md .nil (k + opsW 3 n) false))) m id (k + opsW 3 n) md .nil false x y (upd_hb hb) (upd_same _ _ _) (by have := opsW_le 3 n; omega) hQx.1 hQy.1 (hQx.2.mono (by decide)) (hQy.2.mono (by decide))
   rw [upd_upd, show subV x y = z from hz] at cadd
   simp only [Vx_T] at cadd
   refine Sm ?_
   refine CallG.pool _ Tryz.call66 cadd (upd_hb hb) (by rintro (_ | _ | _ | _ | _) hp <;> first | (cases hp; done) | simp -implicitDefEqProofs +decide only [go_sem, hloc]) ?_
   apply run_sound 200
   simp -implicitDefEqProofs +decide only [go_sem, hloc]
   refine CallG.PS _ Tryz.call67 (cc) ?_
   simp -implicitDefEqProofs +decide only [go_sem, hloc, hwl, hnb, hsn, hw, List.length_map]
   refine hJ (n + 1) _ (by omega) (by omega) (Wk.boxes _ _ (upd_hb hb) rfl rfl ?_ (by rintro (_ | _ | _ | _ | _) hp <;> first | (cases hp; done) | simp -implicitDefEqProofs +decide only [go_sem, hloc, hkn]) ?_ ?_)
   ·simp -implicitDefEqProofs +decide only [go_sem, sI, sX, ofH, hloc] <;> first | rfl | exact ⟨rfl, rfl⟩ | skip
   ·simp -implicitDefEqProofs +decide only [go_sem, sX]
   ·simp -implicitDefEqProofs +decide only [go_sem, sX]
 ·obtain rfl : n = xs.length := by omega
  have htk : List.take xs.length ((wrX op f t xs ys (.q 0) xs.length).map Vx.T) = (wrX op f t xs ys (.q 0) xs.length).map Vx.T := List.take_of_length_le (by rw [List.length_map, hwl]; exact Nat.le_refl _)
  simp only [markX, sX] at c5
  rw [hL] at c5 htk hwl
  rw [hL]
  simp -implicitDefEqProofs +decide only [go_sem, ofH, htk, hloc]
  refine CallG.pool _ Tryz.call68 c5 (upd_hb hb) (by rintro (_ | _ | _ | _ | _) hp <;> first | (cases hp; done) | simp -implicitDefEqProofs +decide only [go_sem, hloc]) ?_
  apply run_sound 200
  rcases fitE_cases L with ⟨e0, _⟩ | ⟨e0, _⟩
  ·rw [e0, if_pos rfl, if_pos rfl]
   simp -implicitDefEqProofs +decide only [go_sem, hloc]
   exact endF.rowT (.inr rfl) (by simp -implicitDefEqProofs +decide only [go_sem] <;> rfl) (by simp -implicitDefEqProofs +decide only [go_sem] <;> rfl) (by rw [List.length_map, hwl]) rfl (by simp -implicitDefEqProofs +decide only [go_sem] <;> rfl) rfl (by rintro (_ | _ | _ | _ | _) hp <;> first | (cases hp; done) | simp -implicitDefEqProofs +decide only [go_sem, hloc]) rfl
  ·rw [e0, if_neg (by decide), if_neg (by decide)]
   simp -implicitDefEqProofs +decide only [go_sem, hloc]
   exact endF.vals [(10, .slice []), (11, .int .i64 5)] (.inr rfl) (vals_n (by first | rfl | (simp -implicitDefEqProofs +decide only [go_sem]; done)) (vals_t (by first | rfl | (simp -implicitDefEqProofs +decide only [go_sem]; done) | (simp -implicitDefEqProofs +decide only [go_sem]; rfl)) rfl vals_nil)) (by rintro (_ | _ | _ | _ | _) hp <;> first | (cases hp; done) | simp -implicitDefEqProofs +decide only [go_sem, hloc]) rfl
end Go.Fm
/- Writes with a constant, by the program; writes that are not done. -/
namespace Go.Fm
open Go.Proofs
set_option maxRecDepth 100000
attribute [local irreducible] tiOf

def wcX (op : Int) (xs : List Vx) (c : Vx) (n : Nat) : List Vx := (List.range n).map fun (i : Nat) => wrO op (xs.getD i c) c c
theorem wcX_length (op : Int) (xs : List Vx) (c : Vx) (n : Nat) : (wcX op xs c n).length = n := by simp [wcX]
theorem wcX_snoc (op : Int) {xs : List Vx} {c : Vx} {n : Nat} {x z : Vx} (hx : xs[n]? = some x) (hz : wrO op x c c = z) :
  (wcX op xs c n).map Vx.T ++ [.agg [.bool z.neg, sW z.p, sW z.qq, .int .u64 z.bits, .int .i64 0]] = (wcX op xs c (n + 1)).map Vx.T := by
 unfold wcX
 rw [List.range_succ, List.map_append, List.map_append]
 simp [hx, hz, Vx_T]
theorem wrO_okC {op : Int} {x c : Vx} {md : Int} {a : Nat} (h1 : 4 ≤ op) (h3 : op ≤ 5) (hx : x.md = md ∧ x.B a) (hc : c.md = md ∧ c.B a) : (wrO op x c c).md = md ∧ (wrO op x c c).B (a + a + 1) := by
 have hm := hx.1.trans hc.1.symm
 unfold wrO
 rw [if_neg (by omega), if_neg (by omega), if_neg (by omega)]
 split
 ·exact ⟨(mulV_md hm).trans hx.1, (mulV_B hm hx.2 hc.2).mono (by omega)⟩
 ·exact ⟨hc.1, hc.2.mono (by omega)⟩
theorem wcX_ok {op : Int} {xs : List Vx} {c : Vx} {md : Int} {a : Nat} (h1 : 4 ≤ op) (h3 : op ≤ 5) (hxq : AllX md a xs) (hc : c.md = md ∧ c.B a) : AllX md (a + a + 1) (wcX op xs c xs.length) := by
 intro v hv
 unfold wcX at hv
 obtain ⟨i, hi, rfl⟩ := List.mem_map.1 hv
 have hi := List.mem_range.1 hi
 obtain ⟨x, hx⟩ := getI hi
 rw [List.getD_eq_getElem?_getD, hx]
 exact wrO_okC h1 h3 (hxq x (List.mem_of_getElem? hx)) hc
theorem constB_true {p q : Int} (h : constB p q = true) : -1048576 ≤ p ∧ p ≤ 1048576 ∧ 1 ≤ q ∧ q ≤ 1048576 := by
 unfold constB at h
 simp only [Bool.and_eq_true, decide_eq_true_eq] at h
 omega

set_option maxHeartbeats 4000000 in
theorem writeC_ok (h : Heap) (m id k : Nat) (md op : Int) (hmd : md = 0 ∨ md = 1) (h1 : 4 ≤ op) (h3 : op ≤ 5) (x : Atr) (f t : List Int) (xs ys : List Vx) (hb : ∀ l, Lab.pool l = false → h l = none) (hk : h (.obj id) = some (bankG md .nil k false)) (hkb : k < 100000000) (ht0 : chk t = 0) (hx : (xs.length : Int) = cnt t) (hcb : constB x.p x.q = true)
  (hxq : AllX md 1000 xs) (L : List Vx) (hL : wcX op xs (numV md ((x.p : Rat) / (x.q : Rat))) xs.length = L) :
  Ret Tryz.prog 19 [.ptr id, .int .i64 op, x.T, argX t xs, argX f ys] h m [.t (sX (if fitE L = 0 then L else [])), .t (.int .i64 (fitE L))] (upd h (.obj id) (some (bankG md .nil (if fitE L = 0 then k + opsW op xs.length else k) false))) m := by
 have lt6 := (chk0 ht0).1
 have c2 := check_c op x ⟨t, xs.map Vx.sc⟩ ⟨f, ys.map Vx.sc⟩ (by dsimp only; omega) h1 h3
 have hloc : ∀ d j, h (.loc d j) = none := fun d j => hb _ rfl
 have hw0 : wchkC ⟨t, xs.map Vx.sc⟩ (constB x.p x.q) = 0 := by
  unfold wchkC
  dsimp only
  rw [if_neg (fun e => e ht0), if_neg (fun e => e (by rw [List.length_map]; exact hx)), if_pos hcb]
 rw [hw0, Ag_sc, Ag_sc] at c2
 obtain ⟨p1, p2, q1, q2⟩ := constB_true hcb
 have cnum := numG_ok h m id k md .nil false x.p x.q hmd hb hk (by omega) (by omega) (by omega) (by omega) (by omega)
 have hcok : (numV md ((x.p : Rat) / (x.q : Rat))).md = md ∧ (numV md ((x.p : Rat) / (x.q : Rat))).B 1000 := ⟨numV_md hmd _, numV_B ((QB_div (by omega) (by omega) (by omega)).mono (by decide))⟩
 obtain ⟨a1, a2, a3, a4, a5, a6, a7, a8, ak, al⟩ := x
 dsimp only at cnum hcok hL
 obtain ⟨c, hc⟩ : ∃ c, numV md ((a5 : Rat) / (a6 : Rat)) = c := ⟨_, rfl⟩
 rw [hc] at cnum hcok hL
 have hcn := (chk0 ht0).2.2
 have hct : cnt t = prodL t := by unfold cnt; rw [if_pos ht0]
 have c1 := errG_ok h m id k md .nil false hb hk
 have c3 := markG_ok h m id k md hb hk
 have hn64 : xs.length ≤ 64 := by omega
 have hLq := wcX_ok h1 h3 hxq hcok
 have hLl := wcX_length op xs c xs.length
 have hop1 := opsW_le op xs.length
 have c5 := doneG_ok (upd h (.obj id) (some (bankG md .nil (k + opsW op xs.length) false))) m id (k + opsW op xs.length) k md (wcX op xs c xs.length) (upd_hb hb) (upd_same _ _ _) (by omega) (by omega) (fun v hv => (hLq v hv).2.mono (by decide))
 rw [upd_upd] at c5
 have hop : op = 4 ∨ op = 5 := by omega
 have e3 : decide (op ≤ 3) = false := decide_eq_false (by omega)
 have e45 : (if decide (op = 4) = true then true else decide (op = 5)) = true := by rcases hop with rfl | rfl <;> rfl
 have hu0 : upd h (.obj id) (some (bankG md .nil (k + opsW op 0) false)) = h := by
  have : opsW op 0 = 0 := Nat.le_zero.1 (opsW_le op 0)
  rw [this]
  funext l
  by_cases e : l = .obj id
  ·subst e; rw [upd_same, hk]; rfl
  ·rw [upd_ne _ _ _ _ e]
 simp only [argX, sI, sX, Atr.T, I, markX] at c2 c3
 simp only [Vx_T] at cnum
 refine Ret.intro Tryz.func19 rfl (rt := [10, 11]) rfl (by simp [Tryz.ntmps19]) (by decide) (sites := fun _ => false) (upd_hb hb) bank_keeps ?_
 unfold argX
 apply run_sound 200
 simp -implicitDefEqProofs +decide only [go_sem, Atr.T, I, sI, sX, hloc]
 refine CallG.pool _ Tryz.call17 c1 hb (by rintro (_ | _ | _ | _ | _) hp <;> first | (cases hp; done) | simp -implicitDefEqProofs +decide only [go_sem, hloc]) ?_
 apply run_sound 200
 simp -implicitDefEqProofs +decide only [go_sem, hloc]
 refine CallG.pure _ Tryz.call62 c2 (by simp only [List.all_cons, List.all_nil, noPtr, noPtrL, noPtrL_I, noPtrL_Vx, Bool.and_self]) (by first | rfl | (simp only [go_sem]; done) | (simp only [go_sem]; rfl)) ?_
 apply run_sound 200
 simp -implicitDefEqProofs +decide only [go_sem, hloc]
 refine CallG.pool _ Tryz.call63 c3 hb (by rintro (_ | _ | _ | _ | _) hp <;> first | (cases hp; done) | simp -implicitDefEqProofs +decide only [go_sem, hloc]) ?_
 apply run_sound 200
 rcases hop with rfl | rfl
 ·skip
  simp -implicitDefEqProofs +decide only [go_sem, hloc]
  refine CallG.pool _ Tryz.call64 cnum hb (by rintro (_ | _ | _ | _ | _) hp <;> first | (cases hp; done) | simp -implicitDefEqProofs +decide only [go_sem, hloc]) ?_
  apply run_sound 200
  simp -implicitDefEqProofs +decide only [go_sem, hloc, List.length_map]
  refine Goes.wk (Wk.nilRow (d := 16) (lab := .loc 100 0) (size := 5) (by simp -implicitDefEqProofs +decide only [go_sem]) (by simp -implicitDefEqProofs +decide only [go_sem, hloc]) rfl (by decide)) ?_
  refine Goes.loop (X := Nat) (fun n => ⟨ofL [(0, .t (.ptr id)), (1, .t (.int .i64 4)), (8, .bp (.loc 8 0) 0), (14, .bp (.loc 14 0) 0), (15, .bp (.loc 15 0) 0), (16, .sl (.loc 100 0) n 0 n), (51, .t (sX xs)), (52, .t (.int .i64 xs.length)), (53, .t (.int .i64 n))],
      ofH (upd h (.obj id) (some (bankG md .nil (k + opsW 4 n) false))) [(.loc 8 0, .box [.t (sI t), .t (sX xs)]), (.loc 14 0, .box [.t (.int .i64 0), .t (.int .i64 0), .t (.int .i64 0), .t (.int .i64 k), .t (.int .i64 0), .t (.bool false), .t (.int .i64 0)]), (.loc 15 0, .box [.t (.bool c.neg), .t (sW c.p), .t (sW c.qq), .t (.int .u64 c.bits), .t (.int .i64 0)]), (.loc 100 0, .arr 5 ((wcX 4 xs c n).map Vx.T) n 0)], m⟩) (fun n => n ≤ xs.length) (fun n => xs.length - n) 0 ?_ (by omega) ?_
  ·dsimp only
   rw [hu0]
   refine Wk.boxes _ _ hb rfl rfl ?_ (by rintro (_ | _ | _ | _ | _) hp <;> first | (cases hp; done) | simp -implicitDefEqProofs +decide only [go_sem, hloc]) ?_ ?_
   ·simp -implicitDefEqProofs +decide only [go_sem, sI, sX, hloc] <;> first | rfl | exact ⟨rfl, rfl⟩ | skip
   ·simp -implicitDefEqProofs +decide only [go_sem, sX] <;> rfl
   ·simp -implicitDefEqProofs +decide only [go_sem, sX]
  rintro n hn J hJ
  apply run_sound 200
  refine SmX ?_
  have hwl := wcX_length 4 xs c n
  refine selP_dec (fun hc => ?_) (fun hc => ?_)
  ·skip
   obtain ⟨x, hxe⟩ := getI (show n < xs.length by omega)
   have hQx := hxq x (List.mem_of_getElem? hxe)
   have hw := wS (show n < 1000000000000 by omega)
   have hnb : n + 1 < big := by unfold big; omega
   have hkn : k + opsW 4 (n + 1) = k + opsW 4 n + 1 := rfl
   obtain ⟨z, hz⟩ : ∃ z, mulV x c = z := ⟨_, rfl⟩
   have hzb := wrO_okC (op := 4) (by decide) (by decide) hQx hcok
   rw [show wrO 4 x c c = z from hz] at hzb
   have cc := copyX_ok z (hzb.2.mono (by decide))
   have hsn := wcX_snoc 4 hxe hz
   have cmul := bankMulG_ok (upd h (.obj id) (some (bankG md .nil (k + opsW 4 n) false))) m id (k + opsW 4 n) md .nil false x c (upd_hb hb) (upd_same _ _ _) (by have := opsW_le 4 n; omega) hQx.1 hcok.1 (hQx.2.mono (by decide)) (hcok.2.mono (by decide))
   rw [upd_upd, hz] at cmul
   simp only [Vx_T] at cmul cc
   simp -implicitDefEqProofs +decide only [go_sem, hxe, Vx_T, hloc, ofH, sI, sX]
   refine CallG.pool _ Tryz.call56 cmul (upd_hb hb) (by rintro (_ | _ | _ | _ | _) hp <;> first | (cases hp; done) | simp -implicitDefEqProofs +decide only [go_sem, hloc]) ?_
   apply run_sound 200
   try simp -implicitDefEqProofs +decide only [go_sem, hloc]
   refine CallG.PS _ Tryz.call67 (cc) ?_
   simp -implicitDefEqProofs +decide only [go_sem, hloc, hwl, hnb, hsn, hw, List.length_map]
   refine hJ (n + 1) _ (by omega) (by omega) (Wk.boxes _ _ (upd_hb hb) rfl rfl ?_ (by rintro (_ | _ | _ | _ | _) hp <;> first | (cases hp; done) | simp -implicitDefEqProofs +decide only [go_sem, hloc, hkn]) ?_ ?_)
   ·simp -implicitDefEqProofs +decide only [go_sem, sI, sX, ofH, hloc] <;> first | rfl | exact ⟨rfl, rfl⟩ | skip
   ·simp -implicitDefEqProofs +decide only [go_sem, sX]
   ·simp -implicitDefEqProofs +decide only [go_sem, sX]
  ·obtain rfl : n = xs.length := by omega
   rw [hL] at c5 hwl
   have htk : List.take xs.length (L.map Vx.T) = L.map Vx.T := List.take_of_length_le (by rw [List.length_map, hwl]; exact Nat.le_refl _)
   simp only [markX, sX] at c5
   rw [hL]
   simp -implicitDefEqProofs +decide only [go_sem, ofH, htk, hloc]
   refine CallG.pool _ Tryz.call68 c5 (upd_hb hb) (by rintro (_ | _ | _ | _ | _) hp <;> first | (cases hp; done) | simp -implicitDefEqProofs +decide only [go_sem, hloc]) ?_
   apply run_sound 200
   rcases fitE_cases L with ⟨e0, _⟩ | ⟨e0, _⟩
   ·rw [e0, if_pos rfl, if_pos rfl]
    simp -implicitDefEqProofs +decide only [go_sem, hloc]
    exact endF.rowT (.inr rfl) (by simp -implicitDefEqProofs +decide only [go_sem] <;> rfl) (by simp -implicitDefEqProofs +decide only [go_sem] <;> rfl) (by rw [List.length_map, hwl]) rfl (by simp -implicitDefEqProofs +decide only [go_sem] <;> rfl) rfl (by rintro (_ | _ | _ | _ | _) hp <;> first | (cases hp; done) | simp -implicitDefEqProofs +decide only [go_sem, hloc]) rfl
   ·rw [e0, if_neg (by decide), if_neg (by decide)]
    simp -implicitDefEqProofs +decide only [go_sem, hloc]
    exact endF.vals [(10, .slice []), (11, .int .i64 5)] (.inr rfl) (vals_n (by first | rfl | (simp -implicitDefEqProofs +decide only [go_sem]; done)) (vals_t (by first | rfl | (simp -implicitDefEqProofs +decide only [go_sem]; done) | (simp -implicitDefEqProofs +decide only [go_sem]; rfl)) rfl vals_nil)) (by rintro (_ | _ | _ | _ | _) hp <;> first | (cases hp; done) | simp -implicitDefEqProofs +decide only [go_sem, hloc]) rfl
 ·skip
  simp -implicitDefEqProofs +decide only [go_sem, hloc]
  refine CallG.pool _ Tryz.call64 cnum hb (by rintro (_ | _ | _ | _ | _) hp <;> first | (cases hp; done) | simp -implicitDefEqProofs +decide only [go_sem, hloc]) ?_
  apply run_sound 200
  simp -implicitDefEqProofs +decide only [go_sem, hloc, List.length_map]
  refine Goes.wk (Wk.nilRow (d := 16) (lab := .loc 100 0) (size := 5) (by simp -implicitDefEqProofs +decide only [go_sem]) (by simp -implicitDefEqProofs +decide only [go_sem, hloc]) rfl (by decide)) ?_
  refine Goes.loop (X := Nat) (fun n => ⟨ofL [(0, .t (.ptr id)), (1, .t (.int .i64 5)), (8, .bp (.loc 8 0) 0), (14, .bp (.loc 14 0) 0), (15, .bp (.loc 15 0) 0), (16, .sl (.loc 100 0) n 0 n), (51, .t (sX xs)), (52, .t (.int .i64 xs.length)), (53, .t (.int .i64 n))],
      ofH (upd h (.obj id) (some (bankG md .nil (k + opsW 5 n) false))) [(.loc 8 0, .box [.t (sI t), .t (sX xs)]), (.loc 14 0, .box [.t (.int .i64 0), .t (.int .i64 0), .t (.int .i64 0), .t (.int .i64 k), .t (.int .i64 0), .t (.bool false), .t (.int .i64 0)]), (.loc 15 0, .box [.t (.bool c.neg), .t (sW c.p), .t (sW c.qq), .t (.int .u64 c.bits), .t (.int .i64 0)]), (.loc 100 0, .arr 5 ((wcX 5 xs c n).map Vx.T) n 0)], m⟩) (fun n => n ≤ xs.length) (fun n => xs.length - n) 0 ?_ (by omega) ?_
  ·dsimp only
   rw [hu0]
   refine Wk.boxes _ _ hb rfl rfl ?_ (by rintro (_ | _ | _ | _ | _) hp <;> first | (cases hp; done) | simp -implicitDefEqProofs +decide only [go_sem, hloc]) ?_ ?_
   ·simp -implicitDefEqProofs +decide only [go_sem, sI, sX, hloc] <;> first | rfl | exact ⟨rfl, rfl⟩ | skip
   ·simp -implicitDefEqProofs +decide only [go_sem, sX] <;> rfl
   ·simp -implicitDefEqProofs +decide only [go_sem, sX]
  rintro n hn J hJ
  apply run_sound 200
  refine SmX ?_
  have hwl := wcX_length 5 xs c n
  refine selP_dec (fun hc => ?_) (fun hc => ?_)
  ·skip
   obtain ⟨x, hxe⟩ := getI (show n < xs.length by omega)
   have hQx := hxq x (List.mem_of_getElem? hxe)
   have hw := wS (show n < 1000000000000 by omega)
   have hnb : n + 1 < big := by unfold big; omega
   have hkn : bankG md .nil (k + opsW 5 (n + 1)) false = bankG md .nil (k + opsW 5 n) false := rfl
   have cc := copyX_ok c (hcok.2.mono (by decide))
   have hsn := wcX_snoc 5 hxe (show wrO 5 x c c = c from rfl)
   simp only [Vx_T] at cc
   simp -implicitDefEqProofs +decide only [go_sem, hxe, Vx_T, hloc, ofH, sI, sX]
   try simp -implicitDefEqProofs +decide only [go_sem, hloc]
   refine CallG.PS _ Tryz.call67 (cc) ?_
   simp -implicitDefEqProofs +decide only [go_sem, hloc, hwl, hnb, hsn, hw, List.length_map]
   refine hJ (n + 1) _ (by omega) (by omega) (Wk.boxes _ _ (upd_hb hb) rfl rfl ?_ (by rintro (_ | _ | _ | _ | _) hp <;> first | (cases hp; done) | simp -implicitDefEqProofs +decide only [go_sem, hloc, hkn]) ?_ ?_)
   ·simp -implicitDefEqProofs +decide only [go_sem, sI, sX, ofH, hloc] <;> first | rfl | exact ⟨rfl, rfl⟩ | skip
   ·simp -implicitDefEqProofs +decide only [go_sem, sX]
   ·simp -implicitDefEqProofs +decide only [go_sem, sX]
  ·obtain rfl : n = xs.length := by omega
   rw [hL] at c5 hwl
   have htk : List.take xs.length (L.map Vx.T) = L.map Vx.T := List.take_of_length_le (by rw [List.length_map, hwl]; exact Nat.le_refl _)
   simp only [markX, sX] at c5
   rw [hL]
   simp -implicitDefEqProofs +decide only [go_sem, ofH, htk, hloc]
   refine CallG.pool _ Tryz.call68 c5 (upd_hb hb) (by rintro (_ | _ | _ | _ | _) hp <;> first | (cases hp; done) | simp -implicitDefEqProofs +decide only [go_sem, hloc]) ?_
   apply run_sound 200
   rcases fitE_cases L with ⟨e0, _⟩ | ⟨e0, _⟩
   ·rw [e0, if_pos rfl, if_pos rfl]
    simp -implicitDefEqProofs +decide only [go_sem, hloc]
    exact endF.rowT (.inr rfl) (by simp -implicitDefEqProofs +decide only [go_sem] <;> rfl) (by simp -implicitDefEqProofs +decide only [go_sem] <;> rfl) (by rw [List.length_map, hwl]) rfl (by simp -implicitDefEqProofs +decide only [go_sem] <;> rfl) rfl (by rintro (_ | _ | _ | _ | _) hp <;> first | (cases hp; done) | simp -implicitDefEqProofs +decide only [go_sem, hloc]) rfl
   ·rw [e0, if_neg (by decide), if_neg (by decide)]
    simp -implicitDefEqProofs +decide only [go_sem, hloc]
    exact endF.vals [(10, .slice []), (11, .int .i64 5)] (.inr rfl) (vals_n (by first | rfl | (simp -implicitDefEqProofs +decide only [go_sem]; done)) (vals_t (by first | rfl | (simp -implicitDefEqProofs +decide only [go_sem]; done) | (simp -implicitDefEqProofs +decide only [go_sem]; rfl)) rfl vals_nil)) (by rintro (_ | _ | _ | _ | _) hp <;> first | (cases hp; done) | simp -implicitDefEqProofs +decide only [go_sem, hloc]) rfl
theorem writeNo_ok (h : Heap) (m id k : Nat) (md op e : Int) (x : Atr) (to frm : Ag) (hb : ∀ l, Lab.pool l = false → h l = none) (hk : h (.obj id) = some (bankG md .nil k false)) (c2 : Pure Tryz.prog 62 [.int .i64 op, x.T, to.T, frm.T] [.t (.int .i64 e)]) (he : e ≠ 0) :
  Ret Tryz.prog 19 [.ptr id, .int .i64 op, x.T, to.T, frm.T] h m [.t (.slice []), .t (.int .i64 e)] h m := by
 have hloc : ∀ d j, h (.loc d j) = none := fun d j => hb _ rfl
 have c1 := errG_ok h m id k md .nil false hb hk
 obtain ⟨a1, a2, a3, a4, a5, a6, a7, a8, ak, al⟩ := x
 simp only [Ag.T, sI, sS, Atr.T, I] at c2
 refine Ret.intro Tryz.func19 rfl (rt := [10, 11]) rfl (by simp [Tryz.ntmps19]) (by decide) (sites := fun _ => false) hb (Keeps.refl _) ?_
 apply run_sound 200
 simp -implicitDefEqProofs +decide only [go_sem, Ag.T, sI, sS, Atr.T, I, hloc]
 refine CallG.pool _ Tryz.call17 c1 hb (by rintro (_ | _ | _ | _ | _) hp <;> first | (cases hp; done) | simp -implicitDefEqProofs +decide only [go_sem, hloc]) ?_
 apply run_sound 200
 simp -implicitDefEqProofs +decide only [go_sem, hloc]
 refine CallG.pure _ Tryz.call62 c2 (by simp only [List.all_cons, List.all_nil, noPtr, noPtrL, noPtrL_I, noPtrL_Sc, Bool.and_self]) (by first | rfl | (simp only [go_sem]; done) | (simp only [go_sem]; rfl)) ?_
 apply run_sound 200
 simp -implicitDefEqProofs +decide only [go_sem, hloc]
 refine selP_dec (fun _ => ?_) (fun h => absurd he h)
 refine Sm ?_
 exact endF.vals [(10, .slice []), (11, .int .i64 e)] (.inr rfl) (vals_n (by first | rfl | (simp -implicitDefEqProofs +decide only [go_sem]; done)) (vals_t (by first | rfl | (simp -implicitDefEqProofs +decide only [go_sem]; done) | (simp -implicitDefEqProofs +decide only [go_sem]; rfl)) rfl vals_nil)) (by rintro (_ | _ | _ | _ | _) hp <;> first | (cases hp; done) | simp -implicitDefEqProofs +decide only [go_sem, hloc]) rfl
end Go.Fm
/- The reference's bank: copies; ends of functions that return a bank. -/
namespace Go.Fm
open Go.Proofs
set_option maxRecDepth 100000
attribute [local irreducible] tiOf

theorem endC.nil3 {P : Program} {rv1 rv2 rv3 : RV} {y2 y3 : AV} {t2 t3 : T} {h' : Heap} {m' : Nat} {e : Exit} {s : St} (he : e = .normal ∨ e = .ret) (hv1 : valC P s rv1 = some .nil) (hv2 : valC P s rv2 = some y2) (hv3 : valC P s rv3 = some y3)
  (hr2 : reify y2 = .ret (t2, [])) (hr3 : reify y3 = .ret (t3, [])) (hh : ∀ l, Lab.pool l = true → h' l = s.h l) (hn : s.nxt = m') : endC P [rv1, rv2, rv3] [.t (.slice []), .t t2, .t t3] h' m' e s := by
 refine ⟨he, ⟨[.nil, y2, y3], [false, false, false], by simp [valsC, hv1, hv2, hv3], rfl, [], [none, none, none], [], ?_, rfl, hh⟩, hn⟩
 have hr1 : reify .nil = .ret (.slice [], []) := rfl
 simp [finL, fin1, hr1, hr2, hr3, Rd.bind, Rd.run]
theorem endC.row3 {P : Program} {rv1 rv2 rv3 : RV} {la : Lab} {va na sa fa : Nat} {ea : List T} {y2 y3 : AV} {t2 t3 : T} {h' : Heap} {m' : Nat} {e : Exit} {s : St} (he : e = .normal ∨ e = .ret) (hv1 : valC P s rv1 = some (.sl la va 0 na)) (hv2 : valC P s rv2 = some y2) (hv3 : valC P s rv3 = some y3)
  (hla : s.h la = some (.arr sa ea va fa)) (hna : na = ea.length) (hp : Lab.pool la = false)
  (hr2 : reify y2 = .ret (t2, [])) (hr3 : reify y3 = .ret (t3, [])) (hh : ∀ l, Lab.pool l = true → h' l = s.h l) (hn : s.nxt = m') : endC P [rv1, rv2, rv3] [.t (.slice ea), .t t2, .t t3] h' m' e s := by
 refine ⟨he, ⟨[.sl la va 0 na, y2, y3], [false, false, false], by simp [valsC, hv1, hv2, hv3], rfl, [(la, .arr sa ea va ea.length)], [none, none, none], [la], ?_, rfl, fun l hl => ?_⟩, hn⟩
 ·have h1 : ea.take na = ea := List.take_of_length_le (by omega)
  have hr1 : reify (.sl la va 0 na) = reify1 (.sl la va 0 na) := rfl
  simp [finL, fin1, hr1, hr2, hr3, Rd.bind, Rd.run, reify1, hla, h1]
 ·show _ = upd s.h la _ l
  rw [upd_ne _ _ _ _ (fun e => by subst e; rw [hp] at hl; cases hl)]
  exact hh l hl
theorem rcopy_ok (h : Heap) (m id k : Nat) (md : Int) (hb : ∀ l, Lab.pool l = false → h l = none) (hk : h (.obj id) = some (bankR md (.t (.slice [])) k false)) :
  Ret Tryz.prog 70 [.ptr id] h m [.t (bankT md k)] h m := by
 have hl : ∀ d j, h (.loc d j) = none := fun d j => hb _ rfl
 unfold bankR at hk
 refine Ret.introC Tryz.func70 rfl (rv := [.c 2 _]) rfl (by simp [Tryz.ntmps70]) (by decide) (sites := fun _ => false) hb (Keeps.refl _) ?_
 apply run_sound 200
 simp -implicitDefEqProofs +decide only [go_sem, hl]
 refine Goes.drawP mixed (Calm.of (by repeat first | exact Clean.und | refine Clean.upd ?_ rfl | refine Clean.upd ?_ (by simp only [cleanA, cleanL, ])) (by repeat first | exact HCalm.none | exact HCalm.hb hb | exact HCalm.hb (bank_hb hb) | refine HCalm.row ?_ | refine HCalm.box ?_ (by first | rfl | (simp only [cleanA, cleanL, ]; done) | assumption))) ?_
 simp -implicitDefEqProofs +decide only [go_sem, hk, hl]
 refine ⟨.mk (by kernel_rfl), ?_⟩
 apply run_sound 200
 simp -implicitDefEqProofs +decide only [go_sem, hl]
 refine Goes.drawP mixed (Calm.of (by repeat first | exact Clean.und | refine Clean.upd ?_ rfl | refine Clean.upd ?_ (by simp only [cleanA, cleanL, ])) (by repeat first | exact HCalm.none | exact HCalm.hb hb | exact HCalm.hb (bank_hb hb) | refine HCalm.row ?_ | refine HCalm.box ?_ (by first | rfl | (simp only [cleanA, cleanL, ]; done) | assumption))) ?_
 simp -implicitDefEqProofs +decide only [go_sem, hk, hl, List.length_nil]
 refine ⟨.mk (by kernel_rfl), ?_⟩
 apply run_sound 200
 simp -implicitDefEqProofs +decide only [go_sem, hl]
 unfold bankT
 exact endC.one (.inr rfl) (by first | rfl | (simp -implicitDefEqProofs +decide only [go_sem, valC, hl]; done) | (simp -implicitDefEqProofs +decide only [go_sem, valC, hl]; rfl)) (by first | rfl | (simp -implicitDefEqProofs +decide only [go_sem, hl]; done) | (simp -implicitDefEqProofs +decide only [go_sem, hl]; rfl)) (fun l hp => by cases l <;> first | rfl | cases hp) rfl
end Go.Fm
/- Writes, by the reference. -/
namespace Go.Fm
open Go.Proofs
set_option maxRecDepth 100000
attribute [local irreducible] tiOf

theorem keeps2 {h : Heap} {i j : Nat} {a b : List AV} : Keeps h (upd (upd h (.obj i) (some (.box a))) (.obj j) (some (.box b))) := by
 refine ⟨fun id cs hc => ?_, fun i o hc => ⟨o, ?_, ArgStep.refl _⟩⟩
 ·by_cases e : Lab.obj id = .obj j
  ·rw [e]; exact ⟨b, upd_same _ _ _⟩
  ·rw [upd_ne _ _ _ _ e]
   by_cases e' : Lab.obj id = .obj i
   ·rw [e']; exact ⟨a, upd_same _ _ _⟩
   ·rw [upd_ne _ _ _ _ e']; exact ⟨cs, hc⟩
 ·rw [upd_ne _ _ _ _ (by intro e; cases e), upd_ne _ _ _ _ (by intro e; cases e)]; exact hc
set_option maxHeartbeats 4000000 in
theorem rwriteS_ok (h : Heap) (m k : Nat) (md op : Int) (h1 : 1 ≤ op) (h3 : op ≤ 3) (x : Atr) (f t : List Int) (xs ys : List Vx) (hb : ∀ l, Lab.pool l = false → h l = none) (hm1 : h (.obj m) = none) (hm2 : h (.obj (m + 1)) = none) (hkb : k < 100000000) (hfit : twoS f t = (t, 0)) (hx : (xs.length : Int) = cnt t) (hy : (ys.length : Int) = cnt f)
  (hxq : AllX md 9 xs) (hyq : AllX md 9 ys) (L : List Vx) (hL : wrX op f t xs ys (.q 0) xs.length = L) :
  Ret Tryz.prog 20 [bankT md k, .int .i64 op, x.T, argX t xs, argX f ys] h m [.t (sX (if fitE L = 0 then L else [])), .t (bankT md (if fitE L = 0 then k + opsW op xs.length else k)), .t (.int .i64 (fitE L))]
   (upd (upd h (.obj m) (some (bankR md (.t (.slice [])) k false))) (.obj (m + 1)) (some (bankR md (.t (.slice [])) (k + opsW op xs.length) false))) (m + 2) := by
 have c2 := rcheck_w op x ⟨t, xs.map Vx.sc⟩ ⟨f, ys.map Vx.sc⟩ (by have := (chk0 (twoS_fit hfit).ct).1; dsimp only; omega) (by have := (chk0 (twoS_fit hfit).cf).1; dsimp only; omega) h1 h3
 have hloc : ∀ d j, h (.loc d j) = none := fun d j => hb _ rfl
 obtain ⟨a1, a2, a3, a4, a5, a6, a7, a8, ak, al⟩ := x
 have F := twoS_fit hfit
 have lt6 := (chk0 F.ct).1
 have lf6 := (chk0 F.cf).1
 have hcn := (chk0 F.ct).2.2
 have hct : cnt t = prodL t := by unfold cnt; rw [if_pos F.ct]
 have hw0 : wchk ⟨t, xs.map Vx.sc⟩ ⟨f, ys.map Vx.sc⟩ = 0 := by
  unfold wchk
  dsimp only
  rw [if_neg (fun e => e F.ct), if_neg (fun e => e (by rw [List.length_map]; exact hx)), if_neg (fun e => e F.cf), if_neg (fun e => e (by rw [List.length_map]; exact hy)), if_neg (fun e => e hfit)]
 rw [hw0, Ag_sc, Ag_sc] at c2
 have cS := rSources_ok f t hfit
 rw [show (prodL t).toNat = xs.length by omega] at cS
 have hbase := upd_hb (o := some (bankR md (.t (.slice [])) k false)) (id := m) hb
 have c3 := rcopy_ok _ (m + 1) m k md hbase (upd_same _ _ _)
 have hn1 : (m + 1 = m) = False := eq_false (by omega)
 have hn2 : (m = m + 1) = False := eq_false (by omega)
 have hn64 : xs.length ≤ 64 := by omega
 have hLq := wrX_ok (c := .q 0) h1 h3 hfit hy hxq hyq
 have hLl := wrX_length op f t xs ys (.q 0) xs.length
 have hop1 := opsW_le op xs.length
 have c5 := rdone_ok md (k + opsW op xs.length) (wrX op f t xs ys (.q 0) xs.length) (by omega) (fun v hv => (hLq v hv).2.mono (by decide))
 have e3 : decide (op ≤ 3) = true := decide_eq_true h3
 have e3' : decide ((3 : Int) < op) = false := decide_eq_false (by omega)
 have hk0 : opsW op 0 = 0 := Nat.le_zero.1 (opsW_le op 0)
 simp only [argX, sI, sX, Atr.T, I] at c2 cS
 refine Ret.introC Tryz.func20 rfl (rv := [.s 10, .c 11 35, .s 12]) rfl (by simp [Tryz.ntmps20]) (by decide) (sites := fun d => d == 5 || d == 14) (upd_hb hbase) keeps2 ?_
 unfold argX
 apply run_sound 200
 simp -implicitDefEqProofs +decide only [go_sem, Atr.T, I, sI, sX, hloc, bankT, hm1]
 refine CallG.pure _ Tryz.call69 c2 (by simp only [List.all_cons, List.all_nil, noPtr, noPtrL, noPtrL_I, noPtrL_Vx, Bool.and_self]) (by first | rfl | (simp only [go_sem]; done) | (simp only [go_sem]; rfl)) ?_
 apply run_sound 200
 simp -implicitDefEqProofs +decide only [go_sem, hloc]
 refine CallG.pool _ Tryz.call70 c3 hbase (by rintro (_ | _ | _ | _ | _) hp <;> first | (cases hp; done) | simp -implicitDefEqProofs +decide only [go_sem, hloc, bankR]) ?_
 apply run_sound 200
 simp -implicitDefEqProofs +decide only [go_sem, hloc, List.length_map, e3', hn1, hm2, bankT, or_true]
 refine CallG.pureS _ Tryz.call40 (cS) (by simp only [List.all_cons, List.all_nil, noPtr, noPtrL, noPtr_sW, noPtr_sI, noPtr_sV, noPtrL_U, noPtrL_I, noPtrL_vT, I, List.map_cons, List.map_nil, Bool.and_true, Bool.and_self]) (by first | rfl | (simp only [go_sem]; done) | (simp only [go_sem]; rfl)) ?_
 apply run_sound 200
 simp -implicitDefEqProofs +decide only [go_sem, hloc, List.length_map, e3', hn1, hm2]
 refine Goes.wk (Wk.nilRow (d := 17) (lab := .loc 87 0) (size := 5) (by simp -implicitDefEqProofs +decide only [go_sem]) (by simp -implicitDefEqProofs +decide only [go_sem, hloc]) rfl (by decide)) ?_
 refine Goes.loop (X := Nat) (fun n => ⟨ofL [(1, .t (.int .i64 op)), (5, .bp (.obj m) 0), (8, .bp (.loc 8 0) 0), (9, .bp (.loc 9 0) 0), (10, .nil), (11, .bp (.loc 11 0) 0), (14, .bp (.obj (m + 1)) 0), (15, .bp (.loc 15 0) 0), (16, .t (sI (sourcesD f t xs.length))), (17, .sl (.loc 87 0) n 0 n), (45, .t (.int .i64 xs.length)), (46, .t (.int .i64 n))],
     ofH (upd (upd h (.obj m) (some (bankR md (.t (.slice [])) k false))) (.obj (m + 1)) (some (bankR md (.t (.slice [])) (k + opsW op n) false))) [(.loc 8 0, .box [.t (sI t), .t (sX xs)]), (.loc 9 0, .box [.t (sI f), .t (sX ys)]), (.loc 11 0, .box [.t (.int .i64 0), .t (.int .i64 0), .t (.int .i64 0), .nil, .t (.bool false)]), (.loc 15 0, .box [.t (.bool false), .nil, .nil, .t (.int .u64 0), .t (.int .i64 0)]), (.loc 87 0, .arr 5 ((wrX op f t xs ys (.q 0) n).map Vx.T) n 0)], m + 2⟩) (fun n => n ≤ xs.length) (fun n => xs.length - n) 0 ?_ (by omega) ?_
 ·dsimp only
  rw [hk0]
  refine Wk.boxes _ _ (upd_hb hbase) rfl rfl ?_ (by rintro (_ | _ | _ | _ | _) hp <;> first | (cases hp; done) | simp -implicitDefEqProofs +decide only [go_sem, hloc, bankR]) ?_ ?_
  ·simp -implicitDefEqProofs +decide only [go_sem, sI, sX, hloc] <;> first | rfl | exact ⟨rfl, rfl⟩ | skip
  ·simp -implicitDefEqProofs +decide only [go_sem, sI, sX] <;> rfl
  ·simp -implicitDefEqProofs +decide only [go_sem, sI, sX] <;> exact ⟨rfl, rfl⟩
 rintro n hn J hJ
 apply run_sound 200
 refine SmX ?_
 have hwl := wrX_length op f t xs ys (.q 0) n
 refine selP_dec (fun hc => ?_) (fun hc => ?_)
 ·obtain ⟨x, hxe⟩ := getI (show n < xs.length by omega)
  obtain ⟨q, hq'⟩ : ∃ q : Nat, srcN f t (n : Int) = (q : Int) := ⟨(srcN f t n).toNat, (Int.toNat_of_nonneg (srcN_lt' hfit n).1).symm⟩
  have hql := (srcN_lt' hfit n).2
  obtain ⟨y, hye⟩ := getI (show q < ys.length by omega)
  have hsd := sourcesD_get (f := f) (t := t) (show n < xs.length by omega)
  rw [hq'] at hsd
  have hQx := hxq x (List.mem_of_getElem? hxe)
  have hQy := hyq y (List.mem_of_getElem? hye)
  obtain ⟨z, hz⟩ : ∃ z, wrO op x y (.q 0) = z := ⟨_, rfl⟩
  have hsn := wrX_snoc op hxe hq' hye hz
  have hw := wS (show n < 1000000000000 by omega)
  have hnb : n + 1 < big := by unfold big; omega
  simp -implicitDefEqProofs +decide only [go_sem, hxe, Vx_T, hloc, ofH, sI, sX, e3]
  refine Goes.drawP mixed (Calm.of (by repeat first | exact Clean.und | refine Clean.upd ?_ rfl | refine Clean.upd ?_ (by simp only [cleanA, cleanL, ])) (by repeat first | exact HCalm.none | exact HCalm.hb hb | exact HCalm.hb (bank_hb hb) | refine HCalm.row ?_ | refine HCalm.box ?_ (by first | rfl | (simp only [cleanA, cleanL, ]; done) | assumption))) ?_
  simp -implicitDefEqProofs +decide only [go_sem, hye, hsd, Vx_T, hloc, ofH, sI, sX, I, Int.toNat_natCast]
  refine ⟨.mk (by kernel_rfl), ?_⟩
  apply run_sound 200
  have hop : op = 1 ∨ op = 2 ∨ op = 3 := by omega
  rcases hop with rfl | rfl | rfl
  ·have hkn : bankR md (.t (.slice [])) (k + opsW 1 (n + 1)) false = bankR md (.t (.slice [])) (k + opsW 1 n) false := rfl
   have hz : y = z := hz
   subst hz
   simp -implicitDefEqProofs +decide only [go_sem, hloc]
   simp -implicitDefEqProofs +decide only [go_sem, hloc, hwl, hnb, hsn, hw, List.length_map]
   refine hJ (n + 1) _ (by omega) (by omega) (Wk.boxes _ _ (upd_hb hbase) rfl rfl ?_ (by rintro (_ | _ | _ | _ | _) hp <;> first | (cases hp; done) | simp -implicitDefEqProofs +decide only [go_sem, hloc, hkn]) ?_ ?_)
   ·simp -implicitDefEqProofs +decide only [go_sem, sI, sX, ofH, hloc] <;> first | rfl | exact ⟨rfl, rfl⟩ | skip
   ·simp -implicitDefEqProofs +decide only [go_sem, sX] <;> rfl
   ·simp -implicitDefEqProofs +decide only [go_sem, sX] <;> exact ⟨rfl, rfl⟩
  ·have hkn : k + opsW 2 (n + 1) = k + opsW 2 n + 1 := rfl
   have cadd := rdoAdd_ok (upd (upd h (.obj m) (some (bankR md (.t (.slice [])) k false))) (.obj (m + 1)) (some (bankR md (.t (.slice [])) (k + opsW 2 n) false))) (m + 2) (m + 1) (k + opsW 2 n) md (.t (.slice [])) false x y (upd_hb hbase) (upd_same _ _ _) (by have := opsW_le 2 n; omega) hQx.1 hQy.1 (hQx.2.mono (by decide)) (hQy.2.mono (by decide)) ((Z_of_B hQx.2).mono (by decide)) ((Z_of_B hQy.2).mono (by decide))
   rw [upd_upd, show addV x y = z from hz] at cadd
   simp only [Vx_T] at cadd
   refine Sm ?_
   refine Goes.drawP mixed (Calm.of (by repeat first | exact Clean.und | refine Clean.upd ?_ rfl | refine Clean.upd ?_ (by simp only [cleanA, cleanL, ])) (by repeat first | exact HCalm.none | exact HCalm.hb hb | exact HCalm.hb (bank_hb hb) | refine HCalm.row ?_ | refine HCalm.box ?_ (by first | rfl | (simp only [cleanA, cleanL, ]; done) | assumption))) ?_
   simp -implicitDefEqProofs +decide only [go_sem, hxe, Vx_T, hloc, ofH, sI, sX]
   refine CallD.pool _ [(.obj (m + 1), bankR md (.t (.slice [])) (k + opsW 2 n + 1) false)] Tryz.call60 cadd rfl (upd_hb hbase) (by rintro (_ | _ | _ | _ | _) hp <;> first | (cases hp; done) | simp -implicitDefEqProofs +decide only [go_sem]) (fun l _ => (congrFun (upd_upd _ _ _ _) l).symm) rfl ?_
   simp -implicitDefEqProofs +decide only [go_sem, hloc]
   refine ⟨.mk (by kernel_rfl), ?_⟩
   apply run_sound 200
   simp -implicitDefEqProofs +decide only [go_sem, hloc]
   simp -implicitDefEqProofs +decide only [go_sem, hloc, hwl, hnb, hsn, hw, List.length_map]
   refine hJ (n + 1) _ (by omega) (by omega) (Wk.boxes _ _ (upd_hb hbase) rfl rfl ?_ (by rintro (_ | _ | _ | _ | _) hp <;> first | (cases hp; done) | simp -implicitDefEqProofs +decide only [go_sem, hloc, hkn]) ?_ ?_)
   ·simp -implicitDefEqProofs +decide only [go_sem, sI, sX, ofH, hloc] <;> first | rfl | exact ⟨rfl, rfl⟩ | skip
   ·simp -implicitDefEqProofs +decide only [go_sem, sX] <;> rfl
   ·simp -implicitDefEqProofs +decide only [go_sem, sX] <;> exact ⟨rfl, rfl⟩
  ·have hkn : k + opsW 3 (n + 1) = k + opsW 3 n + 1 := rfl
   have cadd := rdoSub_ok (upd (upd h (.obj m) (some (bankR md (.t (.slice [])) k false))) (.obj (m + 1)) (some (bankR md (.t (.slice [])) (k + opsW 3 n) false))) (m + 2) (m + 1) (k + opsW 3 n) md (.t (.slice [])) false x y (upd_hb hbase) (upd_same _ _ _) (by have := opsW_le 3 n; omega) hQx.1 hQy.1 (hQx.2.mono (by decide)) (hQy.2.mono (by decide)) ((Z_of_B hQx.2).mono (by decide)) ((Z_of_B hQy.2).mono (by decide))
   rw [upd_upd, show subV x y = z from hz] at cadd
   simp only [Vx_T] at cadd
   refine Sm ?_
   refine Goes.drawP mixed (Calm.of (by repeat first | exact Clean.und | refine Clean.upd ?_ rfl | refine Clean.upd ?_ (by simp only [cleanA, cleanL, ])) (by repeat first | exact HCalm.none | exact HCalm.hb hb | exact HCalm.hb (bank_hb hb) | refine HCalm.row ?_ | refine HCalm.box ?_ (by first | rfl | (simp only [cleanA, cleanL, ]; done) | assumption))) ?_
   simp -implicitDefEqProofs +decide only [go_sem, hxe, Vx_T, hloc, ofH, sI, sX]
   refine CallD.pool _ [(.obj (m + 1), bankR md (.t (.slice [])) (k + opsW 3 n + 1) false)] Tryz.call60 cadd rfl (upd_hb hbase) (by rintro (_ | _ | _ | _ | _) hp <;> first | (cases hp; done) | simp -implicitDefEqProofs +decide only [go_sem]) (fun l _ => (congrFun (upd_upd _ _ _ _) l).symm) rfl ?_
   simp -implicitDefEqProofs +decide only [go_sem, hloc]
   refine ⟨.mk (by kernel_rfl), ?_⟩
   apply run_sound 200
   simp -implicitDefEqProofs +decide only [go_sem, hloc]
   simp -implicitDefEqProofs +decide only [go_sem, hloc, hwl, hnb, hsn, hw, List.length_map]
   refine hJ (n + 1) _ (by omega) (by omega) (Wk.boxes _ _ (upd_hb hbase) rfl rfl ?_ (by rintro (_ | _ | _ | _ | _) hp <;> first | (cases hp; done) | simp -implicitDefEqProofs +decide only [go_sem, hloc, hkn]) ?_ ?_)
   ·simp -implicitDefEqProofs +decide only [go_sem, sI, sX, ofH, hloc] <;> first | rfl | exact ⟨rfl, rfl⟩ | skip
   ·simp -implicitDefEqProofs +decide only [go_sem, sX] <;> rfl
   ·simp -implicitDefEqProofs +decide only [go_sem, sX] <;> exact ⟨rfl, rfl⟩
 ·obtain rfl : n = xs.length := by omega
  have htk : List.take xs.length ((wrX op f t xs ys (.q 0) xs.length).map Vx.T) = (wrX op f t xs ys (.q 0) xs.length).map Vx.T := List.take_of_length_le (by rw [List.length_map, hwl]; exact Nat.le_refl _)
  simp only [bankT, sX] at c5
  rw [hL] at c5 htk hwl
  rw [hL]
  simp -implicitDefEqProofs +decide only [go_sem, ofH, htk, hloc, bankR]
  refine CallG.pure _ Tryz.call71 c5 (by simp only [List.all_cons, List.all_nil, noPtr, noPtrL, noPtrL_Vx, Bool.and_self, Bool.true_and]) (by first | rfl | (simp only [go_sem]; done) | (simp only [go_sem]; rfl)) ?_
  apply run_sound 200
  rcases fitE_cases L with ⟨e0, _⟩ | ⟨e0, _⟩
  ·rw [e0, if_pos rfl, if_pos rfl]
   simp -implicitDefEqProofs +decide only [go_sem, hloc]
   refine Goes.drawP mixed (Calm.of (by repeat first | exact Clean.und | refine Clean.upd ?_ rfl | refine Clean.upd ?_ (by simp only [cleanA, cleanL, ])) (by repeat first | exact HCalm.none | exact HCalm.hb hb | exact HCalm.hb (bank_hb hb) | refine HCalm.row ?_ | refine HCalm.box ?_ (by first | rfl | (simp only [cleanA, cleanL, ]; done) | assumption))) ?_
   simp -implicitDefEqProofs +decide only [go_sem, hloc, ofH]
   refine ⟨.mk (by kernel_rfl), ?_⟩
   apply run_sound 200
   simp -implicitDefEqProofs +decide only [go_sem, hloc, ofH]
   exact endC.row3 (.inr rfl) (by simp -implicitDefEqProofs +decide only [go_sem, valC] <;> rfl) (by simp -implicitDefEqProofs +decide only [go_sem, valC] <;> rfl) (by simp -implicitDefEqProofs +decide only [go_sem, valC] <;> rfl) (by simp -implicitDefEqProofs +decide only [go_sem] <;> rfl) (by rw [List.length_map, hwl]) rfl (by rfl) (by rfl) (by rintro (_ | _ | _ | _ | _) hp <;> first | (cases hp; done) | simp -implicitDefEqProofs +decide only [go_sem, hloc]) rfl
  ·rw [e0, if_neg (by decide), if_neg (by decide)]
   simp -implicitDefEqProofs +decide only [go_sem, hloc]
   refine Goes.drawP mixed (Calm.of (by repeat first | exact Clean.und | refine Clean.upd ?_ rfl | refine Clean.upd ?_ (by simp only [cleanA, cleanL, ])) (by repeat first | exact HCalm.none | exact HCalm.hb hb | exact HCalm.hb (bank_hb hb) | refine HCalm.row ?_ | refine HCalm.box ?_ (by first | rfl | (simp only [cleanA, cleanL, ]; done) | assumption))) ?_
   simp -implicitDefEqProofs +decide only [go_sem, hloc, ofH, hn2, bankR]
   refine ⟨.mk (by kernel_rfl), ?_⟩
   apply run_sound 200
   simp -implicitDefEqProofs +decide only [go_sem, hloc, ofH]
   exact endC.nil3 (.inr rfl) (by simp -implicitDefEqProofs +decide only [go_sem, valC] <;> rfl) (by simp -implicitDefEqProofs +decide only [go_sem, valC] <;> rfl) (by simp -implicitDefEqProofs +decide only [go_sem, valC] <;> rfl) (by rfl) (by rfl) (by rintro (_ | _ | _ | _ | _) hp <;> first | (cases hp; done) | simp -implicitDefEqProofs +decide only [go_sem, hloc]) rfl
end Go.Fm
/- Writes with a constant, by the reference; writes that are not done. -/
namespace Go.Fm
open Go.Proofs
set_option maxRecDepth 100000
attribute [local irreducible] tiOf

set_option maxHeartbeats 4000000 in
theorem rwriteC_ok (h : Heap) (m k : Nat) (md op : Int) (hmd : md = 0 ∨ md = 1) (h1 : 4 ≤ op) (h3 : op ≤ 5) (x : Atr) (f t : List Int) (xs ys : List Vx) (hb : ∀ l, Lab.pool l = false → h l = none) (hm1 : h (.obj m) = none) (hm2 : h (.obj (m + 1)) = none) (hkb : k < 100000000) (ht0 : chk t = 0) (hx : (xs.length : Int) = cnt t) (hcb : constB x.p x.q = true)
  (hxq : AllX md 9 xs) (L : List Vx) (hL : wcX op xs (numV md ((x.p : Rat) / (x.q : Rat))) xs.length = L) :
  Ret Tryz.prog 20 [bankT md k, .int .i64 op, x.T, argX t xs, argX f ys] h m [.t (sX (if fitE L = 0 then L else [])), .t (bankT md (if fitE L = 0 then k + opsW op xs.length else k)), .t (.int .i64 (fitE L))]
   (upd (upd h (.obj m) (some (bankR md (.t (.slice [])) k false))) (.obj (m + 1)) (some (bankR md (.t (.slice [])) (k + opsW op xs.length) false))) (m + 2) := by
 have lt6 := (chk0 ht0).1
 have c2 := rcheck_c op x ⟨t, xs.map Vx.sc⟩ ⟨f, ys.map Vx.sc⟩ (by dsimp only; omega) h1 h3
 have hloc : ∀ d j, h (.loc d j) = none := fun d j => hb _ rfl
 have hw0 : wchkC ⟨t, xs.map Vx.sc⟩ (constB x.p x.q) = 0 := by
  unfold wchkC
  dsimp only
  rw [if_neg (fun e => e ht0), if_neg (fun e => e (by rw [List.length_map]; exact hx)), if_pos hcb]
 rw [hw0, Ag_sc, Ag_sc] at c2
 have hbase := upd_hb (o := some (bankR md (.t (.slice [])) k false)) (id := m) hb
 have hbase2 := upd_hb (o := some (bankR md (.t (.slice [])) k false)) (id := m + 1) hbase
 have c3 := rcopy_ok _ (m + 1) m k md hbase (upd_same _ _ _)
 obtain ⟨p1, p2, q1, q2⟩ := constB_true hcb
 have cnum := rnum_ok (upd (upd h (.obj m) (some (bankR md (.t (.slice [])) k false))) (.obj (m + 1)) (some (bankR md (.t (.slice [])) k false))) (m + 2) (m + 1) k md (.t (.slice [])) false x.p x.q hmd hbase2 (upd_same _ _ _) (by omega) (by omega) (by omega) (by omega) (by omega)
 have hcok : (numV md ((x.p : Rat) / (x.q : Rat))).md = md ∧ (numV md ((x.p : Rat) / (x.q : Rat))).B 9 := ⟨numV_md hmd _, numV_B ((QB_div (by omega) (by omega) (by omega)).mono (by decide))⟩
 obtain ⟨a1, a2, a3, a4, a5, a6, a7, a8, ak, al⟩ := x
 dsimp only at cnum hcok hL
 obtain ⟨c, hc⟩ : ∃ c, numV md ((a5 : Rat) / (a6 : Rat)) = c := ⟨_, rfl⟩
 rw [hc] at cnum hcok hL
 have hcn := (chk0 ht0).2.2
 have hct : cnt t = prodL t := by unfold cnt; rw [if_pos ht0]
 have hn1 : (m + 1 = m) = False := eq_false (by omega)
 have hn2 : (m = m + 1) = False := eq_false (by omega)
 have hn64 : xs.length ≤ 64 := by omega
 have hLq := wcX_ok h1 h3 hxq hcok
 have hLl := wcX_length op xs c xs.length
 have hop1 := opsW_le op xs.length
 have c5 := rdone_ok md (k + opsW op xs.length) (wcX op xs c xs.length) (by omega) (fun v hv => (hLq v hv).2.mono (by decide))
 have hop : op = 4 ∨ op = 5 := by omega
 have e3' : decide ((3 : Int) < op) = true := decide_eq_true (by omega)
 have hk0 : opsW op 0 = 0 := Nat.le_zero.1 (opsW_le op 0)
 simp only [argX, sI, sX, Atr.T, I] at c2
 simp only [Vx_T] at cnum
 refine Ret.introC Tryz.func20 rfl (rv := [.s 10, .c 11 35, .s 12]) rfl (by simp [Tryz.ntmps20]) (by decide) (sites := fun d => d == 5 || d == 14) (upd_hb hbase) keeps2 ?_
 unfold argX
 apply run_sound 200
 simp -implicitDefEqProofs +decide only [go_sem, Atr.T, I, sI, sX, hloc, bankT, hm1]
 refine CallG.pure _ Tryz.call69 c2 (by simp only [List.all_cons, List.all_nil, noPtr, noPtrL, noPtrL_I, noPtrL_Vx, Bool.and_self]) (by first | rfl | (simp only [go_sem]; done) | (simp only [go_sem]; rfl)) ?_
 apply run_sound 200
 simp -implicitDefEqProofs +decide only [go_sem, hloc]
 refine CallG.pool _ Tryz.call70 c3 hbase (by rintro (_ | _ | _ | _ | _) hp <;> first | (cases hp; done) | simp -implicitDefEqProofs +decide only [go_sem, hloc, bankR]) ?_
 apply run_sound 200
 simp -implicitDefEqProofs +decide only [go_sem, hloc, List.length_map, e3', hn1, hm2, bankT, or_true]
 refine CallG.pool _ Tryz.call32 cnum hbase2 (by rintro (_ | _ | _ | _ | _) hp <;> first | (cases hp; done) | simp -implicitDefEqProofs +decide only [go_sem, hloc, bankR]) ?_
 apply run_sound 200
 simp -implicitDefEqProofs +decide only [go_sem, hloc, List.length_map, e3', hn1, hm2]
 refine Goes.wk (Wk.nilRow (d := 17) (lab := .loc 87 0) (size := 5) (by simp -implicitDefEqProofs +decide only [go_sem]) (by simp -implicitDefEqProofs +decide only [go_sem, hloc]) rfl (by decide)) ?_
 refine Goes.loop (X := Nat) (fun n => ⟨ofL [(1, .t (.int .i64 op)), (5, .bp (.obj m) 0), (8, .bp (.loc 8 0) 0), (10, .nil), (11, .bp (.loc 11 0) 0), (14, .bp (.obj (m + 1)) 0), (15, .bp (.loc 15 0) 0), (17, .sl (.loc 87 0) n 0 n), (45, .t (.int .i64 xs.length)), (46, .t (.int .i64 n))],
     ofH (upd (upd h (.obj m) (some (bankR md (.t (.slice [])) k false))) (.obj (m + 1)) (some (bankR md (.t (.slice [])) (k + opsW op n) false))) [(.loc 8 0, .box [.t (sI t), .t (sX xs)]), (.loc 11 0, .box [.t (.int .i64 0), .t (.int .i64 0), .t (.int .i64 0), .nil, .t (.bool false)]), (.loc 15 0, .box [.t (.bool c.neg), .t (sW c.p), .t (sW c.qq), .t (.int .u64 c.bits), .t (.int .i64 0)]), (.loc 87 0, .arr 5 ((wcX op xs c n).map Vx.T) n 0)], m + 2⟩) (fun n => n ≤ xs.length) (fun n => xs.length - n) 0 ?_ (by omega) ?_
 ·dsimp only
  rw [hk0]
  refine Wk.boxes _ _ (upd_hb hbase) rfl rfl ?_ (by rintro (_ | _ | _ | _ | _) hp <;> first | (cases hp; done) | simp -implicitDefEqProofs +decide only [go_sem, hloc, bankR]) ?_ ?_
  ·simp -implicitDefEqProofs +decide only [go_sem, sI, sX, hloc] <;> first | rfl | exact ⟨rfl, rfl⟩ | skip
  ·simp -implicitDefEqProofs +decide only [go_sem, sI, sX] <;> rfl
  ·simp -implicitDefEqProofs +decide only [go_sem, sI, sX] <;> exact ⟨rfl, rfl⟩
 rintro n hn J hJ
 apply run_sound 200
 refine SmX ?_
 have hwl := wcX_length op xs c n
 refine selP_dec (fun hc => ?_) (fun hc => ?_)
 ·obtain ⟨x, hxe⟩ := getI (show n < xs.length by omega)
  have hQx := hxq x (List.mem_of_getElem? hxe)
  have hw := wS (show n < 1000000000000 by omega)
  have hnb : n + 1 < big := by unfold big; omega
  rcases hop with rfl | rfl
  ·have hkn : k + opsW 4 (n + 1) = k + opsW 4 n + 1 := rfl
   obtain ⟨z, hz⟩ : ∃ z, mulV x c = z := ⟨_, rfl⟩
   have hsn := wcX_snoc 4 hxe hz
   have cmul := rdoMul_ok (upd (upd h (.obj m) (some (bankR md (.t (.slice [])) k false))) (.obj (m + 1)) (some (bankR md (.t (.slice [])) (k + opsW 4 n) false))) (m + 2) (m + 1) (k + opsW 4 n) md (.t (.slice [])) false x c (upd_hb hbase) (upd_same _ _ _) (by have := opsW_le 4 n; omega) hQx.1 hcok.1 (hQx.2.mono (by decide)) (hcok.2.mono (by decide)) ((Z_of_B hQx.2).mono (by decide)) ((Z_of_B hcok.2).mono (by decide))
   rw [upd_upd, hz] at cmul
   simp only [Vx_T] at cmul
   simp -implicitDefEqProofs +decide only [go_sem, hxe, Vx_T, hloc, ofH, sI, sX]
   refine Goes.drawP mixed (Calm.of (by repeat first | exact Clean.und | refine Clean.upd ?_ rfl | refine Clean.upd ?_ (by simp only [cleanA, cleanL, ])) (by repeat first | exact HCalm.none | exact HCalm.hb hb | exact HCalm.hb (bank_hb hb) | refine HCalm.row ?_ | refine HCalm.box ?_ (by first | rfl | (simp only [cleanA, cleanL, ]; done) | assumption))) ?_
   simp -implicitDefEqProofs +decide only [go_sem, hxe, Vx_T, hloc, ofH, sI, sX]
   refine CallD.pool _ [(.obj (m + 1), bankR md (.t (.slice [])) (k + opsW 4 n + 1) false)] Tryz.call60 cmul rfl (upd_hb hbase) (by rintro (_ | _ | _ | _ | _) hp <;> first | (cases hp; done) | simp -implicitDefEqProofs +decide only [go_sem]) (fun l _ => (congrFun (upd_upd _ _ _ _) l).symm) rfl ?_
   simp -implicitDefEqProofs +decide only [go_sem, hloc]
   refine ⟨.mk (by kernel_rfl), ?_⟩
   apply run_sound 200
   simp -implicitDefEqProofs +decide only [go_sem, hloc]
   simp -implicitDefEqProofs +decide only [go_sem, hloc, hwl, hnb, hsn, hw, List.length_map]
   refine hJ (n + 1) _ (by omega) (by omega) (Wk.boxes _ _ (upd_hb hbase) rfl rfl ?_ (by rintro (_ | _ | _ | _ | _) hp <;> first | (cases hp; done) | simp -implicitDefEqProofs +decide only [go_sem, hloc, hkn]) ?_ ?_)
   ·simp -implicitDefEqProofs +decide only [go_sem, sI, sX, ofH, hloc] <;> first | rfl | exact ⟨rfl, rfl⟩ | skip
   ·simp -implicitDefEqProofs +decide only [go_sem, sX] <;> rfl
   ·simp -implicitDefEqProofs +decide only [go_sem, sX] <;> exact ⟨rfl, rfl⟩
  ·have hkn : bankR md (.t (.slice [])) (k + opsW 5 (n + 1)) false = bankR md (.t (.slice [])) (k + opsW 5 n) false := rfl
   have hsn := wcX_snoc 5 hxe (show wrO 5 x c c = c from rfl)
   simp -implicitDefEqProofs +decide only [go_sem, hxe, Vx_T, hloc, ofH, sI, sX]
   try simp -implicitDefEqProofs +decide only [go_sem, hloc, hwl, hnb, hsn, hw, List.length_map]
   refine hJ (n + 1) _ (by omega) (by omega) (Wk.boxes _ _ (upd_hb hbase) rfl rfl ?_ (by rintro (_ | _ | _ | _ | _) hp <;> first | (cases hp; done) | simp -implicitDefEqProofs +decide only [go_sem, hloc, hkn]) ?_ ?_)
   ·simp -implicitDefEqProofs +decide only [go_sem, sI, sX, ofH, hloc] <;> first | rfl | exact ⟨rfl, rfl⟩ | skip
   ·simp -implicitDefEqProofs +decide only [go_sem, sX] <;> rfl
   ·simp -implicitDefEqProofs +decide only [go_sem, sX] <;> exact ⟨rfl, rfl⟩
 ·obtain rfl : n = xs.length := by omega
  simp only [bankT, sX] at c5
  rw [hL] at c5 hwl
  have htk : List.take xs.length (L.map Vx.T) = L.map Vx.T := List.take_of_length_le (by rw [List.length_map, hwl]; exact Nat.le_refl _)
  rw [hL]
  simp -implicitDefEqProofs +decide only [go_sem, ofH, htk, hloc, bankR]
  refine CallG.pure _ Tryz.call71 c5 (by simp only [List.all_cons, List.all_nil, noPtr, noPtrL, noPtrL_Vx, Bool.and_self, Bool.true_and]) (by first | rfl | (simp only [go_sem]; done) | (simp only [go_sem]; rfl)) ?_
  apply run_sound 200
  rcases fitE_cases L with ⟨e0, _⟩ | ⟨e0, _⟩
  ·rw [e0, if_pos rfl, if_pos rfl]
   simp -implicitDefEqProofs +decide only [go_sem, hloc]
   refine Goes.drawP mixed (Calm.of (by repeat first | exact Clean.und | refine Clean.upd ?_ rfl | refine Clean.upd ?_ (by simp only [cleanA, cleanL, ])) (by repeat first | exact HCalm.none | exact HCalm.hb hb | exact HCalm.hb (bank_hb hb) | refine HCalm.row ?_ | refine HCalm.box ?_ (by first | rfl | (simp only [cleanA, cleanL, ]; done) | assumption))) ?_
   simp -implicitDefEqProofs +decide only [go_sem, hloc, ofH]
   refine ⟨.mk (by kernel_rfl), ?_⟩
   apply run_sound 200
   simp -implicitDefEqProofs +decide only [go_sem, hloc, ofH]
   exact endC.row3 (.inr rfl) (by simp -implicitDefEqProofs +decide only [go_sem, valC] <;> rfl) (by simp -implicitDefEqProofs +decide only [go_sem, valC] <;> rfl) (by simp -implicitDefEqProofs +decide only [go_sem, valC] <;> rfl) (by simp -implicitDefEqProofs +decide only [go_sem] <;> rfl) (by rw [List.length_map, hwl]) rfl (by rfl) (by rfl) (by rintro (_ | _ | _ | _ | _) hp <;> first | (cases hp; done) | simp -implicitDefEqProofs +decide only [go_sem, hloc]) rfl
  ·rw [e0, if_neg (by decide), if_neg (by decide)]
   simp -implicitDefEqProofs +decide only [go_sem, hloc]
   refine Goes.drawP mixed (Calm.of (by repeat first | exact Clean.und | refine Clean.upd ?_ rfl | refine Clean.upd ?_ (by simp only [cleanA, cleanL, ])) (by repeat first | exact HCalm.none | exact HCalm.hb hb | exact HCalm.hb (bank_hb hb) | refine HCalm.row ?_ | refine HCalm.box ?_ (by first | rfl | (simp only [cleanA, cleanL, ]; done) | assumption))) ?_
   simp -implicitDefEqProofs +decide only [go_sem, hloc, ofH, hn2, bankR]
   refine ⟨.mk (by kernel_rfl), ?_⟩
   apply run_sound 200
   simp -implicitDefEqProofs +decide only [go_sem, hloc, ofH]
   exact endC.nil3 (.inr rfl) (by simp -implicitDefEqProofs +decide only [go_sem, valC] <;> rfl) (by simp -implicitDefEqProofs +decide only [go_sem, valC] <;> rfl) (by simp -implicitDefEqProofs +decide only [go_sem, valC] <;> rfl) (by rfl) (by rfl) (by rintro (_ | _ | _ | _ | _) hp <;> first | (cases hp; done) | simp -implicitDefEqProofs +decide only [go_sem, hloc]) rfl
theorem rwriteNo_ok (h : Heap) (m k : Nat) (md op e : Int) (x : Atr) (to frm : Ag) (hb : ∀ l, Lab.pool l = false → h l = none) (hm1 : h (.obj m) = none) (c2 : Pure Tryz.prog 69 [.int .i64 op, x.T, to.T, frm.T] [.t (.int .i64 e)]) (he : e ≠ 0) :
  Ret Tryz.prog 20 [bankT md k, .int .i64 op, x.T, to.T, frm.T] h m [.t (.slice []), .t (bankT md k), .t (.int .i64 e)] (upd h (.obj m) (some (bankR md (.t (.slice [])) k false))) (m + 1) := by
 have hloc : ∀ d j, h (.loc d j) = none := fun d j => hb _ rfl
 obtain ⟨a1, a2, a3, a4, a5, a6, a7, a8, ak, al⟩ := x
 simp only [Ag.T, sI, sS, Atr.T, I] at c2
 refine Ret.introC Tryz.func20 rfl (rv := [.s 10, .c 11 35, .s 12]) rfl (by simp [Tryz.ntmps20]) (by decide) (sites := fun d => d == 5 || d == 14) (upd_hb hb) bank_keeps ?_
 apply run_sound 200
 simp -implicitDefEqProofs +decide only [go_sem, Ag.T, sI, sS, Atr.T, I, hloc, bankT, hm1]
 refine CallG.pure _ Tryz.call69 c2 (by simp only [List.all_cons, List.all_nil, noPtr, noPtrL, noPtrL_I, noPtrL_Sc, Bool.and_self]) (by first | rfl | (simp only [go_sem]; done) | (simp only [go_sem]; rfl)) ?_
 apply run_sound 200
 simp -implicitDefEqProofs +decide only [go_sem, hloc]
 refine selP_dec (fun _ => ?_) (fun h => absurd he h)
 simp -implicitDefEqProofs +decide only [go_sem, hloc]
 refine Goes.drawP mixed (Calm.of (by repeat first | exact Clean.und | refine Clean.upd ?_ rfl | refine Clean.upd ?_ (by simp only [cleanA, cleanL, ])) (by repeat first | exact HCalm.none | exact HCalm.hb hb | exact HCalm.hb (bank_hb hb) | refine HCalm.row ?_ | refine HCalm.box ?_ (by first | rfl | (simp only [cleanA, cleanL, ]; done) | assumption))) ?_
 simp -implicitDefEqProofs +decide only [go_sem, hloc]
 refine ⟨.mk (by kernel_rfl), ?_⟩
 apply run_sound 200
 simp -implicitDefEqProofs +decide only [go_sem, hloc]
 exact endC.nil3 (.inr rfl) (by simp -implicitDefEqProofs +decide only [go_sem, valC] <;> rfl) (by simp -implicitDefEqProofs +decide only [go_sem, valC] <;> rfl) (by simp -implicitDefEqProofs +decide only [go_sem, valC] <;> rfl) (by rfl) (by rfl) (by rintro (_ | _ | _ | _ | _) hp <;> first | (cases hp; done) | simp -implicitDefEqProofs +decide only [go_sem, hloc, bankR]) rfl
end Go.Fm
/- The law WriteDoes. -/
namespace Go.Fm
open Go.Proofs
set_option maxRecDepth 100000
attribute [local irreducible] tiOf

theorem val37_ok (n : Nat) (h : n < 18446744073709551616) : Pure Tryz.prog 61 [.int .u64 n] [.t (vT (n : Rat))] := by
 have c := rVal_ok n h
 rw [vT_eq]
 rw [qT] at c
 have e1 : sW [n] = T.slice [T.int .u64 (n : Int)] := rfl
 have e2 : sW [1] = T.slice [T.int .u64 1] := rfl
 rw [e1, e2] at c
 refine Pure.J Tryz.func61 [.c 2 _] ?_
 refine Sm ?_
 refine CallG.PS _ Tryz.call105 (c) ?_
 refine Sm ?_
 exact endC.one (.inr rfl) (by first | rfl | (simp -implicitDefEqProofs +decide only [go_sem, valC, sW]; done) | (simp -implicitDefEqProofs +decide only [go_sem, valC, sW]; rfl)) (by first | rfl | (simp -implicitDefEqProofs +decide only [go_sem, sW]; done) | (simp -implicitDefEqProofs +decide only [go_sem, sW]; rfl)) (fun l hp => by cases l <;> first | rfl | cases hp) rfl
theorem wrX_q (f t : List Int) (xs ys : List Rat) (n : Nat) : wrX 2 f t (xs.map .q) (ys.map .q) (.q 0) n = ((List.range n).map fun (i : Nat) => xs.getD i 0 + ys.getD (srcN f t (i : Int)).toNat 0).map .q := by
 have hg : ∀ (l : List Rat) (i : Nat), (l.map Vx.q).getD i (.q 0) = .q (l.getD i 0) := fun l i => by
  rw [List.getD_eq_getElem?_getD, List.getD_eq_getElem?_getD, List.getElem?_map]
  cases l[i]? <;> rfl
 unfold wrX
 rw [List.map_map]
 refine List.map_congr_left fun i _ => ?_
 rw [hg, hg]
 rfl
theorem same37_wr : ((List.range 2).map fun (i : Nat) => ([1, 2].map fun n : Nat => (n : Rat)).getD i 0 + ([5].map fun n : Nat => (n : Rat)).getD (srcN [] [2] (i : Int)).toNat 0) = ([6, 7].map fun n : Nat => (n : Rat)) := by decide +kernel
theorem same37_fit : twoS [] [2] = ([2], 0) := by
 have hc : ¬ clash [] [2] := fun ⟨k, h1, h2, h3, h4, _⟩ => by
  unfold sizeD at h4
  rw [if_pos (show ([] : List Int).length < k from h1)] at h4
  exact h4 rfl
 exact fit_twoS (by decide) (by decide) hc (by decide)
theorem same37_ok : Pure Tryz.prog 18 [] [.t (.bool true)] := by
 have v1 := val37_ok 1 (by decide)
 have v2 := val37_ok 2 (by decide)
 have v5 := val37_ok 5 (by decide)
 have v6 := val37_ok 6 (by decide)
 have v7 := val37_ok 7 (by decide)
 have hq : ∀ l : List Nat, (∀ n ∈ l, n < 18446744073709551616) → AllX 0 1 ((l.map (fun n : Nat => (n : Rat))).map .q) := fun l hl v hv => by
  obtain ⟨r, hr, rfl⟩ := List.mem_map.1 hv
  obtain ⟨n, hn, rfl⟩ := List.mem_map.1 hr
  exact ⟨rfl, QB_nat n (hl n hn)⟩
 have q1 := hq [1, 2] (by decide)
 have q2 := hq [5] (by decide)
 have q3 := hq [6, 7] (by decide)
 have hwr : wrX 2 [] [2] (([1, 2].map fun n : Nat => (n : Rat)).map .q) (([5].map fun n : Nat => (n : Rat)).map .q) (.q 0) (([1, 2].map fun n : Nat => (n : Rat)).map Vx.q).length = ([6, 7].map fun n : Nat => (n : Rat)).map .q := by
  rw [wrX_q]
  exact congrArg (List.map Vx.q) same37_wr
 have hfe : fitE (([6, 7].map fun n : Nat => (n : Rat)).map .q) = 0 := by decide +kernel
 have hb0 : ∀ l, Lab.pool l = false → (fun _ => none : Heap) l = none := fun _ _ => rfl
 have cn := bankNewG_ok (fun _ => none) 0 0 (.inl rfl) hb0 rfl
 have hd := writeS_ok (upd (fun _ => none) (.obj 0) (some (bankG 0 .nil 0 false))) 1 0 0 0 2 (by decide) (by decide) ⟨0, 0, 0, 0, 0, 0, 0, 0, false, []⟩ [] [2] (([1, 2].map fun n : Nat => (n : Rat)).map .q) (([5].map fun n : Nat => (n : Rat)).map .q) (upd_hb hb0) (upd_same _ _ _) (by decide) same37_fit (by decide) (by decide)
  (q1.mono (by decide)) (q2.mono (by decide)) _ hwr
 rw [hfe, if_pos rfl, if_pos rfl, upd_upd] at hd
 have hd : Ret Tryz.prog 19 [.ptr 0, .int .i64 2, Atr.T ⟨0, 0, 0, 0, 0, 0, 0, 0, false, []⟩, argX [2] (([1, 2].map fun n : Nat => (n : Rat)).map .q), argX [] (([5].map fun n : Nat => (n : Rat)).map .q)] (upd (fun _ => none) (.obj 0) (some (bankG 0 .nil 0 false))) 1 [.t (sX (([6, 7].map fun n : Nat => (n : Rat)).map .q)), .t (.int .i64 0)] (upd (fun _ => none) (.obj 0) (some (bankG 0 .nil 2 false))) 1 := hd
 have ci := wis_ok 4
 rw [show (decide ((4 : Int) ≥ 1) && decide ((4 : Int) ≤ 5)) = true from rfl, show (decide ((4 : Int) ≥ 1) && decide ((4 : Int) ≤ 3)) = false from rfl] at ci
 have ca := rAllX_ok (([6, 7].map fun n : Nat => (n : Rat)).map .q) (by decide) (by decide) q3
 simp only [sX, sI, argX, List.map_cons, List.map_nil, I, Atr.T, Vx_q] at hd ca
 clear hwr hfe q1 q2 q3 hq
 generalize ((1 : Nat) : Rat) = r1 at *
 generalize ((2 : Nat) : Rat) = r2 at *
 generalize ((5 : Nat) : Rat) = r5 at *
 generalize ((6 : Nat) : Rat) = r6 at *
 generalize ((7 : Nat) : Rat) = r7 at *
 simp only [vT_eq] at v1 v2 v5 v6 v7 hd ca
 refine Pure.drop (h' := upd (fun _ => none) (.obj 0) (some (bankG 0 .nil 2 false))) (m' := 1) ?_ rfl
 refine Ret.intro Tryz.func18 rfl (rt := [0]) rfl (by simp [Tryz.ntmps18]) (by decide) (sites := fun _ => false) (upd_hb hb0) (Keeps.none _) ?_
 apply run_sound 200
 refine Sm ?_
 refine CallG.pool _ Tryz.call11 cn hb0 (by rintro (_ | _ | _ | _ | _) hp <;> first | (cases hp; done) | simp -implicitDefEqProofs +decide only [go_sem]) ?_
 apply run_sound 200
 refine Sm ?_
 refine CallG.PS _ Tryz.call61 (v1) ?_
 refine Sm ?_
 refine CallG.PS _ Tryz.call61 (v2) ?_
 refine Sm ?_
 refine CallG.PS _ Tryz.call61 (v5) ?_
 refine Sm ?_
 refine CallG.pool _ Tryz.call19 hd (upd_hb hb0) (by rintro (_ | _ | _ | _ | _) hp <;> first | (cases hp; done) | simp -implicitDefEqProofs +decide only [go_sem]) ?_
 apply run_sound 200
 refine Sm ?_
 refine CallG.P _ Tryz.call21 (ci) ?_
 refine Sm ?_
 refine CallG.PS _ Tryz.call61 (v6) ?_
 refine Sm ?_
 refine CallG.PS _ Tryz.call61 (v7) ?_
 refine Sm ?_
 refine CallG.pure _ Tryz.call14 (ca) (by simp only [List.all_cons, List.all_nil, noPtr, noPtrL, noPtr_sW, noPtr_sI, noPtr_sV, noPtrL_U, noPtrL_I, noPtrL_vT, I, List.map_cons, List.map_nil, Bool.and_true, Bool.and_self]) (by first | rfl | (simp only [go_sem]; done) | (simp only [go_sem]; rfl)) ?_
 apply run_sound 200
 refine Sm ?_
 exact endF.vals [(0, .bool true)] (.inr rfl) (vals_t (by first | rfl | (simp -implicitDefEqProofs +decide only [go_sem]; done) | (simp -implicitDefEqProofs +decide only [go_sem]; rfl)) rfl vals_nil) (by rintro (_ | _ | _ | _ | _) hp <;> first | (cases hp; done) | simp -implicitDefEqProofs +decide only [go_sem]) rfl

def wbT (op : Int) (x : Atr) (t f : Ag) : T := .agg [.int .i64 op, .int .i64 x.n, .int .i64 x.a, .int .i64 x.b, .int .i64 x.c, .int .i64 x.p, .int .i64 x.q, .int .i64 x.r, .int .i64 x.s, .bool x.keep, sI x.list, sI t.d, sS t.v, sI f.d, sS f.v]
theorem writeDoes_r (md op : Int) (x : Atr) (t f : Ag) (cr : Pure Tryz.prog 9 [.int .i64 md, .slice [t.T, f.T]] [.t (.bool false)]) : Pure Tryz.prog 4 [.int .i64 md, wbT op x t f] [.t (.bool true)] := by
 have cs := same37_ok
 obtain ⟨a1, a2, a3, a4, a5, a6, a7, a8, ak, al⟩ := x
 obtain ⟨td, tv⟩ := t
 obtain ⟨fd, fv⟩ := f
 simp only [Ag.T, sI, sS] at cr
 unfold wbT
 refine Pure.I Tryz.func4 [4] ?_
 simp -implicitDefEqProofs +decide only [go_sem, sI, sS]
 refine CallG.pure _ Tryz.call9 cr (by simp only [List.all_cons, List.all_nil, noPtr, noPtrL, noPtr_sI, noPtr_sS, noPtrL_I, noPtrL_Sc, Bool.and_self]) (by first | rfl | (simp only [go_sem]; done) | (simp only [go_sem]; rfl)) ?_
 apply run_sound 200
 refine Sm ?_
 refine CallG.P _ Tryz.call18 (cs) ?_
 refine Sm ?_
 exact endF.V1 4 (.bool true)
set_option maxHeartbeats 4000000 in
theorem writeDoes_two (md op : Int) (hmd : md = 0 ∨ md = 1) (x : Atr) (t f : Ag) (cr : Pure Tryz.prog 9 [.int .i64 md, .slice [t.T, f.T]] [.t (.bool true)]) (l : List Vx) (hl : l.length < 1000000000) (hlq : AllX md 10000 l) (e : Int) (k1 m2 : Nat) (h2 : Heap)
  (hb : ∀ l, Lab.pool l = false → h2 l = none) (hk2 : h2 (.obj 0) = some (bankG md .nil k1 false))
  (d1 : Ret Tryz.prog 19 [.ptr 0, .int .i64 op, x.T, t.T, f.T] (upd (fun _ => none) (.obj 0) (some (bankG md .nil 0 false))) 1 [.t (sX l), .t (.int .i64 e)] (upd (fun _ => none) (.obj 0) (some (bankG md .nil k1 false))) 1)
  (d2 : Ret Tryz.prog 20 [bankT md 0, .int .i64 op, x.T, t.T, f.T] (upd (fun _ => none) (.obj 0) (some (bankG md .nil k1 false))) 1 [.t (sX l), .t (bankT md k1), .t (.int .i64 e)] h2 m2) :
  Pure Tryz.prog 4 [.int .i64 md, wbT op x t f] [.t (.bool true)] := by
 have hb0 : ∀ l, Lab.pool l = false → (fun _ => none : Heap) l = none := fun _ _ => rfl
 have hl2 : ∀ d j, h2 (.loc d j) = none := fun d j => hb _ rfl
 have cs := same37_ok
 have n1 := bankNewG_ok (fun _ => none) 0 md hmd hb0 rfl
 have ca := rAllX_ok l (by decide) hl hlq
 have co := opsG_ok h2 m2 0 k1 md .nil false hb hk2
 have ce := errG_ok h2 m2 0 k1 md .nil false hb hk2
 have ci := wis_ok op
 obtain ⟨a1, a2, a3, a4, a5, a6, a7, a8, ak, al⟩ := x
 obtain ⟨td, tv⟩ := t
 obtain ⟨fd, fv⟩ := f
 obtain ⟨b1, g1⟩ : ∃ b, decide (op ≥ 1) = b := ⟨_, rfl⟩
 obtain ⟨b5, g5⟩ : ∃ b, decide (op ≤ 5) = b := ⟨_, rfl⟩
 obtain ⟨b3, g3⟩ : ∃ b, decide (op ≤ 3) = b := ⟨_, rfl⟩
 rw [g1, g5, g3] at ci
 simp only [Ag.T, sI, sS, Atr.T, I, sX, bankT] at cr d1 d2 ca
 unfold wbT
 refine Pure.drop (h' := h2) (m' := m2) ?_ rfl
 refine Ret.intro Tryz.func4 rfl (rt := [4]) rfl (by simp [Tryz.ntmps4]) (by decide) (sites := fun _ => false) hb (Keeps.none _) ?_
 apply run_sound 200
 simp -implicitDefEqProofs +decide only [go_sem, sI, sS]
 refine CallG.pure _ Tryz.call9 cr (by simp only [List.all_cons, List.all_nil, noPtr, noPtrL, noPtr_sI, noPtr_sS, noPtrL_I, noPtrL_Sc, Bool.and_self]) (by first | rfl | (simp only [go_sem]; done) | (simp only [go_sem]; rfl)) ?_
 apply run_sound 200
 refine Sm ?_
 refine CallG.pool _ Tryz.call11 n1 hb0 (by rintro (_ | _ | _ | _ | _) hp <;> first | (cases hp; done) | simp -implicitDefEqProofs +decide only [go_sem]) ?_
 apply run_sound 200
 refine Sm ?_
 refine CallG.pool _ Tryz.call19 d1 (upd_hb hb0) (by rintro (_ | _ | _ | _ | _) hp <;> first | (cases hp; done) | simp -implicitDefEqProofs +decide only [go_sem]) ?_
 apply run_sound 200
 refine Sm ?_
 refine CallG.pool _ Tryz.call20 d2 (upd_hb hb0) (by rintro (_ | _ | _ | _ | _) hp <;> first | (cases hp; done) | simp -implicitDefEqProofs +decide only [go_sem]) ?_
 apply run_sound 200
 simp -implicitDefEqProofs +decide only [go_sem, hl2]
 refine CallG.P _ Tryz.call21 (ci) ?_
 simp -implicitDefEqProofs +decide only [go_sem, hl2]
 refine Goes.wk (show Wk _ _ ⟨ofL [(3, .bp (.loc 3 0) 0), (5, .t (.ptr 0)), (6, .t (sX l)), (7, .t (.int .i64 e)), (8, .t (sX l)), (9, .bp (.loc 9 0) 0), (10, .t (.int .i64 e)), (11, .t (.bool (b1 && b5))), (12, .t (.bool (b1 && b3)))],
     ofH h2 [(.loc 3 0, .box [.t (.int .i64 op), .t (.int .i64 a1), .t (.int .i64 a2), .t (.int .i64 a3), .t (.int .i64 a4), .t (.int .i64 a5), .t (.int .i64 a6), .t (.int .i64 a7), .t (.int .i64 a8), .t (.bool ak), .t (sI al), .t (sI td), .t (.slice (tv.map Sc.T)), .t (sI fd), .t (.slice (fv.map Sc.T))]), (.loc 9 0, .box [.t (.int .i64 md), .t (.int .i64 0), .t (.int .i64 k1), .t (.slice []), .t (.bool false)])], m2⟩ from Wk.boxes _ _ hb rfl rfl ?_ ?_ ?_ ?_) ?_
 ·simp -implicitDefEqProofs +decide only [go_sem, sI, hl2] <;> first | rfl | exact ⟨rfl, rfl⟩
 ·exact (by rintro (_ | _ | _ | _ | _) hp <;> first | (cases hp; done) | simp -implicitDefEqProofs +decide only [go_sem, hl2])
 ·simp -implicitDefEqProofs +decide only [go_sem, sX] <;> first | rfl | skip
 ·simp -implicitDefEqProofs +decide only [go_sem]
 clear d1 d2 cr n1 ci
 cases b1
 ·skip
  refine Goes.drawP mixed (Calm.of (by repeat first | exact Clean.und | refine Clean.upd ?_ rfl | refine Clean.upd ?_ (by simp only [cleanA, cleanL, ])) (by repeat first | exact HCalm.none | exact HCalm.hb hb | exact HCalm.hb (bank_hb hb) | refine HCalm.row ?_ | refine HCalm.box ?_ (by first | rfl | (simp only [cleanA, cleanL, ]; done) | assumption))) ?_
  simp -implicitDefEqProofs +decide only [go_sem, hl2, ofH, g1, g3, g5]
  simp only [sX] at ca ⊢
  refine CallD.pure _ Tryz.call14 ca (by simp only [List.all_cons, List.all_nil, noPtr_sXU, Bool.and_self]) (by first | rfl | (simp only [go_sem]; done) | (simp only [go_sem]; rfl)) ?_
  refine Sm ?_
  refine CallD.look _ Tryz.call16 co rfl hb (by rintro (_ | _ | _ | _ | _) hp <;> first | (cases hp; done) | simp -implicitDefEqProofs +decide only [go_sem]) ?_
  refine Sm ?_
  refine CallD.look _ Tryz.call17 ce rfl hb (by rintro (_ | _ | _ | _ | _) hp <;> first | (cases hp; done) | simp -implicitDefEqProofs +decide only [go_sem]) ?_
  simp -implicitDefEqProofs +decide only [go_sem, g1, g3, g5, ofH, hl2]
  refine CallD.P _ Tryz.call18 cs ?_
  refine Sm ?_
  refine ⟨.mk (by kernel_rfl), ?_⟩
  apply run_sound 200
  refine Sm ?_
  exact endF.vals [(4, .bool true)] (.inr rfl) (vals_t (by first | rfl | (simp -implicitDefEqProofs +decide only [go_sem]; done) | (simp -implicitDefEqProofs +decide only [go_sem]; rfl)) rfl vals_nil) (by rintro (_ | _ | _ | _ | _) hp <;> first | (cases hp; done) | simp -implicitDefEqProofs +decide only [go_sem]) rfl
 ·cases b5
  ·cases b3
   ·skip
    refine Goes.drawP mixed (Calm.of (by repeat first | exact Clean.und | refine Clean.upd ?_ rfl | refine Clean.upd ?_ (by simp only [cleanA, cleanL, ])) (by repeat first | exact HCalm.none | exact HCalm.hb hb | exact HCalm.hb (bank_hb hb) | refine HCalm.row ?_ | refine HCalm.box ?_ (by first | rfl | (simp only [cleanA, cleanL, ]; done) | assumption))) ?_
    simp -implicitDefEqProofs +decide only [go_sem, hl2, ofH, g1, g3, g5]
    simp only [sX] at ca ⊢
    refine CallD.pure _ Tryz.call14 ca (by simp only [List.all_cons, List.all_nil, noPtr_sXU, Bool.and_self]) (by first | rfl | (simp only [go_sem]; done) | (simp only [go_sem]; rfl)) ?_
    refine Sm ?_
    refine CallD.look _ Tryz.call16 co rfl hb (by rintro (_ | _ | _ | _ | _) hp <;> first | (cases hp; done) | simp -implicitDefEqProofs +decide only [go_sem]) ?_
    refine Sm ?_
    refine CallD.look _ Tryz.call17 ce rfl hb (by rintro (_ | _ | _ | _ | _) hp <;> first | (cases hp; done) | simp -implicitDefEqProofs +decide only [go_sem]) ?_
    simp -implicitDefEqProofs +decide only [go_sem, g1, g3, g5, ofH, hl2]
    refine CallD.P _ Tryz.call18 cs ?_
    refine Sm ?_
    refine ⟨.mk (by kernel_rfl), ?_⟩
    apply run_sound 200
    refine Sm ?_
    exact endF.vals [(4, .bool true)] (.inr rfl) (vals_t (by first | rfl | (simp -implicitDefEqProofs +decide only [go_sem]; done) | (simp -implicitDefEqProofs +decide only [go_sem]; rfl)) rfl vals_nil) (by rintro (_ | _ | _ | _ | _) hp <;> first | (cases hp; done) | simp -implicitDefEqProofs +decide only [go_sem]) rfl
   ·skip
    refine Goes.drawP mixed (Calm.of (by repeat first | exact Clean.und | refine Clean.upd ?_ rfl | refine Clean.upd ?_ (by simp only [cleanA, cleanL, ])) (by repeat first | exact HCalm.none | exact HCalm.hb hb | exact HCalm.hb (bank_hb hb) | refine HCalm.row ?_ | refine HCalm.box ?_ (by first | rfl | (simp only [cleanA, cleanL, ]; done) | assumption))) ?_
    simp -implicitDefEqProofs +decide only [go_sem, hl2, ofH, g1, g3, g5]
    simp only [sX] at ca ⊢
    refine CallD.pure _ Tryz.call14 ca (by simp only [List.all_cons, List.all_nil, noPtr_sXU, Bool.and_self]) (by first | rfl | (simp only [go_sem]; done) | (simp only [go_sem]; rfl)) ?_
    refine Sm ?_
    refine CallD.look _ Tryz.call16 co rfl hb (by rintro (_ | _ | _ | _ | _) hp <;> first | (cases hp; done) | simp -implicitDefEqProofs +decide only [go_sem]) ?_
    refine Sm ?_
    refine CallD.look _ Tryz.call17 ce rfl hb (by rintro (_ | _ | _ | _ | _) hp <;> first | (cases hp; done) | simp -implicitDefEqProofs +decide only [go_sem]) ?_
    simp -implicitDefEqProofs +decide only [go_sem, g1, g3, g5, ofH, hl2]
    refine CallD.P _ Tryz.call18 cs ?_
    refine Sm ?_
    refine ⟨.mk (by kernel_rfl), ?_⟩
    apply run_sound 200
    refine Sm ?_
    exact endF.vals [(4, .bool true)] (.inr rfl) (vals_t (by first | rfl | (simp -implicitDefEqProofs +decide only [go_sem]; done) | (simp -implicitDefEqProofs +decide only [go_sem]; rfl)) rfl vals_nil) (by rintro (_ | _ | _ | _ | _) hp <;> first | (cases hp; done) | simp -implicitDefEqProofs +decide only [go_sem]) rfl
  ·cases b3
   ·skip
    refine Goes.drawP mixed (Calm.of (by repeat first | exact Clean.und | refine Clean.upd ?_ rfl | refine Clean.upd ?_ (by simp only [cleanA, cleanL, ])) (by repeat first | exact HCalm.none | exact HCalm.hb hb | exact HCalm.hb (bank_hb hb) | refine HCalm.row ?_ | refine HCalm.box ?_ (by first | rfl | (simp only [cleanA, cleanL, ]; done) | assumption))) ?_
    simp -implicitDefEqProofs +decide only [go_sem, hl2, ofH, g1, g3, g5]
    simp only [sX] at ca ⊢
    refine CallD.pure _ Tryz.call14 ca (by simp only [List.all_cons, List.all_nil, noPtr_sXU, Bool.and_self]) (by first | rfl | (simp only [go_sem]; done) | (simp only [go_sem]; rfl)) ?_
    refine Sm ?_
    refine CallD.look _ Tryz.call16 co rfl hb (by rintro (_ | _ | _ | _ | _) hp <;> first | (cases hp; done) | simp -implicitDefEqProofs +decide only [go_sem]) ?_
    refine Sm ?_
    refine CallD.look _ Tryz.call17 ce rfl hb (by rintro (_ | _ | _ | _ | _) hp <;> first | (cases hp; done) | simp -implicitDefEqProofs +decide only [go_sem]) ?_
    simp -implicitDefEqProofs +decide only [go_sem, g1, g3, g5, ofH, hl2]
    refine CallD.P _ Tryz.call18 cs ?_
    refine Sm ?_
    refine ⟨.mk (by kernel_rfl), ?_⟩
    apply run_sound 200
    refine Sm ?_
    exact endF.vals [(4, .bool true)] (.inr rfl) (vals_t (by first | rfl | (simp -implicitDefEqProofs +decide only [go_sem]; done) | (simp -implicitDefEqProofs +decide only [go_sem]; rfl)) rfl vals_nil) (by rintro (_ | _ | _ | _ | _) hp <;> first | (cases hp; done) | simp -implicitDefEqProofs +decide only [go_sem]) rfl
   ·skip
    refine Goes.drawP mixed (Calm.of (by repeat first | exact Clean.und | refine Clean.upd ?_ rfl | refine Clean.upd ?_ (by simp only [cleanA, cleanL, ])) (by repeat first | exact HCalm.none | exact HCalm.hb hb | exact HCalm.hb (bank_hb hb) | refine HCalm.row ?_ | refine HCalm.box ?_ (by first | rfl | (simp only [cleanA, cleanL, ]; done) | assumption))) ?_
    simp -implicitDefEqProofs +decide only [go_sem, hl2, ofH, g1, g3, g5]
    simp only [sX] at ca ⊢
    refine CallD.pure _ Tryz.call14 ca (by simp only [List.all_cons, List.all_nil, noPtr_sXU, Bool.and_self]) (by first | rfl | (simp only [go_sem]; done) | (simp only [go_sem]; rfl)) ?_
    refine Sm ?_
    refine CallD.look _ Tryz.call16 co rfl hb (by rintro (_ | _ | _ | _ | _) hp <;> first | (cases hp; done) | simp -implicitDefEqProofs +decide only [go_sem]) ?_
    refine Sm ?_
    refine CallD.look _ Tryz.call17 ce rfl hb (by rintro (_ | _ | _ | _ | _) hp <;> first | (cases hp; done) | simp -implicitDefEqProofs +decide only [go_sem]) ?_
    simp -implicitDefEqProofs +decide only [go_sem, g1, g3, g5, ofH, hl2]
    refine CallD.P _ Tryz.call18 cs ?_
    refine Sm ?_
    refine ⟨.mk (by kernel_rfl), ?_⟩
    apply run_sound 200
    refine Sm ?_
    exact endF.vals [(4, .bool true)] (.inr rfl) (vals_t (by first | rfl | (simp -implicitDefEqProofs +decide only [go_sem]; done) | (simp -implicitDefEqProofs +decide only [go_sem]; rfl)) rfl vals_nil) (by rintro (_ | _ | _ | _ | _) hp <;> first | (cases hp; done) | simp -implicitDefEqProofs +decide only [go_sem]) rfl
end Go.Fm
/- The law WriteDoes, whole. -/
namespace Go.Fm
open Go.Proofs
set_option maxRecDepth 100000
attribute [local irreducible] tiOf

theorem AllX_if {md : Int} {a : Nat} {L : List Vx} {p : Prop} [Decidable p] (h : AllX md a L) : AllX md a (if p then L else []) := by
 split
 ·exact h
 ·exact fun _ hv => by cases hv
theorem len_if {L : List Vx} {p : Prop} [Decidable p] {n : Nat} (h : L.length < n) (hn : 0 < n) : (if p then L else []).length < n := by
 split
 ·exact h
 ·exact hn
theorem writeDoes_no (md op e : Int) (hmd : md = 0 ∨ md = 1) (x : Atr) (t f : Ag) (cr : Pure Tryz.prog 9 [.int .i64 md, .slice [t.T, f.T]] [.t (.bool true)]) (he : e ≠ 0)
  (c1 : Pure Tryz.prog 62 [.int .i64 op, x.T, t.T, f.T] [.t (.int .i64 e)]) (c2 : Pure Tryz.prog 69 [.int .i64 op, x.T, t.T, f.T] [.t (.int .i64 e)]) : Pure Tryz.prog 4 [.int .i64 md, wbT op x t f] [.t (.bool true)] := by
 have hb0 : ∀ l, Lab.pool l = false → (fun _ => none : Heap) l = none := fun _ _ => rfl
 exact writeDoes_two md op hmd x t f cr [] (by decide) (fun _ h => by cases h) e 0 2 _ (upd_hb (upd_hb hb0)) rfl
  (writeNo_ok _ 1 0 0 md op e x t f (upd_hb hb0) (upd_same _ _ _) c1 he) (rwriteNo_ok _ 1 0 md op e x t f (upd_hb hb0) rfl c2 he)
theorem writeDoes_yes (md op : Int) (hmd : md = 0 ∨ md = 1) (x : Atr) (t f : List Int) (xs ys : List Vx) (cr : Pure Tryz.prog 9 [.int .i64 md, .slice [argX t xs, argX f ys]] [.t (.bool true)]) (L : List Vx) (hL : L.length < 1000000000) (hLq : AllX md 10000 L)
  (d1 : ∀ (h : Heap) (m id k : Nat), (∀ l, Lab.pool l = false → h l = none) → h (.obj id) = some (bankG md .nil k false) → k < 100000000 → Ret Tryz.prog 19 [.ptr id, .int .i64 op, x.T, argX t xs, argX f ys] h m [.t (sX (if fitE L = 0 then L else [])), .t (.int .i64 (fitE L))] (upd h (.obj id) (some (bankG md .nil (if fitE L = 0 then k + opsW op xs.length else k) false))) m)
  (d2 : ∀ (h : Heap) (m k : Nat), (∀ l, Lab.pool l = false → h l = none) → h (.obj m) = none → h (.obj (m + 1)) = none → k < 100000000 → Ret Tryz.prog 20 [bankT md k, .int .i64 op, x.T, argX t xs, argX f ys] h m [.t (sX (if fitE L = 0 then L else [])), .t (bankT md (if fitE L = 0 then k + opsW op xs.length else k)), .t (.int .i64 (fitE L))]
    (upd (upd h (.obj m) (some (bankR md (.t (.slice [])) k false))) (.obj (m + 1)) (some (bankR md (.t (.slice [])) (k + opsW op xs.length) false))) (m + 2)) :
  Pure Tryz.prog 4 [.int .i64 md, wbT op x ⟨t, xs.map Vx.sc⟩ ⟨f, ys.map Vx.sc⟩] [.t (.bool true)] := by
 have hb0 : ∀ l, Lab.pool l = false → (fun _ => none : Heap) l = none := fun _ _ => rfl
 have e1 := d1 (upd (fun _ => none) (.obj 0) (some (bankG md .nil 0 false))) 1 0 0 (upd_hb hb0) (upd_same _ _ _) (by decide)
 rw [upd_upd] at e1
 obtain ⟨k1, hk1⟩ : ∃ k1, (if fitE L = 0 then 0 + opsW op xs.length else 0) = k1 := ⟨_, rfl⟩
 have e2 := d2 (upd (fun _ => none) (.obj 0) (some (bankG md .nil k1 false))) 1 0 (upd_hb hb0) rfl rfl (by decide)
 rw [hk1] at e1 e2
 rw [← Ag_sc, ← Ag_sc] at cr e1 e2
 exact writeDoes_two md op hmd x _ _ cr (if fitE L = 0 then L else []) (len_if hL (by decide)) (AllX_if hLq) (fitE L) k1 3 _ (upd_hb (upd_hb (upd_hb hb0))) rfl e1 e2
theorem writeDoes_ok (md op : Int) (x : Atr) (t f : Ag) (ht : ∀ s ∈ t.v, ScW s ∧ s.b < 18446744073709551616) (hf : ∀ s ∈ f.v, ScW s ∧ s.b < 18446744073709551616) : Pure Tryz.prog 4 [.int .i64 md, wbT op x t f] [.t (.bool true)] := by
 by_cases hmd : md = 0 ∨ md = 1
 case neg => exact writeDoes_r md op x t f (argsRightN_ok md hmd [t, f])
 have hw : ∀ a ∈ [t, f], ∀ s ∈ a.v, ScW s ∧ s.b < 18446744073709551616 := by
  intro a ha
  simp only [List.mem_cons, List.not_mem_nil, or_false] at ha
  rcases ha with rfl | rfl
  ·exact ht
  ·exact hf
 have cr := argsRightX_ok md hmd [t, f] (by simp) (fun hb a ha s hs => ⟨argsSOK (fun a ha s hs => (hw a ha s hs).1) hb a ha s hs, (hw a ha s hs).2⟩)
 obtain ⟨b, hb⟩ : ∃ b, (!argsB [t, f] && [t, f].all fun a => a.v.all (rightX md)) = b := ⟨_, rfl⟩
 rw [hb] at cr
 cases b with
 | false => exact writeDoes_r md op x t f cr
 | true =>
   rw [Bool.and_eq_true] at hb
   obtain ⟨hb1, hb2⟩ := hb
   have hb1 : argsB [t, f] = false := by simpa using hb1
   obtain ⟨_, hsh⟩ := short_of hb1
   obtain ⟨t1, t2, t3⟩ := hsh t (by simp)
   obtain ⟨f1, f2, f3⟩ := hsh f (by simp)
   simp only [List.all_cons, List.all_nil, Bool.and_true, Bool.and_eq_true] at hb2
   by_cases hop : op < 1 ∨ 5 < op
   ·exact writeDoes_no md op 14 hmd x t f cr (by decide) (check_n op x t f hop) (rcheck_n op x t f hop)
   obtain ⟨xs, hxs, hxq⟩ := rightNumX hmd (fun s hs => (ht s hs).1) (fun s hs => (ht s hs).2) hb2.1 t3
   obtain ⟨ys, hys, hyq⟩ := rightNumX hmd (fun s hs => (hf s hs).1) (fun s hs => (hf s hs).2) hb2.2 f3
   obtain ⟨td, tv⟩ := t
   obtain ⟨fd, fv⟩ := f
   dsimp only at hxs hys t1 t2 f1 f2
   subst hxs hys
   rw [List.length_map] at t2 f2
   have cr2 := cr
   simp only [sA, List.map_cons, List.map_nil, Ag_sc] at cr2
   by_cases h3 : op ≤ 3
   ·by_cases he : wchk ⟨td, xs.map Vx.sc⟩ ⟨fd, ys.map Vx.sc⟩ = 0
    ·unfold wchk at he
     dsimp only at he
     split at he <;> try contradiction
     split at he <;> try contradiction
     split at he <;> try contradiction
     split at he <;> try contradiction
     split at he <;> try contradiction
     rename_i g1 g2 g3 g4 g5
     have hfit := Classical.not_not.1 g5
     have hx : (xs.length : Int) = cnt td := by rw [← Classical.not_not.1 g2, List.length_map]
     have hy : (ys.length : Int) = cnt fd := by rw [← Classical.not_not.1 g4, List.length_map]
     exact writeDoes_yes md op hmd x td fd xs ys cr2 _ (by rw [wrX_length]; omega) ((wrX_ok (c := .q 0) (by omega) h3 hfit hy hxq hyq).mono (by decide))
      (fun h m id k hb hk hkb => writeS_ok h m id k md op (by omega) h3 x fd td xs ys hb hk hkb hfit hx hy (hxq.mono (by decide)) (hyq.mono (by decide)) _ rfl)
      (fun h m k hb hm1 hm2 hkb => rwriteS_ok h m k md op (by omega) h3 x fd td xs ys hb hm1 hm2 hkb hfit hx hy hxq hyq _ rfl)
    ·exact writeDoes_no md op _ hmd x _ _ cr he (check_w op x _ _ (by dsimp only; omega) (by dsimp only; omega) (by omega) h3) (rcheck_w op x _ _ (by dsimp only; omega) (by dsimp only; omega) (by omega) h3)
   ·by_cases he : wchkC ⟨td, xs.map Vx.sc⟩ (constB x.p x.q) = 0
    ·unfold wchkC at he
     dsimp only at he
     split at he <;> try contradiction
     split at he <;> try contradiction
     split at he <;> try contradiction
     rename_i g1 g2 hcb
     have ht0 := Classical.not_not.1 g1
     have hx : (xs.length : Int) = cnt td := by rw [← Classical.not_not.1 g2, List.length_map]
     have hcok : (numV md ((x.p : Rat) / (x.q : Rat))).md = md ∧ (numV md ((x.p : Rat) / (x.q : Rat))).B 9 := by
      obtain ⟨p1, p2, q1, q2⟩ := constB_true hcb
      exact ⟨numV_md hmd _, numV_B ((QB_div (by omega) (by omega) (by omega)).mono (by decide))⟩
     exact writeDoes_yes md op hmd x td fd xs ys cr2 _ (by rw [wcX_length]; omega) ((wcX_ok (by omega) (by omega) hxq hcok).mono (by decide))
      (fun h m id k hb hk hkb => writeC_ok h m id k md op hmd (by omega) (by omega) x fd td xs ys hb hk hkb ht0 hx hcb (hxq.mono (by decide)) _ rfl)
      (fun h m k hb hm1 hm2 hkb => rwriteC_ok h m k md op hmd (by omega) (by omega) x fd td xs ys hb hm1 hm2 hkb ht0 hx hcb hxq _ rfl)
    ·exact writeDoes_no md op _ hmd x _ _ cr he (check_c op x _ _ (by dsimp only; omega) (by omega) (by omega)) (rcheck_c op x _ _ (by dsimp only; omega) (by omega) (by omega))

theorem dat_i {n : Nat} {a : T} (h : Typed Tryz.prog (n + 1) 3 [a]) : ∃ z : Int, a = .int .i64 z := by
 obtain ⟨z, _, hz⟩ := Dat.int Tryz.underlying3 (dat1 (n := n + 1) (t := 3) (a := a) (by simp [mkT, Tryz.underlying3]) h)
 exact ⟨z, hz⟩
theorem dat_attr {n : Nat} {a0 a1 a2 a3 a4 a5 a6 a7 a8 a9 : T} (h : Typed Tryz.prog (n + 3) 44 [a0, a1, a2, a3, a4, a5, a6, a7, a8, a9]) : ∃ x : Atr, a0 = .int .i64 x.n ∧ a1 = .int .i64 x.a ∧ a2 = .int .i64 x.b ∧ a3 = .int .i64 x.c ∧ a4 = .int .i64 x.p ∧ a5 = .int .i64 x.q ∧ a6 = .int .i64 x.r ∧ a7 = .int .i64 x.s ∧ a8 = .bool x.keep ∧ a9 = sI x.list := by
 simp only [Typed, Tryz.underlying44] at h
 obtain ⟨_, hf⟩ := h
 simp only [List.forall_mem_cons] at hf
 obtain ⟨h0, h1, h2, h3, h4, h5, h6, h7, h8, h9, _⟩ := hf
 have c1 : (Tryz.prog).cellsOf 3 = 1 := by kernel_rfl
 have c2 : (Tryz.prog).cellsOf 4 = 1 := by kernel_rfl
 have c3 : (Tryz.prog).cellsOf 22 = 1 := by kernel_rfl
 rw [c1] at h0 h1 h2 h3 h4 h5 h6 h7
 rw [c2] at h8
 rw [c3] at h9
 obtain ⟨z0, e0⟩ := dat_i (n := n + 1) (a := a0) h0
 obtain ⟨z1, e1⟩ := dat_i (n := n + 1) (a := a1) h1
 obtain ⟨z2, e2⟩ := dat_i (n := n + 1) (a := a2) h2
 obtain ⟨z3, e3⟩ := dat_i (n := n + 1) (a := a3) h3
 obtain ⟨z4, e4⟩ := dat_i (n := n + 1) (a := a4) h4
 obtain ⟨z5, e5⟩ := dat_i (n := n + 1) (a := a5) h5
 obtain ⟨z6, e6⟩ := dat_i (n := n + 1) (a := a6) h6
 obtain ⟨z7, e7⟩ := dat_i (n := n + 1) (a := a7) h7
 obtain ⟨k, e8⟩ := Dat.bool Tryz.underlying4 (dat1 (n := n + 2) (t := 4) (a := a8) (by simp [mkT, Tryz.underlying4]) h8)
 obtain ⟨l, _, e9⟩ := dat_ints (dat1 (n := n + 2) (t := 22) (a := a9) (by simp [mkT, Tryz.underlying22]) h9)
 exact ⟨⟨z0, z1, z2, z3, z4, z5, z6, z7, k, l⟩, e0, e1, e2, e3, e4, e5, e6, e7, e8, e9⟩
theorem dat_write {n : Nat} {x : T} (h : Dat Tryz.prog (n + 7) 46 x) : ∃ (op : Int) (a : Atr) (t f : Ag), ((∀ s ∈ t.v, ScW s ∧ s.b < 18446744073709551616) ∧ ∀ s ∈ f.v, ScW s ∧ s.b < 18446744073709551616) ∧ x = wbT op a t f := by
 obtain ⟨ts, h, rfl⟩ := h
 simp only [Typed, Tryz.underlying46] at h
 obtain ⟨hl, hf⟩ := h
 rw [show (Tryz.prog).cellsOf 46 = 15 by kernel_rfl] at hl
 match ts, hl with
 | [b0, a0, a1, a2, a3, a4, a5, a6, a7, a8, a9, t1, t2, f1, f2], _ =>
   have h0 := hf _ (.head _)
   have h1 := hf _ (.tail _ (.head _))
   have h2 := hf _ (.tail _ (.tail _ (.head _)))
   have h3 := hf _ (.tail _ (.tail _ (.tail _ (.head _))))
   clear hf
   dsimp only at h0 h1 h2 h3
   rw [show (Tryz.prog).cellsOf 3 = 1 by kernel_rfl] at h0
   rw [show (Tryz.prog).cellsOf 44 = 10 by kernel_rfl] at h1
   rw [show (Tryz.prog).cellsOf 25 = 2 by kernel_rfl] at h2 h3
   obtain ⟨op, rfl⟩ := dat_i (n := n + 5) (a := b0) h0
   obtain ⟨a, e0, e1, e2, e3, e4, e5, e6, e7, e8, e9⟩ := dat_attr (n := n + 3) (a0 := a0) (a1 := a1) (a2 := a2) (a3 := a3) (a4 := a4) (a5 := a5) (a6 := a6) (a7 := a7) (a8 := a8) (a9 := a9) h1
   obtain ⟨t, ht, et1, et2⟩ := dat_argL (n := n) (a := t1) (b := t2) h2
   obtain ⟨f, hf, ef1, ef2⟩ := dat_argL (n := n) (a := f1) (b := f2) h3
   refine ⟨op, a, t, f, ⟨ht, hf⟩, ?_⟩
   rw [e0, e1, e2, e3, e4, e5, e6, e7, e8, e9, et1, et2, ef1, ef2]
   simp only [mkT, Tryz.underlying46, wbT]
end Go.Fm
