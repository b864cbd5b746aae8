/- The law on writes: what it asks for besides. -/
import Derived.Test.YtjgkdkbmppaaaaaGreatWrtA
import Derived.Test.YtjgkdkbmppaaaaaGreatLawW
set_option linter.unusedVariables false
set_option linter.unusedSimpArgs false
namespace Go.Fm
open Go.Proofs
set_option maxRecDepth 100000
attribute [local irreducible] tiOf

theorem bitLen_lt {n k : Nat} (h : n < 2 ^ k) : bitLen n ≤ k := by
  rcases Nat.lt_or_ge k (bitLen n) with h1 | h1
  · have hn : n ≠ 0 := fun e => by subst e; simp [bitLen] at h1
    obtain ⟨b1, _, b3⟩ := bitLen_bounds hn
    have : 2 ^ k ≤ 2 ^ (bitLen n - 1) := Nat.pow_le_pow_right (by decide) (by omega)
    omega
  · exact h1
theorem lt_wordsOf {n k : Nat} (h : (wordsOf n).length ≤ k) : n < 2 ^ (64 * k) := by
  have h1 := nv_lt (WOK_wordsOf n)
  rw [nv_wordsOf] at h1
  rw [Nat.pow_mul]
  exact Nat.lt_of_lt_of_le h1 (Nat.pow_le_pow_right (by decide) h)
theorem QB.bits {r : Rat} {k : Nat} (h : QB r k) : bitsR r ≤ 64 * k := Nat.max_le.2 ⟨bitLen_lt (lt_wordsOf h.n), bitLen_lt (lt_wordsOf h.d)⟩

theorem val37_ok (n : Nat) (h : n < 18446744073709551616) : Pure Tryz.prog 52 [.int .u64 n] [.t (vT (n : Rat))] := by
  have c := rVal_ok n h
  rw [vT_eq]
  rw [qT] at c
  have e1 : sW [n] = T.slice [T.int .u64 (n : Int)] := rfl
  have e2 : sW [1] = T.slice [T.int .u64 1] := rfl
  rw [e1, e2] at c
  refine Pure.introC Tryz.func52 rfl (rv := [.c 2 _]) rfl (by simp [Tryz.ntmps52]) (by decide) (sites := fun _ => false) ?_
  apply run_sound 200
  simp -implicitDefEqProofs +decide only [go_sem]
  refine CallG.pureS _ Tryz.call76 (c) (by first | rfl | (simp only [go_sem]; done) | (simp only [go_sem]; rfl)) (by first | rfl | (simp only [go_sem]; done) | (simp only [go_sem]; rfl)) ?_
  apply run_sound 200
  simp -implicitDefEqProofs +decide only [go_sem]
  exact endC.one (.inr rfl) (by first | rfl | (simp -implicitDefEqProofs +decide only [go_sem, valC, sW]; done) | (simp -implicitDefEqProofs +decide only [go_sem, valC, sW]; rfl)) (by first | rfl | (simp -implicitDefEqProofs +decide only [go_sem, sW]; done) | (simp -implicitDefEqProofs +decide only [go_sem, sW]; rfl)) (fun l hp => by cases l <;> first | rfl | cases hp) rfl

/-- A sum, written and taken back. -/
theorem wrL_back (f t : List Int) (xs ys : List Rat) : wrL (· - ·) f t (wrL (· + ·) f t xs ys xs.length) ys xs.length = xs := by
  apply List.ext_getElem?
  intro i
  rcases Nat.lt_or_ge i xs.length with h | h
  · have hx : xs[i]? = some xs[i] := List.getElem?_eq_getElem h
    unfold wrL
    rw [List.getElem?_map, List.getElem?_range h, Option.map_some, List.getD_eq_getElem?_getD, List.getElem?_map, List.getElem?_range h, hx]
    simp only [Option.map_some, Option.getD_some]
    rw [List.getD_eq_getElem?_getD, hx, Option.getD_some]
    generalize ys.getD (srcN f t (i : Int)).toNat 0 = y
    generalize xs[i] = x
    rw [Rat.sub_eq_add_neg, Rat.add_assoc, Rat.add_neg_cancel, Rat.add_zero]
  · rw [List.getElem?_eq_none (by rw [wrL_length]; exact h), List.getElem?_eq_none h]
theorem wrL_QB {f t : List Int} {xs ys : List Rat} {a b : Nat} (hx : ∀ r ∈ xs, QB r a) (hy : ∀ r ∈ ys, QB r b) (ha : 1 ≤ a) (hb : 1 ≤ b) (n : Nat) : ∀ r ∈ wrL (· + ·) f t xs ys n, QB r (a + b + 1) := by
  intro r hr
  unfold wrL at hr
  obtain ⟨i, _, rfl⟩ := List.mem_map.1 hr
  exact QB_add (getD_QB hx ha _) (getD_QB hy hb _)
theorem same37_wr : wrL (· + ·) [] [2] ([1, 2].map fun n : Nat => (n : Rat)) ([5].map fun n : Nat => (n : Rat)) 2 = ([6, 7].map fun n : Nat => (n : Rat)) := by decide +kernel
theorem same37_fit : twoS [] [2] = ([2], 0) := by
  have hc : ¬ clash [] [2] := fun ⟨k, h1, h2, h3, h4, _⟩ => by
    unfold sizeD at h4
    rw [if_pos (show ([] : List Int).length < k from h1)] at h4
    exact h4 rfl
  exact fit_twoS (by decide) (by decide) hc (by decide)
end Go.Fm
/- The law on writes: its own check. -/
namespace Go.Fm
open Go.Proofs
set_option maxRecDepth 100000
attribute [local irreducible] tiOf

theorem same37_ok : Pure Tryz.prog 23 [] [.t (.bool true)] := by
  have v1 := val37_ok 1 (by decide)
  have v2 := val37_ok 2 (by decide)
  have v5 := val37_ok 5 (by decide)
  have v6 := val37_ok 6 (by decide)
  have v7 := val37_ok 7 (by decide)
  have hq : ∀ l : List Nat, (∀ n ∈ l, n < 18446744073709551616) → ∀ r ∈ l.map (fun n : Nat => (n : Rat)), QB r 1 := fun l hl r hr => by
    obtain ⟨n, hn, rfl⟩ := List.mem_map.1 hr
    exact QB_nat n (hl n hn)
  have q1 := hq [1, 2] (by decide)
  have q2 := hq [5] (by decide)
  have q3 := hq [6, 7] (by decide)
  have hwr : wrL (· + ·) [] [2] ([1, 2].map fun n : Nat => (n : Rat)) ([5].map fun n : Nat => (n : Rat)) ([1, 2].map fun n : Nat => (n : Rat)).length = ([6, 7].map fun n : Nat => (n : Rat)) := same37_wr
  have hb0 : ∀ l, Lab.pool l = false → (fun _ => none : Heap) l = none := fun _ _ => rfl
  have cn := bankNew_ok (fun _ => none) 0 hb0 rfl
  have hd := writeAdd_ok (upd (fun _ => none) (.obj 0) (some (bankO 0))) 1 0 0 ⟨0, 0, 0, 0, 0, 0, 0, 0, false, []⟩ [] [2] ([1, 2].map fun n : Nat => (n : Rat)) ([5].map fun n : Nat => (n : Rat)) (bank_hb hb0) (upd_same _ _ _) (by decide) same37_fit (by decide) (by decide)
    (fun r hr => (q1 r hr).mono (by decide)) (fun r hr => (q2 r hr).mono (by decide)) (fun r hr => by
      rw [hwr] at hr
      have h := q3 r hr
      exact ⟨h.mono (by decide), Nat.le_trans h.bits (by decide)⟩)
  rw [hwr, obj_up] at hd
  have ci := wis_ok 4
  rw [show (decide ((4 : Int) ≥ 1) && decide ((4 : Int) ≤ 5)) = true from rfl, show (decide ((4 : Int) ≥ 1) && decide ((4 : Int) ≤ 3)) = false from rfl] at ci
  have ca := rAllR_ok ([6, 7].map fun n : Nat => (n : Rat)) ([6, 7].map fun n : Nat => (n : Rat)) (by decide) (by decide) (fun r hr => (q3 r hr).mono (by decide)) (fun r hr => (q3 r hr).mono (by decide))
  rw [decide_eq_true rfl] at ca
  simp only [sV, sI, argT, List.map_cons, List.map_nil, I, Atr.T] at hd ca
  have e0 : 0 + [((1 : Nat) : Rat), ((2 : Nat) : Rat)].length = 2 := rfl
  rw [e0] at hd
  clear hwr q1 q2 q3 hq
  generalize ((1 : Nat) : Rat) = r1 at *
  generalize ((2 : Nat) : Rat) = r2 at *
  generalize ((5 : Nat) : Rat) = r5 at *
  generalize ((6 : Nat) : Rat) = r6 at *
  generalize ((7 : Nat) : Rat) = r7 at *
  simp only [vT_eq] at v1 v2 v5 v6 v7 hd ca
  refine Pure.drop (h' := upd (fun _ => none) (.obj 0) (some (bankO 2))) (m' := 1) ?_ rfl
  refine Ret.intro Tryz.func23 rfl (rt := [0]) rfl (by simp [Tryz.ntmps23]) (by decide) (sites := fun _ => false) (bank_hb hb0) (Keeps.none _) ?_
  apply run_sound 200
  simp -implicitDefEqProofs +decide only [go_sem]
  refine CallG.pool _ Tryz.call18 cn hb0 (by rintro (_ | _ | _ | _ | _) hp <;> first | (cases hp; done) | simp -implicitDefEqProofs +decide only [go_sem]) ?_
  apply run_sound 200
  simp -implicitDefEqProofs +decide only [go_sem]
  refine CallG.pureS _ Tryz.call52 (v1) (by first | rfl | (simp only [go_sem]; done) | (simp only [go_sem]; rfl)) (by first | rfl | (simp only [go_sem]; done) | (simp only [go_sem]; rfl)) ?_
  apply run_sound 200
  simp -implicitDefEqProofs +decide only [go_sem]
  refine CallG.pureS _ Tryz.call52 (v2) (by first | rfl | (simp only [go_sem]; done) | (simp only [go_sem]; rfl)) (by first | rfl | (simp only [go_sem]; done) | (simp only [go_sem]; rfl)) ?_
  apply run_sound 200
  simp -implicitDefEqProofs +decide only [go_sem]
  refine CallG.pureS _ Tryz.call52 (v5) (by first | rfl | (simp only [go_sem]; done) | (simp only [go_sem]; rfl)) (by first | rfl | (simp only [go_sem]; done) | (simp only [go_sem]; rfl)) ?_
  apply run_sound 200
  simp -implicitDefEqProofs +decide only [go_sem]
  refine CallG.pool _ Tryz.call24 hd (bank_hb hb0) (by rintro (_ | _ | _ | _ | _) hp <;> first | (cases hp; done) | simp -implicitDefEqProofs +decide only [go_sem]) ?_
  apply run_sound 200
  simp -implicitDefEqProofs +decide only [go_sem]
  refine CallG.pure _ Tryz.call53 (ci) (by first | rfl | (simp only [go_sem]; done) | (simp only [go_sem]; rfl)) (by first | rfl | (simp only [go_sem]; done) | (simp only [go_sem]; rfl)) ?_
  apply run_sound 200
  simp -implicitDefEqProofs +decide only [go_sem]
  refine CallG.pureS _ Tryz.call52 (v6) (by first | rfl | (simp only [go_sem]; done) | (simp only [go_sem]; rfl)) (by first | rfl | (simp only [go_sem]; done) | (simp only [go_sem]; rfl)) ?_
  apply run_sound 200
  simp -implicitDefEqProofs +decide only [go_sem]
  refine CallG.pureS _ Tryz.call52 (v7) (by first | rfl | (simp only [go_sem]; done) | (simp only [go_sem]; rfl)) (by first | rfl | (simp only [go_sem]; done) | (simp only [go_sem]; rfl)) ?_
  apply run_sound 200
  simp -implicitDefEqProofs +decide only [go_sem]
  refine CallG.pure _ Tryz.call20 (ca) (by simp only [List.all_cons, List.all_nil, noPtr, noPtrL, noPtr_sW, noPtr_sI, noPtr_sV, noPtrL_U, noPtrL_I, noPtrL_vT, I, List.map_cons, List.map_nil, Bool.and_true, Bool.and_self]) (by first | rfl | (simp only [go_sem]; done) | (simp only [go_sem]; rfl)) ?_
  apply run_sound 200
  simp -implicitDefEqProofs +decide only [go_sem]
  exact endF.vals [(0, .bool true)] (.inr rfl) (vals_t (by first | rfl | (simp -implicitDefEqProofs +decide only [go_sem]; done) | (simp -implicitDefEqProofs +decide only [go_sem]; rfl)) rfl vals_nil) (by rintro (_ | _ | _ | _ | _) hp <;> first | (cases hp; done) | simp -implicitDefEqProofs +decide only [go_sem]) rfl
end Go.Fm
/- The law on writes. -/
namespace Go.Fm
open Go.Proofs
set_option maxRecDepth 100000
attribute [local irreducible] tiOf

def wbT (op : Int) (x : Atr) (t f : Ag) : T := .agg [.int .i64 op, .int .i64 x.n, .int .i64 x.a, .int .i64 x.b, .int .i64 x.c, .int .i64 x.p, .int .i64 x.q, .int .i64 x.r, .int .i64 x.s, .bool x.keep, sI x.list, sI t.d, sS t.v, sI f.d, sS f.v]
theorem writeBack_r (op : Int) (x : Atr) (t f : Ag) (cr : Pure Tryz.prog 15 [.int .i64 0, .slice [t.T, f.T]] [.t (.bool false)]) : Pure Tryz.prog 6 [wbT op x t f] [.t (.bool true)] := by
  have cs := same37_ok
  obtain ⟨a1, a2, a3, a4, a5, a6, a7, a8, ak, al⟩ := x
  obtain ⟨td, tv⟩ := t
  obtain ⟨fd, fv⟩ := f
  simp only [Ag.T, sI, sS] at cr
  unfold wbT
  refine Pure.intro Tryz.func6 rfl (rt := [2]) rfl (by simp [Tryz.ntmps6]) (by decide) (sites := fun _ => false) ?_
  apply run_sound 200
  simp -implicitDefEqProofs +decide only [go_sem, sI, sS]
  refine CallG.pure _ Tryz.call15 cr (by simp only [List.all_cons, List.all_nil, noPtr, noPtrL, noPtr_sI, noPtr_sS, noPtrL_I, noPtrL_Sc, Bool.and_self]) (by first | rfl | (simp only [go_sem]; done) | (simp only [go_sem]; rfl)) ?_
  apply run_sound 200
  simp -implicitDefEqProofs +decide only [go_sem]
  refine CallG.pure _ Tryz.call23 (cs) (by first | rfl | (simp only [go_sem]; done) | (simp only [go_sem]; rfl)) (by first | rfl | (simp only [go_sem]; done) | (simp only [go_sem]; rfl)) ?_
  apply run_sound 200
  simp -implicitDefEqProofs +decide only [go_sem]
  exact endF.vals [(2, .bool true)] (.inr rfl) (vals_t (by simp -implicitDefEqProofs +decide only [go_sem] <;> rfl) rfl vals_nil) (fun l hp => by cases l <;> first | rfl | cases hp) rfl
theorem writeBack_t (op : Int) (x : Atr) (t f : Ag) (cr : Pure Tryz.prog 15 [.int .i64 0, .slice [t.T, f.T]] [.t (.bool true)]) (ct : Pure Tryz.prog 22 [sS t.v, .int .i64 4] [.t (.bool true)]) : Pure Tryz.prog 6 [wbT op x t f] [.t (.bool true)] := by
  have cs := same37_ok
  obtain ⟨a1, a2, a3, a4, a5, a6, a7, a8, ak, al⟩ := x
  obtain ⟨td, tv⟩ := t
  obtain ⟨fd, fv⟩ := f
  simp only [Ag.T, sI, sS] at cr ct
  unfold wbT
  refine Pure.intro Tryz.func6 rfl (rt := [2]) rfl (by simp [Tryz.ntmps6]) (by decide) (sites := fun _ => false) ?_
  apply run_sound 200
  simp -implicitDefEqProofs +decide only [go_sem, sI, sS]
  refine CallG.pure _ Tryz.call15 cr (by simp only [List.all_cons, List.all_nil, noPtr, noPtrL, noPtr_sI, noPtr_sS, noPtrL_I, noPtrL_Sc, Bool.and_self]) (by first | rfl | (simp only [go_sem]; done) | (simp only [go_sem]; rfl)) ?_
  apply run_sound 200
  simp -implicitDefEqProofs +decide only [go_sem]
  refine CallG.pure _ Tryz.call22 (ct) (by first | rfl | (simp only [go_sem]; done) | (simp only [go_sem]; rfl)) (by first | rfl | (simp only [go_sem]; done) | (simp only [go_sem]; rfl)) ?_
  apply run_sound 200
  simp -implicitDefEqProofs +decide only [go_sem]
  refine CallG.pure _ Tryz.call23 (cs) (by first | rfl | (simp only [go_sem]; done) | (simp only [go_sem]; rfl)) (by first | rfl | (simp only [go_sem]; done) | (simp only [go_sem]; rfl)) ?_
  apply run_sound 200
  simp -implicitDefEqProofs +decide only [go_sem]
  exact endF.vals [(2, .bool true)] (.inr rfl) (vals_t (by simp -implicitDefEqProofs +decide only [go_sem] <;> rfl) rfl vals_nil) (fun l hp => by cases l <;> first | rfl | cases hp) rfl
theorem writeBack_f (op : Int) (x : Atr) (t f : Ag) (cr : Pure Tryz.prog 15 [.int .i64 0, .slice [t.T, f.T]] [.t (.bool true)]) (ct : Pure Tryz.prog 22 [sS t.v, .int .i64 4] [.t (.bool false)])
    (cf : Pure Tryz.prog 22 [sS f.v, .int .i64 3] [.t (.bool true)]) : Pure Tryz.prog 6 [wbT op x t f] [.t (.bool true)] := by
  have cs := same37_ok
  obtain ⟨a1, a2, a3, a4, a5, a6, a7, a8, ak, al⟩ := x
  obtain ⟨td, tv⟩ := t
  obtain ⟨fd, fv⟩ := f
  simp only [Ag.T, sI, sS] at cr ct cf
  unfold wbT
  refine Pure.intro Tryz.func6 rfl (rt := [2]) rfl (by simp [Tryz.ntmps6]) (by decide) (sites := fun _ => false) ?_
  apply run_sound 200
  simp -implicitDefEqProofs +decide only [go_sem, sI, sS]
  refine CallG.pure _ Tryz.call15 cr (by simp only [List.all_cons, List.all_nil, noPtr, noPtrL, noPtr_sI, noPtr_sS, noPtrL_I, noPtrL_Sc, Bool.and_self]) (by first | rfl | (simp only [go_sem]; done) | (simp only [go_sem]; rfl)) ?_
  apply run_sound 200
  simp -implicitDefEqProofs +decide only [go_sem]
  refine CallG.pure _ Tryz.call22 (ct) (by first | rfl | (simp only [go_sem]; done) | (simp only [go_sem]; rfl)) (by first | rfl | (simp only [go_sem]; done) | (simp only [go_sem]; rfl)) ?_
  apply run_sound 200
  simp -implicitDefEqProofs +decide only [go_sem]
  refine CallG.pure _ Tryz.call22 (cf) (by first | rfl | (simp only [go_sem]; done) | (simp only [go_sem]; rfl)) (by first | rfl | (simp only [go_sem]; done) | (simp only [go_sem]; rfl)) ?_
  apply run_sound 200
  simp -implicitDefEqProofs +decide only [go_sem]
  refine CallG.pure _ Tryz.call23 (cs) (by first | rfl | (simp only [go_sem]; done) | (simp only [go_sem]; rfl)) (by first | rfl | (simp only [go_sem]; done) | (simp only [go_sem]; rfl)) ?_
  apply run_sound 200
  simp -implicitDefEqProofs +decide only [go_sem]
  exact endF.vals [(2, .bool true)] (.inr rfl) (vals_t (by simp -implicitDefEqProofs +decide only [go_sem] <;> rfl) rfl vals_nil) (fun l hp => by cases l <;> first | rfl | cases hp) rfl
/-- A write that is not done. -/
theorem writeBack_no (op : Int) (x : Atr) (t f : Ag) (cr : Pure Tryz.prog 15 [.int .i64 0, .slice [t.T, f.T]] [.t (.bool true)]) (ct : Pure Tryz.prog 22 [sS t.v, .int .i64 4] [.t (.bool false)])
    (cf : Pure Tryz.prog 22 [sS f.v, .int .i64 3] [.t (.bool false)]) (ht : t.d.length < 1000000000) (hf : f.d.length < 1000000000) (he : wchk t f ≠ 0) : Pure Tryz.prog 6 [wbT op x t f] [.t (.bool true)] := by
  have cs := same37_ok
  have hb0 : ∀ l, Lab.pool l = false → (fun _ => none : Heap) l = none := fun _ _ => rfl
  have n1 := bankNew_ok (fun _ => none) 0 hb0 rfl
  have d1 := write_no (upd (fun _ => none) (.obj 0) (some (bankO 0))) 1 0 0 2 x t f (bank_hb hb0) (upd_same _ _ _) ht hf (by decide) (by decide) he
  generalize wchk t f = e at *
  obtain ⟨a1, a2, a3, a4, a5, a6, a7, a8, ak, al⟩ := x
  obtain ⟨td, tv⟩ := t
  obtain ⟨fd, fv⟩ := f
  have he1 : decide (e ≠ 0) = true := decide_eq_true he
  simp only [Ag.T, sI, sS, Atr.T, I] at cr ct cf d1
  unfold wbT
  refine Pure.drop (h' := upd (fun _ => none) (.obj 0) (some (bankO 0))) (m' := 1) ?_ rfl
  refine Ret.intro Tryz.func6 rfl (rt := [2]) rfl (by simp [Tryz.ntmps6]) (by decide) (sites := fun _ => false) (bank_hb hb0) (Keeps.none _) ?_
  apply run_sound 200
  simp -implicitDefEqProofs +decide only [go_sem, sI, sS]
  refine CallG.pure _ Tryz.call15 cr (by simp only [List.all_cons, List.all_nil, noPtr, noPtrL, noPtr_sI, noPtr_sS, noPtrL_I, noPtrL_Sc, Bool.and_self]) (by first | rfl | (simp only [go_sem]; done) | (simp only [go_sem]; rfl)) ?_
  apply run_sound 200
  simp -implicitDefEqProofs +decide only [go_sem]
  refine CallG.pure _ Tryz.call22 (ct) (by first | rfl | (simp only [go_sem]; done) | (simp only [go_sem]; rfl)) (by first | rfl | (simp only [go_sem]; done) | (simp only [go_sem]; rfl)) ?_
  apply run_sound 200
  simp -implicitDefEqProofs +decide only [go_sem]
  refine CallG.pure _ Tryz.call22 (cf) (by first | rfl | (simp only [go_sem]; done) | (simp only [go_sem]; rfl)) (by first | rfl | (simp only [go_sem]; done) | (simp only [go_sem]; rfl)) ?_
  apply run_sound 200
  simp -implicitDefEqProofs +decide only [go_sem]
  refine Goes.drawP mixed (Calm.of (by repeat first | exact Clean.und | refine Clean.upd ?_ rfl | refine Clean.upd ?_ (by simp only [cleanA, cleanL, ])) (by repeat first | exact HCalm.none | exact HCalm.hb hb | exact HCalm.hb (bank_hb hb) | refine HCalm.row ?_ | refine HCalm.box ?_ (by first | rfl | (simp only [cleanA, cleanL, ]; done) | assumption))) ?_
  simp -implicitDefEqProofs +decide only [go_sem]
  refine CallD.make _ [(.obj 0, bankO 0)] 1 Tryz.call18 n1 rfl hb0 (fun l hp => by cases l <;> first | rfl | cases hp) (fun _ _ => rfl) rfl (.inl (by simp)) ?_
  simp -implicitDefEqProofs +decide only [go_sem]
  refine CallD.make _ [(.obj 0, bankO 0)] 0 Tryz.call24 d1 rfl (bank_hb hb0) (by rintro (_ | _ | _ | _ | _) hp <;> first | (cases hp; done) | simp -implicitDefEqProofs +decide only [go_sem]) (fun l _ => (congrFun (obj_up _ 0 0 0) l).symm) rfl (.inr rfl) ?_
  simp -implicitDefEqProofs +decide only [go_sem]
  refine ⟨.mk (by kernel_rfl), ?_⟩
  apply run_sound 200
  simp -implicitDefEqProofs +decide only [go_sem]
  refine selP_dec (fun _ => ?_) (fun h => absurd he h)
  simp -implicitDefEqProofs +decide only [go_sem]
  refine CallG.pure _ Tryz.call23 (cs) (by first | rfl | (simp only [go_sem]; done) | (simp only [go_sem]; rfl)) (by first | rfl | (simp only [go_sem]; done) | (simp only [go_sem]; rfl)) ?_
  apply run_sound 200
  simp -implicitDefEqProofs +decide only [go_sem]
  exact endF.vals [(2, .bool true)] (.inr rfl) (vals_t (by first | rfl | (simp -implicitDefEqProofs +decide only [go_sem]; done) | (simp -implicitDefEqProofs +decide only [go_sem]; rfl)) rfl vals_nil) (by rintro (_ | _ | _ | _ | _) hp <;> first | (cases hp; done) | simp -implicitDefEqProofs +decide only [go_sem]) rfl
end Go.Fm
/- The law on writes: a write that is done, and taken back. -/
namespace Go.Fm
open Go.Proofs
set_option maxRecDepth 100000
attribute [local irreducible] tiOf

set_option maxHeartbeats 1000000 in
theorem writeBack_yes (op : Int) (x : Atr) (t f : List Int) (xs ys : List Rat) (cr : Pure Tryz.prog 15 [.int .i64 0, .slice [argT t xs, argT f ys]] [.t (.bool true)]) (ct : Pure Tryz.prog 22 [sV xs, .int .i64 4] [.t (.bool false)])
    (cf : Pure Tryz.prog 22 [sV ys, .int .i64 3] [.t (.bool false)]) (hfit : twoS f t = (t, 0)) (hx : (xs.length : Int) = cnt t) (hy : (ys.length : Int) = cnt f) (hxq : ∀ r ∈ xs, QB r 4) (hyq : ∀ r ∈ ys, QB r 3) :
    Pure Tryz.prog 6 [wbT op x ⟨t, xs.map scR⟩ ⟨f, ys.map scR⟩] [.t (.bool true)] := by
  have cs := same37_ok
  have hb0 : ∀ l, Lab.pool l = false → (fun _ => none : Heap) l = none := fun _ _ => rfl
  have F := twoS_fit hfit
  have hcn := (chk0 F.ct).2.2
  have hct : cnt t = prodL t := by unfold cnt; rw [if_pos F.ct]
  have n1 := bankNew_ok (fun _ => none) 0 hb0 rfl
  have hq1 : ∀ r ∈ wrL (· + ·) f t xs ys xs.length, QB r 8 := wrL_QB hxq hyq (by decide) (by decide) _
  have d1 := writeAdd_ok (upd (fun _ => none) (.obj 0) (some (bankO 0))) 1 0 0 x f t xs ys (bank_hb hb0) (upd_same _ _ _) (by decide) hfit hx hy
    (fun r hr => (hxq r hr).mono (by decide)) (fun r hr => (hyq r hr).mono (by decide)) (fun r hr => ⟨(hq1 r hr).mono (by decide), (hq1 r hr).bits⟩)
  rw [obj_up] at d1
  have hwl := wrL_length (· + ·) f t xs ys xs.length
  have hback := wrL_back f t xs ys
  obtain ⟨l, hl⟩ : ∃ l, wrL (· + ·) f t xs ys xs.length = l := ⟨_, rfl⟩
  rw [hl] at d1 hq1 hwl hback
  obtain ⟨k1, hk1⟩ : ∃ k1, 0 + xs.length = k1 := ⟨_, rfl⟩
  rw [hk1] at d1
  have n2 := bankNew_ok (upd (fun _ => none) (.obj 0) (some (bankO k1))) 1 (bank_hb hb0) rfl
  rw [← hwl] at hback
  have d2 := writeSub_ok (upd (upd (fun _ => none) (.obj 0) (some (bankO k1))) (.obj 1) (some (bankO 0))) 2 1 0 x f t l ys (bank_hb (bank_hb hb0)) (upd_same _ _ _) (by decide) hfit (by rw [hwl]; exact hx) hy
    (fun r hr => (hq1 r hr).mono (by decide)) (fun r hr => (hyq r hr).mono (by decide)) (fun r hr => by
      rw [hback] at hr
      exact ⟨(hxq r hr).mono (by decide), Nat.le_trans (hxq r hr).bits (by decide)⟩)
  rw [obj_up, hback] at d2
  obtain ⟨k2, hk2⟩ : ∃ k2, 0 + l.length = k2 := ⟨_, rfl⟩
  rw [hk2] at d2
  have ca := rAllR_ok xs xs (by omega) (by omega) (fun r hr => (hxq r hr).mono (by decide)) (fun r hr => (hxq r hr).mono (by decide))
  rw [decide_eq_true rfl] at ca
  clear hback hl hq1
  obtain ⟨a1, a2, a3, a4, a5, a6, a7, a8, ak, al⟩ := x
  simp only [argT, sI, sV, Atr.T, I] at cr ct cf d1 d2 ca
  unfold wbT
  refine Pure.drop (h' := upd (upd (fun _ => none) (.obj 0) (some (bankO k1))) (.obj 1) (some (bankO k2))) (m' := 2) ?_ rfl
  refine Ret.intro Tryz.func6 rfl (rt := [2]) rfl (by simp [Tryz.ntmps6]) (by decide) (sites := fun _ => false) (bank_hb (bank_hb hb0)) (Keeps.none _) ?_
  rw [sS_scR, sS_scR]
  apply run_sound 200
  simp -implicitDefEqProofs +decide only [go_sem, sI, sV]
  refine CallG.pure _ Tryz.call15 (cr) (by simp only [List.all_cons, List.all_nil, noPtr, noPtrL, noPtr_sW, noPtr_sI, noPtr_sV, noPtrL_U, noPtrL_I, noPtrL_vT, I, List.map_cons, List.map_nil, Bool.and_true, Bool.and_self]) (by first | rfl | (simp only [go_sem]; done) | (simp only [go_sem]; rfl)) ?_
  apply run_sound 200
  simp -implicitDefEqProofs +decide only [go_sem]
  refine CallG.pure _ Tryz.call22 (ct) (by simp only [List.all_cons, List.all_nil, noPtr, noPtrL, noPtr_sW, noPtr_sI, noPtr_sV, noPtrL_U, noPtrL_I, noPtrL_vT, I, List.map_cons, List.map_nil, Bool.and_true, Bool.and_self]) (by first | rfl | (simp only [go_sem]; done) | (simp only [go_sem]; rfl)) ?_
  apply run_sound 200
  simp -implicitDefEqProofs +decide only [go_sem]
  refine CallG.pure _ Tryz.call22 (cf) (by simp only [List.all_cons, List.all_nil, noPtr, noPtrL, noPtr_sW, noPtr_sI, noPtr_sV, noPtrL_U, noPtrL_I, noPtrL_vT, I, List.map_cons, List.map_nil, Bool.and_true, Bool.and_self]) (by first | rfl | (simp only [go_sem]; done) | (simp only [go_sem]; rfl)) ?_
  apply run_sound 200
  simp -implicitDefEqProofs +decide only [go_sem]
  refine Goes.drawP mixed (Calm.of (by repeat first | exact Clean.und | refine Clean.upd ?_ rfl | refine Clean.upd ?_ (by simp only [cleanA, cleanL, ])) (by repeat first | exact HCalm.none | exact HCalm.hb hb | exact HCalm.hb (bank_hb hb) | refine HCalm.row ?_ | refine HCalm.box ?_ (by first | rfl | (simp only [cleanA, cleanL, ]; done) | assumption))) ?_
  simp -implicitDefEqProofs +decide only [go_sem]
  refine CallD.make _ [(.obj 0, bankO 0)] 1 Tryz.call18 n1 rfl hb0 (fun l hp => by cases l <;> first | rfl | cases hp) (fun _ _ => rfl) rfl (.inl (by simp)) ?_
  simp -implicitDefEqProofs +decide only [go_sem]
  refine CallD.make _ [(.obj 0, bankO k1)] 0 Tryz.call24 d1 rfl (bank_hb hb0) (by rintro (_ | _ | _ | _ | _) hp <;> first | (cases hp; done) | simp -implicitDefEqProofs +decide only [go_sem]) (fun l _ => (congrFun (obj_up _ 0 0 k1) l).symm) rfl (.inr rfl) ?_
  simp -implicitDefEqProofs +decide only [go_sem]
  refine ⟨.mk (by kernel_rfl), ?_⟩
  apply run_sound 200
  simp -implicitDefEqProofs +decide only [go_sem]
  refine Goes.drawP mixed (Calm.of (by repeat first | exact Clean.und | refine Clean.upd ?_ rfl | refine Clean.upd ?_ (by simp only [cleanA, cleanL, ])) (by repeat first | exact HCalm.none | exact HCalm.hb hb | exact HCalm.hb (bank_hb hb) | refine HCalm.row ?_ | refine HCalm.box ?_ (by first | rfl | (simp only [cleanA, cleanL, ]; done) | assumption))) ?_
  simp -implicitDefEqProofs +decide only [go_sem]
  refine CallD.make _ [(.obj 1, bankO 0)] 1 Tryz.call18 n2 rfl (bank_hb hb0) (by rintro (_ | _ | _ | _ | _) hp <;> first | (cases hp; done) | simp -implicitDefEqProofs +decide only [go_sem]) (fun _ _ => rfl) rfl (.inl (by simp)) ?_
  simp -implicitDefEqProofs +decide only [go_sem]
  refine CallD.make _ [(.obj 1, bankO k2)] 0 Tryz.call24 d2 rfl (bank_hb (bank_hb hb0)) (by rintro (_ | _ | _ | _ | _) hp <;> first | (cases hp; done) | simp -implicitDefEqProofs +decide only [go_sem]) (fun l _ => (congrFun (obj_up _ 1 0 k2) l).symm) rfl (.inr rfl) ?_
  simp -implicitDefEqProofs +decide only [go_sem]
  refine ⟨.mk (by kernel_rfl), ?_⟩
  apply run_sound 200
  simp -implicitDefEqProofs +decide only [go_sem]
  refine CallG.pure _ Tryz.call20 (ca) (by simp only [List.all_cons, List.all_nil, noPtr, noPtrL, noPtr_sW, noPtr_sI, noPtr_sV, noPtrL_U, noPtrL_I, noPtrL_vT, I, List.map_cons, List.map_nil, Bool.and_true, Bool.and_self]) (by first | rfl | (simp only [go_sem]; done) | (simp only [go_sem]; rfl)) ?_
  apply run_sound 200
  simp -implicitDefEqProofs +decide only [go_sem]
  refine CallG.pure _ Tryz.call23 (cs) (by first | rfl | (simp only [go_sem]; done) | (simp only [go_sem]; rfl)) (by first | rfl | (simp only [go_sem]; done) | (simp only [go_sem]; rfl)) ?_
  apply run_sound 200
  simp -implicitDefEqProofs +decide only [go_sem]
  exact endF.vals [(2, .bool true)] (.inr rfl) (vals_t (by first | rfl | (simp -implicitDefEqProofs +decide only [go_sem]; done) | (simp -implicitDefEqProofs +decide only [go_sem]; rfl)) rfl vals_nil) (by rintro (_ | _ | _ | _ | _) hp <;> first | (cases hp; done) | simp -implicitDefEqProofs +decide only [go_sem]) rfl

theorem writeBack_ok (op : Int) (x : Atr) (t f : Ag) (ht : ∀ s ∈ t.v, WOK s.x.p ∧ WOK s.x.q) (hf : ∀ s ∈ f.v, WOK s.x.p ∧ WOK s.x.q) : Pure Tryz.prog 6 [wbT op x t f] [.t (.bool true)] := by
  have hw : ∀ a ∈ [t, f], ∀ s ∈ a.v, WOK s.x.p ∧ WOK s.x.q := by
    intro a ha
    simp only [List.mem_cons, List.not_mem_nil, or_false] at ha
    rcases ha with rfl | rfl
    · exact ht
    · exact hf
  have cr := argsRight_ok [t, f] (by simp) (argsSOK hw)
  obtain ⟨b, hb⟩ : ∃ b, (!argsB [t, f] && [t, f].all fun a => a.v.all rightB) = b := ⟨_, rfl⟩
  rw [hb] at cr
  simp only [sA, List.map_cons, List.map_nil] at cr
  cases b with
  | false => exact writeBack_r op x t f cr
  | true =>
    rw [Bool.and_eq_true] at hb
    obtain ⟨hb1, hb2⟩ := hb
    have hb1 : argsB [t, f] = false := by simpa using hb1
    obtain ⟨_, hsh⟩ := short_of hb1
    obtain ⟨t1, t2, t3⟩ := hsh t (by simp)
    obtain ⟨f1, f2, f3⟩ := hsh f (by simp)
    simp only [List.all_cons, List.all_nil, Bool.and_true, Bool.and_eq_true] at hb2
    have ct := wide_ok t.v 4 (by decide) (by omega)
    have cf := wide_ok f.v 3 (by decide) (by omega)
    obtain ⟨b4, h4⟩ : ∃ b, wideB 4 t.v = b := ⟨_, rfl⟩
    obtain ⟨b3, h3⟩ : ∃ b, wideB 3 f.v = b := ⟨_, rfl⟩
    rw [h4] at ct
    rw [h3] at cf
    have ct : Pure Tryz.prog 22 [sS t.v, .int .i64 4] [.t (.bool b4)] := ct
    have cf : Pure Tryz.prog 22 [sS f.v, .int .i64 3] [.t (.bool b3)] := cf
    cases b4 with
    | true => exact writeBack_t op x t f cr ct
    | false =>
    cases b3 with
    | true => exact writeBack_f op x t f cr ct cf
    | false =>
    by_cases he : wchk t f = 0
    · obtain ⟨xs, hxs⟩ := right_list ht hb2.1
      obtain ⟨ys, hys⟩ := right_list hf hb2.2
      obtain ⟨td, tv⟩ := t
      obtain ⟨fd, fv⟩ := f
      dsimp only at *
      subst hxs hys
      rw [Ag_scR, Ag_scR] at cr
      rw [sS_scR] at ct cf
      unfold wchk at he
      dsimp only at he
      split at he <;> try contradiction
      split at he <;> try contradiction
      split at he <;> try contradiction
      split at he <;> try contradiction
      split at he <;> try contradiction
      rename_i g1 g2 g3 g4 g5
      exact writeBack_yes op x td fd xs ys cr ct cf (Classical.not_not.1 g5) (by rw [← Classical.not_not.1 g2, List.length_map]) (by rw [← Classical.not_not.1 g4, List.length_map]) (wide_QB h4) (wide_QB h3)
    · exact writeBack_no op x t f cr ct cf (by omega) (by omega) he
end Go.Fm
/- Writes read as data. -/
namespace Go.Fm
open Go.Proofs
set_option maxRecDepth 100000
attribute [local irreducible] tiOf

theorem dat_i {n : Nat} {a : T} (h : Typed Tryz.prog (n + 1) 3 [a]) : ∃ z : Int, a = .int .i64 z := by
  obtain ⟨z, _, hz⟩ := Dat.int Tryz.underlying3 (dat1 (n := n + 1) (t := 3) (a := a) (by simp [mkT, Tryz.underlying3]) h)
  exact ⟨z, hz⟩
theorem dat_attr {n : Nat} {a0 a1 a2 a3 a4 a5 a6 a7 a8 a9 : T} (h : Typed Tryz.prog (n + 3) 50 [a0, a1, a2, a3, a4, a5, a6, a7, a8, a9]) : ∃ x : Atr, a0 = .int .i64 x.n ∧ a1 = .int .i64 x.a ∧ a2 = .int .i64 x.b ∧ a3 = .int .i64 x.c ∧ a4 = .int .i64 x.p ∧ a5 = .int .i64 x.q ∧ a6 = .int .i64 x.r ∧ a7 = .int .i64 x.s ∧ a8 = .bool x.keep ∧ a9 = sI x.list := by
  simp only [Typed, Tryz.underlying50] at h
  obtain ⟨_, hf⟩ := h
  simp only [List.forall_mem_cons] at hf
  obtain ⟨h0, h1, h2, h3, h4, h5, h6, h7, h8, h9, _⟩ := hf
  have c1 : (Tryz.prog).cellsOf 3 = 1 := by kernel_rfl
  have c2 : (Tryz.prog).cellsOf 4 = 1 := by kernel_rfl
  have c3 : (Tryz.prog).cellsOf 22 = 1 := by kernel_rfl
  rw [c1] at h0 h1 h2 h3 h4 h5 h6 h7
  rw [c2] at h8
  rw [c3] at h9
  obtain ⟨z0, e0⟩ := dat_i (n := n + 1) (a := a0) h0
  obtain ⟨z1, e1⟩ := dat_i (n := n + 1) (a := a1) h1
  obtain ⟨z2, e2⟩ := dat_i (n := n + 1) (a := a2) h2
  obtain ⟨z3, e3⟩ := dat_i (n := n + 1) (a := a3) h3
  obtain ⟨z4, e4⟩ := dat_i (n := n + 1) (a := a4) h4
  obtain ⟨z5, e5⟩ := dat_i (n := n + 1) (a := a5) h5
  obtain ⟨z6, e6⟩ := dat_i (n := n + 1) (a := a6) h6
  obtain ⟨z7, e7⟩ := dat_i (n := n + 1) (a := a7) h7
  obtain ⟨k, e8⟩ := Dat.bool Tryz.underlying4 (dat1 (n := n + 2) (t := 4) (a := a8) (by simp [mkT, Tryz.underlying4]) h8)
  obtain ⟨l, _, e9⟩ := dat_ints (dat1 (n := n + 2) (t := 22) (a := a9) (by simp [mkT, Tryz.underlying22]) h9)
  exact ⟨⟨z0, z1, z2, z3, z4, z5, z6, z7, k, l⟩, e0, e1, e2, e3, e4, e5, e6, e7, e8, e9⟩
theorem dat_write {n : Nat} {x : T} (h : Dat Tryz.prog (n + 7) 52 x) : ∃ (op : Int) (a : Atr) (t f : Ag), ((∀ s ∈ t.v, ScW s ∧ s.b < 18446744073709551616) ∧ ∀ s ∈ f.v, ScW s ∧ s.b < 18446744073709551616) ∧ x = wbT op a t f := by
  obtain ⟨ts, h, rfl⟩ := h
  simp only [Typed, Tryz.underlying52] at h
  obtain ⟨hl, hf⟩ := h
  rw [show (Tryz.prog).cellsOf 52 = 15 by kernel_rfl] at hl
  match ts, hl with
  | [b0, a0, a1, a2, a3, a4, a5, a6, a7, a8, a9, t1, t2, f1, f2], _ =>
    have h0 := hf _ (.head _)
    have h1 := hf _ (.tail _ (.head _))
    have h2 := hf _ (.tail _ (.tail _ (.head _)))
    have h3 := hf _ (.tail _ (.tail _ (.tail _ (.head _))))
    clear hf
    dsimp only at h0 h1 h2 h3
    rw [show (Tryz.prog).cellsOf 3 = 1 by kernel_rfl] at h0
    rw [show (Tryz.prog).cellsOf 50 = 10 by kernel_rfl] at h1
    rw [show (Tryz.prog).cellsOf 38 = 2 by kernel_rfl] at h2 h3
    obtain ⟨op, rfl⟩ := dat_i (n := n + 5) (a := b0) h0
    obtain ⟨a, e0, e1, e2, e3, e4, e5, e6, e7, e8, e9⟩ := dat_attr (n := n + 3) (a0 := a0) (a1 := a1) (a2 := a2) (a3 := a3) (a4 := a4) (a5 := a5) (a6 := a6) (a7 := a7) (a8 := a8) (a9 := a9) h1
    obtain ⟨t, ht, et1, et2⟩ := dat_argL (n := n) (a := t1) (b := t2) h2
    obtain ⟨f, hf, ef1, ef2⟩ := dat_argL (n := n) (a := f1) (b := f2) h3
    refine ⟨op, a, t, f, ⟨ht, hf⟩, ?_⟩
    rw [e0, e1, e2, e3, e4, e5, e6, e7, e8, e9, et1, et2, ef1, ef2]
    simp only [mkT, Tryz.underlying52, wbT]
end Go.Fm
