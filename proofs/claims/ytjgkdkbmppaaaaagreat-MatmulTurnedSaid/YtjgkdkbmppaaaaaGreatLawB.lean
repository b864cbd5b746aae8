/- Operands: whether they are short, and right. -/
import Derived.Test.YtjgkdkbmppaaaaaGreatLawA
import Derived.Test.YtjgkdkbmppaaaaaGreatMulA
import Derived.Test.YtjgkdkbmppaaaaaGreatRefA
import Derived.Test.YtjgkdkbmppaaaaaGreatFmC
set_option linter.unusedVariables false
set_option linter.unusedSimpArgs false
namespace Go.Fm
open Go.Proofs
set_option maxRecDepth 100000
attribute [local irreducible] tiOf

def longB (k : Nat) (x : Rt) : Bool := decide (k < x.p.length) || decide (k < x.q.length)
theorem plong_ok (x : Rt) (k : Nat) (hk : k < 1000000000) : Pure Tryz.prog 51 [x.T, .int .i64 k] [.t (.bool (longB k x))] := by
  obtain ⟨n, p, q⟩ := x
  have h1 : decide ((p.length : Int) > (k : Int)) = decide (k < p.length) := decide_eq_decide.2 (by omega)
  have h2 : decide ((q.length : Int) > (k : Int)) = decide (k < q.length) := decide_eq_decide.2 (by omega)
  refine Pure.intro Tryz.func51 rfl (rt := [4]) rfl (by simp [Tryz.ntmps51]) (by decide) (sites := fun _ => false) ?_
  apply run_sound 200
  simp -implicitDefEqProofs +decide only [go_sem, Rt.T, rT, sW, h1, h2]
  refine selP_dec (fun h => ?_) (fun h => ?_)
  · have e : longB k ⟨n, p, q⟩ = true := by unfold longB; rw [decide_eq_true h]; rfl
    rw [e]
    simp -implicitDefEqProofs +decide only [go_sem]
    exact endF.vals [(4, .bool true)] (.inr rfl) (vals_t (by simp -implicitDefEqProofs +decide only [go_sem] <;> rfl) rfl vals_nil) (fun l hp => by cases l <;> first | rfl | cases hp) rfl
  · have e : longB k ⟨n, p, q⟩ = decide (k < q.length) := by unfold longB; rw [decide_eq_false h]; rfl
    rw [e]
    simp -implicitDefEqProofs +decide only [go_sem, h2]
    exact endF.vals [(4, .bool (decide (k < q.length)))] (.inr rfl) (vals_t (by simp -implicitDefEqProofs +decide only [go_sem] <;> rfl) rfl vals_nil) (fun l hp => by cases l <;> first | rfl | cases hp) rfl

def wideB (k : Nat) (l : List Sc) : Bool := l.any fun s => longB k s.x
theorem any_take {α : Type} {f : α → Bool} {l : List α} {i : Nat} {x : α} (hx : l[i]? = some x) (h : (l.take i).any f = false) (hf : f x = false) : (l.take (i + 1)).any f = false := by
  rw [List.take_add_one, hx, List.any_append, h]; simp [hf]
theorem any_mem {α : Type} {f : α → Bool} {l : List α} {i : Nat} {x : α} (hx : l[i]? = some x) (hf : f x = true) : l.any f = true := List.any_eq_true.2 ⟨x, List.mem_of_getElem? hx, hf⟩
theorem any_done {α : Type} {f : α → Bool} {l : List α} {i : Nat} (h : (l.take i).any f = false) (hi : l.length ≤ i) : l.any f = false := by rw [← List.take_of_length_le (l := l) (i := i) hi]; exact h
theorem all_take {α : Type} {f : α → Bool} {l : List α} {i : Nat} {x : α} (hx : l[i]? = some x) (h : (l.take i).all f = true) (hf : f x = true) : (l.take (i + 1)).all f = true := by
  rw [List.take_add_one, hx, List.all_append, h]; simp [hf]
theorem all_mem {α : Type} {f : α → Bool} {l : List α} {i : Nat} {x : α} (hx : l[i]? = some x) (hf : f x = false) : l.all f = false := by
  cases h : l.all f with
  | false => rfl
  | true => rw [List.all_eq_true.1 h x (List.mem_of_getElem? hx)] at hf; cases hf
theorem all_done {α : Type} {f : α → Bool} {l : List α} {i : Nat} (h : (l.take i).all f = true) (hi : l.length ≤ i) : l.all f = true := by rw [← List.take_of_length_le (l := l) (i := i) hi]; exact h

theorem wide_ok (l : List Sc) (k : Nat) (hk : k < 1000000000) (hl : l.length < 1000000000) : Pure Tryz.prog 22 [sS l, .int .i64 k] [.t (.bool (wideB k l))] := by
  refine Pure.intro Tryz.func22 rfl (rt := [4]) rfl (by simp [Tryz.ntmps22]) (by decide) (sites := fun _ => false) ?_
  apply run_sound 200
  simp -implicitDefEqProofs +decide only [go_sem, sS, List.length_map]
  refine Goes.loop (X := Nat) (fun i => ⟨ofL [(0, .t (sS l)), (1, .t (.int .i64 k)), (7, .t (.int .i64 l.length)), (8, .t (.int .i64 i))], fun _ => none, 0⟩) (fun i => i ≤ l.length ∧ (l.take i).any (fun s => longB k s.x) = false) (fun i => l.length - i) 0 (Wk.slots _ rfl rfl (by simp -implicitDefEqProofs +decide only [go_sem, sS]) (by simp -implicitDefEqProofs +decide only [go_sem, sS])) (by simp) ?_
  rintro i ⟨hi, he⟩ J hJ
  apply run_sound 200
  simp -implicitDefEqProofs +decide only [go_sem, sS]
  refine selP_dec (fun hc => ?_) (fun hc => ?_)
  · obtain ⟨s, hs⟩ := getI (show i < l.length by omega)
    have c := plong_ok s.x k hk
    obtain ⟨b, hb⟩ : ∃ b, longB k s.x = b := ⟨_, rfl⟩
    have hw := wS (show i < 1000000000000 by omega)
    simp only [Rt.T, rT] at c
    rw [hb] at c
    simp -implicitDefEqProofs +decide only [go_sem, hs, Sc.T, sW]
    simp only [sW] at c
    refine CallG.pure _ Tryz.call51 (c) (by first | rfl | (simp only [go_sem]; done) | (simp only [go_sem]; rfl)) (by first | rfl | (simp only [go_sem]; done) | (simp only [go_sem]; rfl)) ?_
    apply run_sound 200
    simp -implicitDefEqProofs +decide only [go_sem]
    cases b
    · simp -implicitDefEqProofs +decide only [go_sem, hw]
      refine hJ (i + 1) _ ⟨by omega, any_take hs he hb⟩ (by omega) (Wk.slots _ rfl rfl (by simp -implicitDefEqProofs +decide only [go_sem, sS, hw]) (by simp -implicitDefEqProofs +decide only [go_sem, sS, hw]))
    · have e : wideB k l = true := any_mem hs hb
      rw [e]
      simp -implicitDefEqProofs +decide only [go_sem]
      exact endF.vals [(4, .bool true)] (.inr rfl) (vals_t (by simp -implicitDefEqProofs +decide only [go_sem] <;> rfl) rfl vals_nil) (fun l hp => by cases l <;> first | rfl | cases hp) rfl
  · have e : wideB k l = false := any_done he (by omega)
    rw [e]
    simp -implicitDefEqProofs +decide only [go_sem]
    exact endF.vals [(4, .bool false)] (.inr rfl) (vals_t (by simp -implicitDefEqProofs +decide only [go_sem] <;> rfl) rfl vals_nil) (fun l hp => by cases l <;> first | rfl | cases hp) rfl

/-- An operand. -/
structure Ag where
  d : List Int
  v : List Sc
def Ag.T (a : Ag) : T := .agg [sI a.d, sS a.v]
theorem noPtr_Ag (a : Ag) : noPtr a.T = true := by
  simp only [Ag.T, noPtr, noPtrL, Bool.and_true, noPtr_sI, noPtr_sS]
def sA (l : List Ag) : T := .slice (l.map Ag.T)
theorem noPtr_sA (l : List Ag) : noPtr (sA l) = true := by
  have : ∀ l : List Ag, noPtrL (l.map Ag.T) = true := fun l => by
    induction l with
    | nil => rfl
    | cons x r ih => rw [List.map_cons, noPtrL, ih, noPtr_Ag]; rfl
  unfold sA; rw [noPtr, this]
theorem noPtr_sAU (l : List Ag) : noPtr (.slice (l.map Ag.T)) = true := noPtr_sA l
attribute [go_sem] noPtr_Ag noPtr_sA noPtr_sAU
def agB (a : Ag) : Bool := decide (20 < a.d.length) || decide (100 < a.v.length) || wideB 9 a.v
def argsB (l : List Ag) : Bool := l.any agB || decide (6 < l.length)
theorem args_ok (l : List Ag) (hl : l.length < 9000000000000000000) : Pure Tryz.prog 43 [sA l] [.t (.bool (argsB l))] := by
  refine Pure.intro Tryz.func43 rfl (rt := [2]) rfl (by simp [Tryz.ntmps43]) (by decide) (sites := fun _ => false) ?_
  apply run_sound 200
  simp -implicitDefEqProofs +decide only [go_sem, sA, List.length_map]
  refine Goes.loop (X := Nat) (fun i => ⟨ofL [(0, .t (sA l)), (5, .t (.int .i64 l.length)), (6, .t (.int .i64 i))], fun _ => none, 0⟩) (fun i => i ≤ l.length ∧ (l.take i).any agB = false) (fun i => l.length - i) 0 (Wk.slots _ rfl rfl (by simp -implicitDefEqProofs +decide only [go_sem, sA]) (by simp -implicitDefEqProofs +decide only [go_sem, sA])) (by simp) ?_
  rintro i ⟨hi, he⟩ J hJ
  apply run_sound 200
  simp -implicitDefEqProofs +decide only [go_sem, sA]
  refine selP_dec (fun hc => ?_) (fun hc => ?_)
  · obtain ⟨a, ha⟩ := getI (show i < l.length by omega)
    have hw : IntKind.wrap .i64 ((i : Int) + 1) = ((i + 1 : Nat) : Int) := by rw [w64] <;> omega
    have h1 : decide ((a.d.length : Int) > 20) = decide (20 < a.d.length) := decide_eq_decide.2 (by omega)
    have h2 : decide ((a.v.length : Int) > 100) = decide (100 < a.v.length) := decide_eq_decide.2 (by omega)
    have hend : ∀ (h : agB a = true), argsB l = true := fun h => by unfold argsB; rw [any_mem ha h]; rfl
    simp -implicitDefEqProofs +decide only [go_sem, ha, Ag.T, sI, sS, List.length_map, h1, h2]
    refine selP_dec (fun k1 => ?_) (fun k1 => ?_)
    · rw [hend (by unfold agB; rw [decide_eq_true k1]; rfl)]
      simp -implicitDefEqProofs +decide only [go_sem]
      exact endF.vals [(2, .bool true)] (.inr rfl) (vals_t (by simp -implicitDefEqProofs +decide only [go_sem] <;> rfl) rfl vals_nil) (fun l hp => by cases l <;> first | rfl | cases hp) rfl
    · simp -implicitDefEqProofs +decide only [go_sem, ha, Ag.T, sI, sS, List.length_map, h1, h2]
      refine selP_dec (fun k2 => ?_) (fun k2 => ?_)
      · rw [hend (by unfold agB; rw [decide_eq_true k2]; simp)]
        simp -implicitDefEqProofs +decide only [go_sem]
        exact endF.vals [(2, .bool true)] (.inr rfl) (vals_t (by simp -implicitDefEqProofs +decide only [go_sem] <;> rfl) rfl vals_nil) (fun l hp => by cases l <;> first | rfl | cases hp) rfl
      · have c := wide_ok a.v 9 (by decide) (by omega)
        obtain ⟨b, hb⟩ : ∃ b, wideB 9 a.v = b := ⟨_, rfl⟩
        rw [hb] at c
        have c : Pure Tryz.prog 22 [sS a.v, .int .i64 9] [.t (.bool b)] := c
        simp only [sS] at c
        simp -implicitDefEqProofs +decide only [go_sem, ha, Ag.T, sI, sS]
        refine CallG.pure _ Tryz.call22 (c) (by first | rfl | (simp only [go_sem]; done) | (simp only [go_sem]; rfl)) (by first | rfl | (simp only [go_sem]; done) | (simp only [go_sem]; rfl)) ?_
        apply run_sound 200
        simp -implicitDefEqProofs +decide only [go_sem]
        cases b
        · simp -implicitDefEqProofs +decide only [go_sem, hw]
          refine hJ (i + 1) _ ⟨by omega, any_take ha he (by unfold agB; rw [decide_eq_false k1, decide_eq_false k2, hb]; rfl)⟩ (by omega) (Wk.slots _ rfl rfl (by simp -implicitDefEqProofs +decide only [go_sem, sA, hw]) (by simp -implicitDefEqProofs +decide only [go_sem, sA, hw]))
        · rw [hend (by unfold agB; rw [hb]; simp)]
          simp -implicitDefEqProofs +decide only [go_sem]
          exact endF.vals [(2, .bool true)] (.inr rfl) (vals_t (by simp -implicitDefEqProofs +decide only [go_sem] <;> rfl) rfl vals_nil) (fun l hp => by cases l <;> first | rfl | cases hp) rfl
  · have e : argsB l = decide (6 < l.length) := by unfold argsB; rw [any_done he (by omega)]; rfl
    have h1 : decide ((l.length : Int) > 6) = decide (6 < l.length) := decide_eq_decide.2 (by omega)
    rw [e]
    simp -implicitDefEqProofs +decide only [go_sem, h1]
    exact endF.vals [(2, .bool (decide (6 < l.length)))] (.inr rfl) (vals_t (by simp -implicitDefEqProofs +decide only [go_sem] <;> rfl) rfl vals_nil) (fun l hp => by cases l <;> first | rfl | cases hp) rfl
end Go.Fm
/- How often 2 divides the denominators of sums and products. -/
namespace Go.Fm
open Go.Proofs
set_option maxRecDepth 100000

theorem tz_mono {a b : Nat} (h : a ∣ b) (hb : b ≠ 0) : tz a ≤ tz b := by
  obtain ⟨c, rfl⟩ := h
  have ha : a ≠ 0 := fun e => hb (by rw [e, Nat.zero_mul])
  have hc : c ≠ 0 := fun e => hb (by rw [e, Nat.mul_zero])
  rw [tz_mul ha hc]; omega
theorem tz_div {a b g : Nat} (h : a * g = b) (hb : b ≠ 0) : tz a + tz g = tz b := by
  subst h
  exact (tz_mul (fun e => hb (by rw [e, Nat.zero_mul])) (fun e => hb (by rw [e, Nat.mul_zero]))).symm
theorem tz_gcd {a b : Nat} (ha : a ≠ 0) (hb : b ≠ 0) : min (tz a) (tz b) ≤ tz (Nat.gcd a b) := by
  obtain ⟨x, _, x2, _⟩ := tz_spec a ha
  obtain ⟨y, _, y2, _⟩ := tz_spec b hb
  have hd : 2 ^ min (tz a) (tz b) ∣ Nat.gcd a b := Nat.dvd_gcd
    (Nat.dvd_trans (Nat.pow_dvd_pow 2 (Nat.min_le_left _ _)) ⟨x, x2⟩) (Nat.dvd_trans (Nat.pow_dvd_pow 2 (Nat.min_le_right _ _)) ⟨y, y2⟩)
  have hg : Nat.gcd a b ≠ 0 := Nat.gcd_ne_zero_left ha
  have := tz_mono hd hg
  have key : ∀ k, tz (2 ^ k) = k := fun k => by
    induction k with
    | zero => exact tz_odd rfl
    | succ k ih =>
      have hp := Nat.pow_pos (n := k) (show 0 < 2 by decide)
      rw [Nat.pow_succ, tz_even (by omega) (by omega), Nat.mul_div_cancel _ (by decide), ih]
  rw [key] at this
  exact this
theorem ZB_mul {r s : Rat} {a b : Nat} (hr : ZB r a) (hs : ZB s b) : ZB (r * s) (a + b) := by
  unfold ZB at *
  have h : (r * s).den ∣ r.den * s.den := by rw [Rat.den_mul]; exact Nat.div_dvd_of_dvd (Nat.gcd_dvd_right _ _)
  have := tz_mono h (Nat.mul_ne_zero r.den_nz s.den_nz)
  rw [tz_mul r.den_nz s.den_nz] at this
  omega
theorem ZB_add {r s : Rat} {a : Nat} (hr : ZB r a) (hs : ZB s a) : ZB (r + s) a := by
  unfold ZB at *
  have hl : (r + s).den ∣ Nat.lcm r.den s.den := by
    rw [Rat.den_add]
    obtain ⟨N, hN⟩ : ∃ N, r.num * (s.den : Int) + s.num * (r.den : Int) = N := ⟨_, rfl⟩
    rw [hN]
    have hgN : ((Nat.gcd r.den s.den : Nat) : Int) ∣ N := by
      rw [← hN]
      exact Int.dvd_add (Int.dvd_mul_of_dvd_right (Int.ofNat_dvd.2 (Nat.gcd_dvd_right _ _))) (Int.dvd_mul_of_dvd_right (Int.ofNat_dvd.2 (Nat.gcd_dvd_left _ _)))
    obtain ⟨k, hk⟩ : Nat.gcd r.den s.den ∣ Nat.gcd N.natAbs (r.den * s.den) := Nat.dvd_gcd (Int.ofNat_dvd_left.1 hgN) (Nat.dvd_trans (Nat.gcd_dvd_left _ _) (Nat.dvd_mul_right _ _))
    obtain ⟨m, hm⟩ := Nat.gcd_dvd_right N.natAbs (r.den * s.den)
    have hne : r.den * s.den ≠ 0 := Nat.mul_ne_zero r.den_nz s.den_nz
    have hG : 0 < Nat.gcd N.natAbs (r.den * s.den) := Nat.gcd_pos_of_pos_right _ (Nat.pos_of_ne_zero hne)
    have hg : 0 < Nat.gcd r.den s.den := Nat.gcd_pos_of_pos_left _ (Nat.pos_of_ne_zero r.den_nz)
    have e1 : r.den * s.den / Nat.gcd N.natAbs (r.den * s.den) = m := by
      conv => lhs; lhs; rw [hm]
      exact Nat.mul_div_cancel_left _ hG
    rw [e1]
    refine ⟨k, ?_⟩
    have e2 : Nat.gcd r.den s.den * Nat.lcm r.den s.den = Nat.gcd r.den s.den * (m * k) := by
      rw [Nat.gcd_mul_lcm]
      conv => lhs; rw [hm]
      rw [hk, Nat.mul_assoc, Nat.mul_comm k m]
    exact Nat.eq_of_mul_eq_mul_left hg e2
  have hne := Nat.lcm_ne_zero r.den_nz s.den_nz
  have h1 := tz_mono hl hne
  have h2 := tz_div (Nat.lcm_mul_gcd r.den s.den) (Nat.mul_ne_zero r.den_nz s.den_nz)
  rw [tz_mul r.den_nz s.den_nz] at h2
  have h3 := tz_gcd r.den_nz s.den_nz
  omega
theorem ZB_neg {r : Rat} {a : Nat} (h : ZB r a) : ZB (-r) a := h
theorem ZB_of {r : Rat} {k : Nat} (h : QB r k) : ZB r (64 * k) := by
  unfold ZB
  have h1 := nv_words_lt r.den
  have := tz_le (k := 64 * k) r.den_nz (by rw [Nat.pow_mul]; exact Nat.lt_of_lt_of_le h1 (Nat.pow_le_pow_right (by decide) h.d))
  omega
theorem ZB.mono {r : Rat} {a b : Nat} (h : ZB r a) (hab : a ≤ b) : ZB r b := Nat.le_trans h hab
end Go.Fm
/- What the laws on products use besides: turned, added, whole. -/
namespace Go.Fm
open Go.Proofs
set_option maxRecDepth 100000
attribute [local irreducible] tiOf

theorem addL_snoc {ys zs : List Rat} {i : Nat} {y z : Rat} (hy : ys[i]? = some y) (hz : zs[i]? = some z) : (addL (ys.take i) (zs.take i)) ++ [y + z] = addL (ys.take (i + 1)) (zs.take (i + 1)) := by
  have h1 := (List.getElem?_eq_some_iff.1 hy).1
  have h2 := (List.getElem?_eq_some_iff.1 hz).1
  unfold addL
  rw [List.take_add_one, List.take_add_one, hy, hz, Option.toList_some, Option.toList_some, List.zipWith_append (by simp; omega)]; rfl
theorem added_ok (ys zs : List Rat) (hl : zs.length = ys.length) (hlb : ys.length < 1000000000) (hy : ∀ r ∈ ys, QB r 40000 ∧ ZB r 30000) (hz : ∀ r ∈ zs, QB r 40000 ∧ ZB r 30000) : Pure Tryz.prog 21 [sV ys, sV zs] [.t (sV (addL ys zs))] := by
  refine Pure.intro Tryz.func21 rfl (rt := [4]) rfl (by simp [Tryz.ntmps21]) (by decide) (sites := fun _ => false) ?_
  apply run_sound 200
  simp -implicitDefEqProofs +decide only [go_sem, sV, List.length_map]
  refine Goes.wk (Wk.nilRow (d := 5) (lab := .loc 26 0) (size := 5) (by simp -implicitDefEqProofs +decide only [go_sem]) (by simp -implicitDefEqProofs +decide only [go_sem]) rfl (by decide)) ?_
  refine Goes.loop (X := Nat) (fun i => ⟨ofL [(0, .t (sV ys)), (1, .t (sV zs)), (5, .sl (.loc 26 0) i 0 i), (8, .t (.int .i64 ys.length)), (9, .t (.int .i64 i))],
      ofH (fun _ => none) [(.loc 26 0, .arr 5 ((addL (ys.take i) (zs.take i)).map vT) i 0)], 0⟩) (fun i => i ≤ ys.length) (fun i => ys.length - i) 0 ?_ (by omega) ?_
  · exact (Wk.rows _ _ (fun _ _ => rfl) rfl rfl (by simp -implicitDefEqProofs +decide only [go_sem, ofH, tW, sW, sV] <;> first | rfl | exact ⟨rfl, rfl⟩ | skip) (fun l hp => by cases l <;> first | rfl | cases hp) (by simp -implicitDefEqProofs +decide only [go_sem, tI, sI, tW, sW, sV] <;> first | rfl | skip) (by simp -implicitDefEqProofs +decide only [go_sem, tI, sI, tW, sW]))
  rintro i hi J hJ
  apply run_sound 200
  simp -implicitDefEqProofs +decide only [go_sem, sV]
  have hal : (addL (ys.take i) (zs.take i)).length = i := by simp [addL]; omega
  refine selP_dec (fun hc => ?_) (fun hc => ?_)
  · obtain ⟨y, hye⟩ := getI (show i < ys.length by omega)
    obtain ⟨z, hze⟩ := getI (show i < zs.length by omega)
    have hy1 := hy y (List.mem_of_getElem? hye)
    have hz1 := hz z (List.mem_of_getElem? hze)
    have c := rAdd_okQ y z hy1.1 hz1.1 hy1.2 hz1.2
    have hw := wS (show i < 1000000000000 by omega)
    have hib : i + 1 < big := by unfold big; omega
    have hsn := congrArg (List.map vT) (addL_snoc hye hze)
    rw [List.map_append] at hsn
    generalize y + z = t at c hsn
    rw [qT, qT, qT] at c
    have hsn : (addL (ys.take i) (zs.take i)).map vT ++ [.agg [.bool (neg1 t), sW (wordsOf t.num.natAbs), sW (wordsOf t.den), .int .u64 0, .int .i64 0]] = (addL (ys.take (i + 1)) (zs.take (i + 1))).map vT := hsn
    simp -implicitDefEqProofs +decide only [go_sem]
    refine Goes.drawN mixed ?_
    simp -implicitDefEqProofs +decide only [go_sem, hye, hze, vT_eq, Int.toNat_natCast]
    refine CallD.pureS _ Tryz.call50 c (by first | rfl | (simp only [go_sem]; done) | (simp only [go_sem]; rfl)) (by first | rfl | (simp only [go_sem]; done) | (simp only [go_sem]; rfl)) ?_
    simp -implicitDefEqProofs +decide only [go_sem, ofH, hal, hib, hsn]
    refine ⟨.mk (by kernel_rfl), ?_⟩
    apply run_sound 200
    simp -implicitDefEqProofs +decide only [go_sem, hw]
    refine hJ (i + 1) _ (by omega) (by omega) (Wk.rows _ _ (fun _ _ => rfl) rfl rfl (by simp -implicitDefEqProofs +decide only [go_sem, ofH, tW, sW, sV] <;> first | rfl | exact ⟨rfl, rfl⟩ | skip) (fun l hp => by cases l <;> first | rfl | cases hp) (by simp -implicitDefEqProofs +decide only [go_sem, tI, sI, tW, sW, sV] <;> first | rfl | skip) (by simp -implicitDefEqProofs +decide only [go_sem, tI, sI, tW, sW]))
  · obtain rfl : i = ys.length := by omega
    rw [List.take_of_length_le (Nat.le_refl _), List.take_of_length_le (show zs.length ≤ ys.length by omega)] at hal ⊢
    simp -implicitDefEqProofs +decide only [go_sem, ofH]
    exact endF.row1 (.inr rfl) (by simp -implicitDefEqProofs +decide only [go_sem]; rfl) (by simp -implicitDefEqProofs +decide only [go_sem]; rfl) (by rw [List.length_map, hal]) (fun l hp => by cases l <;> first | rfl | cases hp) rfl

theorem turnR_snoc {n m i k : Nat} {xs : List Rat} {r : Rat} (hi : i < m) (hk : k < n) (hr : xs[k * m + i]? = some r) : (turnR n m xs).take (i * n + k) ++ [r] = (turnR n m xs).take (i * n + k + 1) := by
  have h1 : (i * n + k) % n = k := by rw [Nat.mul_comm, Nat.mul_add_mod, Nat.mod_eq_of_lt hk]
  have h2 : (i * n + k) / n = i := by rw [Nat.mul_comm, Nat.mul_add_div (by omega), Nat.div_eq_of_lt hk]; rfl
  have h3 : i * n + k < m * n := by
    have := Nat.mul_le_mul_right n (show i + 1 ≤ m by omega)
    rw [Nat.add_mul, Nat.one_mul] at this
    omega
  have hg : (turnR n m xs)[i * n + k]? = some r := by
    unfold turnR
    rw [List.getElem?_map, List.getElem?_range h3, Option.map_some, h1, h2, List.getD_eq_getElem?_getD, hr]; rfl
  rw [List.take_add_one, hg]; rfl
theorem turned_ok (n m : Nat) (xs : List Rat) (hn : 0 < n) (hm : 0 < m) (hnm : n * m ≤ 64) (hx : xs.length = n * m) : Pure Tryz.prog 19 [argT [(n : Int), (m : Int)] xs] [.t (argT [(m : Int), (n : Int)] (turnR n m xs))] := by
  have hn64 : n ≤ n * m := Nat.le_mul_of_pos_right _ hm
  have hm64 : m ≤ n * m := Nat.le_mul_of_pos_left _ hn
  have htl := turnR_length n m xs
  obtain ⟨L, hL⟩ : ∃ L, turnR n m xs = L := ⟨_, rfl⟩
  have hsnoc := fun i k r hi hk hr => @turnR_snoc n m i k xs r hi hk hr
  rw [hL] at htl ⊢
  simp only [hL] at hsnoc
  unfold argT
  refine Pure.introC Tryz.func19 rfl (rv := [.c 2 _]) rfl (by simp [Tryz.ntmps19]) (by decide) (sites := fun _ => false) ?_
  apply run_sound 200
  simp -implicitDefEqProofs +decide only [go_sem]
  refine Goes.drawN mixed ?_
  simp -implicitDefEqProofs +decide only [go_sem, sI, sV, I]
  refine ⟨.mk (by kernel_rfl), ?_⟩
  apply run_sound 200
  simp -implicitDefEqProofs +decide only [go_sem]
  refine Goes.wk (Wk.nilCell (l0 := .loc 5 0) (lab := .loc 40 0) (j := 1) (size := 5) (by simp -implicitDefEqProofs +decide only [go_sem]; rfl) (by rfl) (by simp -implicitDefEqProofs +decide only [go_sem]) rfl rfl (by decide)) ?_
  refine Goes.loop (X := Nat) (fun i => ⟨ofL [(1, .bp (.loc 1 0) 0), (2, .bp (.loc 2 0) 0), (3, .t (.int .i64 n)), (4, .t (.int .i64 m)), (5, .bp (.loc 5 0) 0), (20, .t (.int .i64 m)), (21, .t (.int .i64 i))],
      ofH (fun _ => none) [(.loc 1 0, .box [.t (sI [(n : Int), (m : Int)]), .t (sV xs)]), (.loc 2 0, .box [.nil, .nil]), (.loc 5 0, .box [.sl (.loc 18 0) 0 0 2, .sl (.loc 40 0) (i * n) 0 (i * n)]), (.loc 18 0, .arr 1 [I m, I n] 0 0), (.loc 40 0, .arr 5 ((L.take (i * n)).map vT) (i * n) 0)], 0⟩) (fun i => i ≤ m) (fun i => m - i) 0 ?_ (by omega) ?_
  · refine Wk.boxes _ _ (fun _ _ => rfl) rfl rfl ?_ (fun l hp => by cases l <;> first | rfl | cases hp) ?_ ?_
    · simp -implicitDefEqProofs +decide only [go_sem, sI, sV, Nat.zero_mul, List.take_zero, List.map_nil, I] <;> first | rfl | exact ⟨rfl, rfl⟩ | skip
    · simp -implicitDefEqProofs +decide only [go_sem] <;> rfl
    · simp -implicitDefEqProofs +decide only [go_sem]
  rintro i hi J hJ
  apply run_sound 200
  simp -implicitDefEqProofs +decide only [go_sem]
  refine selP_dec (fun h1 => ?_) (fun h1 => ?_)
  · have hw := wS (show i < 1000000000000 by omega)
    simp -implicitDefEqProofs +decide only [go_sem]
    refine Goes.loop (X := Nat) (fun k => ⟨ofL [(1, .bp (.loc 1 0) 0), (2, .bp (.loc 2 0) 0), (3, .t (.int .i64 n)), (4, .t (.int .i64 m)), (5, .bp (.loc 5 0) 0), (6, .t (.int .i64 i)), (20, .t (.int .i64 m)), (21, .t (.int .i64 i)), (24, .t (.int .i64 n)), (25, .t (.int .i64 k))],
        ofH (fun _ => none) [(.loc 1 0, .box [.t (sI [(n : Int), (m : Int)]), .t (sV xs)]), (.loc 2 0, .box [.nil, .nil]), (.loc 5 0, .box [.sl (.loc 18 0) 0 0 2, .sl (.loc 40 0) (i * n + k) 0 (i * n + k)]), (.loc 18 0, .arr 1 [I m, I n] 0 0), (.loc 40 0, .arr 5 ((L.take (i * n + k)).map vT) (i * n + k) 0)], 0⟩) (fun k => k ≤ n) (fun k => n - k) 0 ?_ (by omega) ?_
    · refine Wk.boxes _ _ (fun _ _ => rfl) rfl rfl ?_ (fun l hp => by cases l <;> first | rfl | cases hp) ?_ ?_
      · simp -implicitDefEqProofs +decide only [go_sem, ofH] <;> first | rfl | exact ⟨rfl, rfl⟩ | skip
      · simp -implicitDefEqProofs +decide only [go_sem]
      · simp -implicitDefEqProofs +decide only [go_sem]
    rintro k hk J2 hJ2
    apply run_sound 200
    simp -implicitDefEqProofs +decide only [go_sem]
    refine selP_dec (fun h2 => ?_) (fun h2 => ?_)
    · have hlt : k * m + i < n * m := by
        have := Nat.mul_le_mul_right m (show k + 1 ≤ n by omega)
        rw [Nat.add_mul, Nat.one_mul] at this
        omega
      have hlt2 : i * n + k < m * n := by
        have := Nat.mul_le_mul_right n (show i + 1 ≤ m by omega)
        rw [Nat.add_mul, Nat.one_mul] at this
        omega
      rw [Nat.mul_comm m n] at hlt2
      obtain ⟨r, hr⟩ := getI (show k * m + i < xs.length by omega)
      have hsn := congrArg (List.map vT) (hsnoc i k r (by omega) (by omega) hr)
      rw [List.map_append] at hsn
      have hsn : (L.take (i * n + k)).map vT ++ [.agg [.bool (neg1 r), sW (wordsOf r.num.natAbs), sW (wordsOf r.den), .int .u64 0, .int .i64 0]] = (L.take (i * n + k + 1)).map vT := hsn
      have hll : (L.take (i * n + k)).length = i * n + k := by rw [List.length_take, htl, Nat.mul_comm m n]; omega
      have hkm : k * m ≤ n * m := by omega
      have w1 : IntKind.wrap .i64 ((k : Int) * m) = ((k * m : Nat) : Int) := by rw [← Int.natCast_mul, w64] <;> omega
      have w2 : IntKind.wrap .i64 (((k * m : Nat) : Int) + i) = ((k * m + i : Nat) : Int) := by rw [w64] <;> omega
      have hwk := wS (show k < 1000000000000 by omega)
      have hib : i * n + k + 1 < big := by unfold big; omega
      simp -implicitDefEqProofs +decide only [go_sem]
      refine Goes.drawN mixed ?_
      simp -implicitDefEqProofs +decide only [go_sem, ofH, sV, w1, w2, hr, vT_eq, hll, hib, hsn, Int.toNat_natCast]
      refine ⟨.mk (by kernel_rfl), ?_⟩
      apply run_sound 200
      simp -implicitDefEqProofs +decide only [go_sem, hwk]
      refine hJ2 (k + 1) _ (by omega) (by omega) (Wk.boxes _ _ (fun _ _ => rfl) rfl rfl ?_ (fun l hp => by cases l <;> first | rfl | cases hp) ?_ ?_)
      · simp -implicitDefEqProofs +decide only [go_sem, ofH, sV, ← Nat.add_assoc] <;> first | rfl | exact ⟨rfl, rfl⟩ | skip
      · simp -implicitDefEqProofs +decide only [go_sem]
      · simp -implicitDefEqProofs +decide only [go_sem]
    · obtain rfl : k = n := by omega
      have e : i * k + k = (i + 1) * k := by rw [Nat.add_mul, Nat.one_mul]
      rw [e]
      simp -implicitDefEqProofs +decide only [go_sem, hw]
      refine hJ (i + 1) _ (by omega) (by omega) (Wk.boxes _ _ (fun _ _ => rfl) rfl rfl ?_ (fun l hp => by cases l <;> first | rfl | cases hp) ?_ ?_)
      · simp -implicitDefEqProofs +decide only [go_sem, ofH] <;> first | rfl | exact ⟨rfl, rfl⟩ | skip
      · simp -implicitDefEqProofs +decide only [go_sem]
      · simp -implicitDefEqProofs +decide only [go_sem]
  · obtain rfl : i = m := by omega
    have htk : L.take (i * n) = L := List.take_of_length_le (by omega)
    have htk2 : List.take (i * n) (L.map vT) = L.map vT := List.take_of_length_le (by rw [List.length_map]; omega)
    rw [htk]
    simp -implicitDefEqProofs +decide only [go_sem, ofH]
    exact endC.one (.inr rfl) (by first | rfl | (simp -implicitDefEqProofs +decide only [go_sem, valC, sI, sV, htk2, ofH, I]; done) | (simp -implicitDefEqProofs +decide only [go_sem, valC, sI, sV, htk2, ofH, I]; rfl)) (by first | rfl | (simp -implicitDefEqProofs +decide only [go_sem, sI, sV, htk2, ofH, I]; done) | (simp -implicitDefEqProofs +decide only [go_sem, sI, sV, htk2, ofH, I]; rfl)) (fun l hp => by cases l <;> first | rfl | cases hp) rfl
end Go.Fm
/- Operands of exact numbers. -/
namespace Go.Fm
open Go.Proofs
set_option maxRecDepth 100000
attribute [local irreducible] tiOf

/-- A scalar that is an exact number. -/
def rightB (s : Sc) : Bool := decide (s.b = 0) && (decide (s.f = 0) && rtR s.x)
structure SOK (s : Sc) (k : Nat) : Prop where
  p : WOK s.x.p
  q : WOK s.x.q
  lp : s.x.p.length ≤ k
  lq : s.x.q.length ≤ k
theorem rRightV_ok (s : Sc) (h : SOK s 1000) : Pure Tryz.prog 80 [.int .i64 0, s.T] [.t (.bool (rightB s))] := by
  have c1 := rSame_ok s.x ⟨false, [], []⟩ (by have := h.lp; omega) (by have := h.lq; omega) (by simp) (by simp)
  have c2 := rRight07_ok s.x h.p h.q h.lp h.lq
  obtain ⟨b1, hb1⟩ : ∃ b, decide (s.x = ⟨false, [], []⟩) = b := ⟨_, rfl⟩
  rw [hb1] at c1
  unfold rightB
  have e : rtR s.x = rightM s.x.neg s.x.p s.x.q := rfl
  rw [e]
  obtain ⟨b2, hb2⟩ : ∃ b, rightM s.x.neg s.x.p s.x.q = b := ⟨_, rfl⟩
  rw [hb2] at c2 ⊢
  obtain ⟨⟨n, p, q⟩, b, f⟩ := s
  simp only [Rt.T, rT] at c1 c2
  have d1 : decide ((b : Int) = 0) = decide (b = 0) := decide_eq_decide.2 (by omega)
  clear hb1 hb2 e h
  dsimp only
  obtain ⟨v, hv⟩ : ∃ v, (decide (b = 0) && (decide (f = 0) && b2)) = v := ⟨_, rfl⟩
  rw [hv]
  refine Pure.intro Tryz.func80 rfl (rt := [4]) rfl (by simp [Tryz.ntmps80]) (by decide) (sites := fun _ => false) ?_
  apply run_sound 200
  simp -implicitDefEqProofs +decide only [go_sem, Sc.T_eq, sW]
  simp only [sW] at c1 c2
  refine CallG.pure _ Tryz.call82 (c1) (by first | rfl | (simp only [go_sem]; done) | (simp only [go_sem]; rfl)) (by first | rfl | (simp only [go_sem]; done) | (simp only [go_sem]; rfl)) ?_
  apply run_sound 200
  simp -implicitDefEqProofs +decide only [go_sem, d1]
  refine selP_dec (fun h1 => ?_) (fun h1 => ?_)
  · subst h1
    simp -implicitDefEqProofs +decide only [go_sem]
    refine selP_dec (fun h2 => ?_) (fun h2 => ?_)
    · subst h2
      simp -implicitDefEqProofs +decide only [go_sem]
      refine CallG.pure _ Tryz.call105 (c2) (by first | rfl | (simp only [go_sem]; done) | (simp only [go_sem]; rfl)) (by first | rfl | (simp only [go_sem]; done) | (simp only [go_sem]; rfl)) ?_
      apply run_sound 200
      obtain rfl : v = b2 := by rw [← hv]; simp
      simp -implicitDefEqProofs +decide only [go_sem]
      exact endF.vals [(4, .bool v)] (.inr rfl) (vals_t (by simp -implicitDefEqProofs +decide only [go_sem] <;> rfl) rfl vals_nil) (fun l hp => by cases l <;> first | rfl | cases hp) rfl
    · obtain rfl : v = false := by rw [← hv, decide_eq_false h2]; rfl
      simp -implicitDefEqProofs +decide only [go_sem, h2]
      exact endF.vals [(4, .bool false)] (.inr rfl) (vals_t (by simp -implicitDefEqProofs +decide only [go_sem] <;> rfl) rfl vals_nil) (fun l hp => by cases l <;> first | rfl | cases hp) rfl
  · obtain rfl : v = false := by rw [← hv, decide_eq_false h1]; rfl
    simp -implicitDefEqProofs +decide only [go_sem, h1]
    exact endF.vals [(4, .bool false)] (.inr rfl) (vals_t (by simp -implicitDefEqProofs +decide only [go_sem] <;> rfl) rfl vals_nil) (fun l hp => by cases l <;> first | rfl | cases hp) rfl

theorem rVals_ok (l : List Sc) (hl : l.length < 1000000000) (h : ∀ s ∈ l, SOK s 1000) : Pure Tryz.prog 44 [.int .i64 0, sS l] [.t (.bool (l.all rightB))] := by
  refine Pure.intro Tryz.func44 rfl (rt := [4]) rfl (by simp [Tryz.ntmps44]) (by decide) (sites := fun _ => false) ?_
  apply run_sound 200
  simp -implicitDefEqProofs +decide only [go_sem, sS, List.length_map]
  refine Goes.loop (X := Nat) (fun i => ⟨ofL [(0, .t (.int .i64 0)), (1, .t (sS l)), (7, .t (.int .i64 l.length)), (8, .t (.int .i64 i))], fun _ => none, 0⟩) (fun i => i ≤ l.length ∧ (l.take i).all rightB = true) (fun i => l.length - i) 0 (Wk.slots _ rfl rfl (by simp -implicitDefEqProofs +decide only [go_sem, sS]) (by simp -implicitDefEqProofs +decide only [go_sem, sS])) (by simp) ?_
  rintro i ⟨hi, he⟩ J hJ
  apply run_sound 200
  simp -implicitDefEqProofs +decide only [go_sem, sS]
  refine selP_dec (fun hc => ?_) (fun hc => ?_)
  · obtain ⟨s, hs⟩ := getI (show i < l.length by omega)
    have c := rRightV_ok s (h s (List.mem_of_getElem? hs))
    obtain ⟨b, hb⟩ : ∃ b, rightB s = b := ⟨_, rfl⟩
    have hw := wS (show i < 1000000000000 by omega)
    rw [hb] at c
    simp only [Sc.T, sW] at c
    simp -implicitDefEqProofs +decide only [go_sem, hs, Sc.T, sW]
    refine CallG.pure _ Tryz.call80 (c) (by first | rfl | (simp only [go_sem]; done) | (simp only [go_sem]; rfl)) (by first | rfl | (simp only [go_sem]; done) | (simp only [go_sem]; rfl)) ?_
    apply run_sound 200
    simp -implicitDefEqProofs +decide only [go_sem]
    cases b
    · have e : l.all rightB = false := all_mem hs hb
      rw [e]
      simp -implicitDefEqProofs +decide only [go_sem]
      exact endF.vals [(4, .bool false)] (.inr rfl) (vals_t (by simp -implicitDefEqProofs +decide only [go_sem] <;> rfl) rfl vals_nil) (fun l hp => by cases l <;> first | rfl | cases hp) rfl
    · simp -implicitDefEqProofs +decide only [go_sem, hw]
      refine hJ (i + 1) _ ⟨by omega, all_take hs he hb⟩ (by omega) (Wk.slots _ rfl rfl (by simp -implicitDefEqProofs +decide only [go_sem, sS, hw]) (by simp -implicitDefEqProofs +decide only [go_sem, sS, hw]))
  · have e : l.all rightB = true := all_done he (by omega)
    rw [e]
    simp -implicitDefEqProofs +decide only [go_sem]
    exact endF.vals [(4, .bool true)] (.inr rfl) (vals_t (by simp -implicitDefEqProofs +decide only [go_sem] <;> rfl) rfl vals_nil) (fun l hp => by cases l <;> first | rfl | cases hp) rfl

theorem argsRight_ok (l : List Ag) (hl : l.length < 9000000000000000000) (h : argsB l = false → ∀ a ∈ l, ∀ s ∈ a.v, SOK s 1000) :
    Pure Tryz.prog 15 [.int .i64 0, sA l] [.t (.bool (!argsB l && l.all fun a => a.v.all rightB))] := by
  have c1 := args_ok l hl
  obtain ⟨b, hb⟩ : ∃ b, argsB l = b := ⟨_, rfl⟩
  rw [hb] at c1 h ⊢
  simp only [sA] at c1
  obtain ⟨v, hv⟩ : ∃ v, (!b && l.all fun a => a.v.all rightB) = v := ⟨_, rfl⟩
  rw [hv]
  refine Pure.intro Tryz.func15 rfl (rt := [4]) rfl (by simp [Tryz.ntmps15]) (by decide) (sites := fun _ => false) ?_
  apply run_sound 200
  simp -implicitDefEqProofs +decide only [go_sem, sA, List.length_map]
  refine CallG.pure _ Tryz.call43 (c1) (by first | rfl | (simp only [go_sem]; done) | (simp only [go_sem]; rfl)) (by first | rfl | (simp only [go_sem]; done) | (simp only [go_sem]; rfl)) ?_
  apply run_sound 200
  simp -implicitDefEqProofs +decide only [go_sem]
  cases b
  · have h := h rfl
    have hla : l.length ≤ 6 ∧ ∀ a ∈ l, a.v.length ≤ 100 := by
      unfold argsB at hb
      rw [Bool.or_eq_false_iff, List.any_eq_false] at hb
      refine ⟨by have := of_decide_eq_false hb.2; omega, fun a ha => ?_⟩
      have := hb.1 a ha
      unfold agB at this
      simp only [Bool.or_eq_true, decide_eq_true_eq, not_or] at this
      omega
    simp -implicitDefEqProofs +decide only [go_sem, List.length_map]
    refine Goes.loop (X := Nat) (fun i => ⟨ofL [(0, .t (.int .i64 0)), (1, .t (sA l)), (17, .t (.int .i64 l.length)), (18, .t (.int .i64 i))], fun _ => none, 0⟩) (fun i => i ≤ l.length ∧ (l.take i).all (fun a => a.v.all rightB) = true) (fun i => l.length - i) 0 (Wk.slots _ rfl rfl (by simp -implicitDefEqProofs +decide only [go_sem, sA]) (by simp -implicitDefEqProofs +decide only [go_sem, sA])) (by simp) ?_
    rintro i ⟨hi, he⟩ J hJ
    apply run_sound 200
    simp -implicitDefEqProofs +decide only [go_sem, sA]
    refine selP_dec (fun hc => ?_) (fun hc => ?_)
    · obtain ⟨a, ha⟩ := getI (show i < l.length by omega)
      have c := rVals_ok a.v (by have := hla.2 a (List.mem_of_getElem? ha); omega) (h a (List.mem_of_getElem? ha))
      obtain ⟨b, hb⟩ : ∃ b, a.v.all rightB = b := ⟨_, rfl⟩
      have hla6 := hla.1
      have hw := wS (show i < 1000000000000 by omega)
      rw [hb] at c
      simp only [sS] at c
      simp -implicitDefEqProofs +decide only [go_sem, ha, Ag.T, sI, sS]
      refine CallG.pure _ Tryz.call44 (c) (by first | rfl | (simp only [go_sem]; done) | (simp only [go_sem]; rfl)) (by first | rfl | (simp only [go_sem]; done) | (simp only [go_sem]; rfl)) ?_
      apply run_sound 200
      simp -implicitDefEqProofs +decide only [go_sem]
      cases b
      · obtain rfl : v = false := by rw [← hv, all_mem ha hb]; rfl
        simp -implicitDefEqProofs +decide only [go_sem]
        exact endF.vals [(4, .bool false)] (.inr rfl) (vals_t (by simp -implicitDefEqProofs +decide only [go_sem] <;> rfl) rfl vals_nil) (fun l hp => by cases l <;> first | rfl | cases hp) rfl
      · simp -implicitDefEqProofs +decide only [go_sem, hw]
        refine hJ (i + 1) _ ⟨by omega, all_take ha he hb⟩ (by omega) (Wk.slots _ rfl rfl (by simp -implicitDefEqProofs +decide only [go_sem, sA, hw]) (by simp -implicitDefEqProofs +decide only [go_sem, sA, hw]))
    · obtain rfl : v = true := by rw [← hv, all_done he (by omega)]; rfl
      simp -implicitDefEqProofs +decide only [go_sem]
      exact endF.vals [(4, .bool true)] (.inr rfl) (vals_t (by simp -implicitDefEqProofs +decide only [go_sem] <;> rfl) rfl vals_nil) (fun l hp => by cases l <;> first | rfl | cases hp) rfl
  · obtain rfl : v = false := by rw [← hv]; rfl
    simp -implicitDefEqProofs +decide only [go_sem]
    exact endF.vals [(4, .bool false)] (.inr rfl) (vals_t (by simp -implicitDefEqProofs +decide only [go_sem] <;> rfl) rfl vals_nil) (fun l hp => by cases l <;> first | rfl | cases hp) rfl

/-- Right scalars are numbers. -/
theorem right_scR {s : Sc} (hp : WOK s.x.p) (hq : WOK s.x.q) (h : rightB s = true) : ∃ r, s = scR r := by
  unfold rightB at h
  simp only [Bool.and_eq_true, decide_eq_true_eq] at h
  obtain ⟨h1, h2, h3⟩ := h
  obtain ⟨r, hr⟩ := right_qR hp hq h3
  obtain ⟨x, b, f⟩ := s
  dsimp only at h1 h2 hr
  subst h1 h2 hr
  exact ⟨r, rfl⟩
theorem right_list : ∀ {l : List Sc}, (∀ s ∈ l, WOK s.x.p ∧ WOK s.x.q) → l.all rightB = true → ∃ xs : List Rat, l = xs.map scR
  | [], _, _ => ⟨[], rfl⟩
  | s :: l, h, ha => by
    simp only [List.all_cons, Bool.and_eq_true] at ha
    obtain ⟨r, hr⟩ := right_scR (h s (by simp)).1 (h s (by simp)).2 ha.1
    obtain ⟨xs, hxs⟩ := right_list (fun t ht => h t (by simp [ht])) ha.2
    exact ⟨r :: xs, by rw [hr, hxs]; rfl⟩
theorem sS_scR (xs : List Rat) : sS (xs.map scR) = sV xs := by unfold sS sV; rw [List.map_map]; rfl
/-- Short ones, too. -/
theorem wide_QB {xs : List Rat} {k : Nat} (h : wideB k (xs.map scR) = false) : ∀ r ∈ xs, QB r k := by
  intro r hr
  unfold wideB at h
  rw [List.any_eq_false] at h
  have := h (scR r) (List.mem_map.2 ⟨r, hr, rfl⟩)
  unfold longB at this
  simp only [Bool.or_eq_true, decide_eq_true_eq, not_or] at this
  exact ⟨by have := this.1; show (wordsOf r.num.natAbs).length ≤ k; exact Nat.le_of_not_lt this, by have := this.2; show (wordsOf r.den).length ≤ k; exact Nat.le_of_not_lt this⟩
theorem wide_SOK {l : List Sc} {k : Nat} (h : wideB k l = false) (hw : ∀ s ∈ l, WOK s.x.p ∧ WOK s.x.q) : ∀ s ∈ l, SOK s k := by
  intro s hs
  unfold wideB at h
  rw [List.any_eq_false] at h
  have := h s hs
  unfold longB at this
  simp only [Bool.or_eq_true, decide_eq_true_eq, not_or] at this
  exact ⟨(hw s hs).1, (hw s hs).2, Nat.le_of_not_lt this.1, Nat.le_of_not_lt this.2⟩
end Go.Fm
/- The laws on matrices. -/
namespace Go.Fm
open Go.Proofs
set_option maxRecDepth 100000
attribute [local irreducible] tiOf

noncomputable def wholeB (x y : Ag) : Bool := decide ((mdims x.d y.d).2 = 0) && (decide ((x.v.length : Int) = cnt x.d) && decide ((y.v.length : Int) = cnt y.d))
theorem whole_ok (x y : Ag) (hx : x.d.length < 1000000000) (hy : y.d.length < 1000000000) : Pure Tryz.prog 16 [x.T, y.T] [.t (.bool (wholeB x y))] := by
  obtain ⟨l, e, hm⟩ : ∃ l e, mdims x.d y.d = (l, e) := ⟨_, _, rfl⟩
  have c1 := rDims_ok x.d y.d l e hx hy hm
  have c2 := rCount_ok x.d hx
  have c3 := rCount_ok y.d hy
  unfold wholeB
  rw [hm]
  dsimp only
  obtain ⟨d, v⟩ := x
  obtain ⟨d', v'⟩ := y
  dsimp only at *
  simp only [sI] at c2 c3
  refine Pure.intro Tryz.func16 rfl (rt := [4]) rfl (by simp [Tryz.ntmps16]) (by decide) (sites := fun _ => false) ?_
  apply run_sound 200
  simp -implicitDefEqProofs +decide only [go_sem, Ag.T, sI, sS]
  refine CallG.pureS _ Tryz.call11 (c1) (by first | rfl | (simp only [go_sem]; done) | (simp only [go_sem]; rfl)) (by first | rfl | (simp only [go_sem]; done) | (simp only [go_sem]; rfl)) ?_
  apply run_sound 200
  simp -implicitDefEqProofs +decide only [go_sem]
  by_cases he : e = 0
  · subst he
    by_cases h1 : (v.length : Int) = cnt d
    · have d1 : decide ((v.length : Int) = cnt d) = true := decide_eq_true h1
      obtain ⟨b, hb⟩ : ∃ b, decide ((v'.length : Int) = cnt d') = b := ⟨_, rfl⟩
      rw [d1, hb]
      refine Goes.drawN mixed ?_
      simp -implicitDefEqProofs +decide only [go_sem, sI, sS, List.length_map]
      refine CallD.pure _ Tryz.call31 c2 (by first | rfl | (simp only [go_sem]; done) | (simp only [go_sem]; rfl)) (by first | rfl | (simp only [go_sem]; done) | (simp only [go_sem]; rfl)) ?_
      simp -implicitDefEqProofs +decide only [go_sem, sI, sS, List.length_map, d1]
      refine CallD.pure _ Tryz.call31 c3 (by first | rfl | (simp only [go_sem]; done) | (simp only [go_sem]; rfl)) (by first | rfl | (simp only [go_sem]; done) | (simp only [go_sem]; rfl)) ?_
      simp -implicitDefEqProofs +decide only [go_sem, hb]
      refine ⟨.mk (by kernel_rfl), ?_⟩
      apply run_sound 200
      simp -implicitDefEqProofs +decide only [go_sem]
      exact endF.vals [(4, .bool b)] (.inr rfl) (vals_t (by simp -implicitDefEqProofs +decide only [go_sem] <;> rfl) rfl vals_nil) (fun l hp => by cases l <;> first | rfl | cases hp) rfl
    · have d1 : decide ((v.length : Int) = cnt d) = false := decide_eq_false h1
      rw [d1]
      refine Goes.drawN mixed ?_
      simp -implicitDefEqProofs +decide only [go_sem, sI, sS, List.length_map]
      refine CallD.pure _ Tryz.call31 c2 (by first | rfl | (simp only [go_sem]; done) | (simp only [go_sem]; rfl)) (by first | rfl | (simp only [go_sem]; done) | (simp only [go_sem]; rfl)) ?_
      simp -implicitDefEqProofs +decide only [go_sem, sI, sS, List.length_map, d1]
      refine ⟨.mk (by kernel_rfl), ?_⟩
      apply run_sound 200
      simp -implicitDefEqProofs +decide only [go_sem]
      exact endF.vals [(4, .bool false)] (.inr rfl) (vals_t (by simp -implicitDefEqProofs +decide only [go_sem] <;> rfl) rfl vals_nil) (fun l hp => by cases l <;> first | rfl | cases hp) rfl
  · have d0 : decide (e = 0) = false := decide_eq_false he
    rw [d0]
    refine Goes.drawN mixed ?_
    simp -implicitDefEqProofs +decide only [go_sem, d0]
    refine ⟨.mk (by kernel_rfl), ?_⟩
    apply run_sound 200
    simp -implicitDefEqProofs +decide only [go_sem]
    exact endF.vals [(4, .bool false)] (.inr rfl) (vals_t (by simp -implicitDefEqProofs +decide only [go_sem] <;> rfl) rfl vals_nil) (fun l hp => by cases l <;> first | rfl | cases hp) rfl

theorem noPtr_arg (d : List Int) (l : List Rat) : noPtr (.agg [sI d, sV l]) = true := by simp only [noPtr, noPtrL, noPtr_sI, noPtr_sV, Bool.and_self]
attribute [go_sem] noPtr_arg noPtr_sV
theorem Ag_scR (d : List Int) (xs : List Rat) : Ag.T ⟨d, xs.map scR⟩ = argT d xs := by unfold Ag.T argT; rw [sS_scR]
theorem SOK_qR {r : Rat} {k : Nat} (h : QB r k) : SOK (scR r) k := ⟨WOK_wordsOf _, WOK_wordsOf _, h.n, h.d⟩
theorem right_qRt (r : Rat) : rightB (scR r) = true := by unfold rightB; rw [show rtR (scR r).x = true from qR_right r]; rfl
theorem QB_wide {xs : List Rat} {k : Nat} (h : ∀ r ∈ xs, QB r k) : wideB k (xs.map scR) = false := by
  unfold wideB
  rw [List.any_eq_false]
  intro s hs
  obtain ⟨r, hr, rfl⟩ := List.mem_map.1 hs
  have h1 := (h r hr).n
  have h2 := (h r hr).d
  unfold longB
  rw [show decide (k < (scR r).x.p.length) = false from decide_eq_false (Nat.not_lt.2 h1), show decide (k < (scR r).x.q.length) = false from decide_eq_false (Nat.not_lt.2 h2)]
  simp
/-- Short exact operands are right. -/
theorem rightArgs_ok (l : List (List Int × List Rat)) (hl : l.length ≤ 6) (h : ∀ p ∈ l, p.1.length ≤ 20 ∧ p.2.length ≤ 100 ∧ ∀ r ∈ p.2, QB r 9) : Pure Tryz.prog 15 [.int .i64 0, .slice (l.map fun p => argT p.1 p.2)] [.t (.bool true)] := by
  have hq : ∀ a ∈ l.map (fun p => (⟨p.1, p.2.map scR⟩ : Ag)), ∃ p ∈ l, a = ⟨p.1, p.2.map scR⟩ := fun a ha => by
    obtain ⟨p, hp, rfl⟩ := List.mem_map.1 ha
    exact ⟨p, hp, rfl⟩
  have c := argsRight_ok (l.map fun p => (⟨p.1, p.2.map scR⟩ : Ag)) (by simp; omega) (fun _ a ha s hs => by
    obtain ⟨p, hp, rfl⟩ := hq a ha
    obtain ⟨r, hr, rfl⟩ := List.mem_map.1 hs
    have := SOK_qR ((h p hp).2.2 r hr)
    exact ⟨this.p, this.q, by have := this.lp; omega, by have := this.lq; omega⟩)
  have e1 : argsB (l.map fun p => (⟨p.1, p.2.map scR⟩ : Ag)) = false := by
    unfold argsB
    rw [decide_eq_false (by simp; omega), Bool.or_false, List.any_eq_false]
    intro a ha
    obtain ⟨p, hp, rfl⟩ := hq a ha
    obtain ⟨h1, h2, h3⟩ := h p hp
    unfold agB
    rw [decide_eq_false (by simp; omega), decide_eq_false (by simp; omega), QB_wide h3]
    simp
  have e2 : ((l.map fun p => (⟨p.1, p.2.map scR⟩ : Ag)).all fun a => a.v.all rightB) = true := by
    rw [List.all_eq_true]
    intro a ha
    obtain ⟨p, hp, rfl⟩ := hq a ha
    rw [List.all_eq_true]
    intro s hs
    obtain ⟨r, hr, rfl⟩ := List.mem_map.1 hs
    exact right_qRt r
  have e3 : sA (l.map fun p => (⟨p.1, p.2.map scR⟩ : Ag)) = .slice (l.map fun p => argT p.1 p.2) := by
    unfold sA
    rw [List.map_map]
    congr 1
    exact List.map_congr_left fun p _ => Ag_scR p.1 p.2
  rw [e1, e2, e3] at c
  exact c

theorem doM_QB {a b out : List Int} {xs ys : List Rat} {N B : Nat} (hm : mdims a b = (out, 0)) (hx : ∀ r ∈ xs, QB r B) (hy : ∀ r ∈ ys, QB r B) (hB : 1 ≤ B) : ∀ r ∈ doM a b out xs ys N, QB r (64 * (B + B + 1) + 1) := by
  intro r hr
  unfold doM at hr
  obtain ⟨i, _, rfl⟩ := List.mem_map.1 hr
  have hl : (termsM a b out (i : Int)).length ≤ 64 := by
    rw [termsM_length]
    have H := mdims_inv hm
    obtain ⟨K, hK⟩ := getI (show a.length - 1 < a.length by have := H.la; omega)
    rw [getD_of hK]
    have := chk_mem_le H.ca hK
    omega
  have h := dotR_QB hx hy hB (termsM a b out (i : Int)) (termsM a b out (i : Int)).length
  rw [List.take_length] at h
  exact h.mono (by have := Nat.mul_le_mul_right (B + B + 1) hl; omega)
theorem getD_ZB {xs : List Rat} {B : Nat} (h : ∀ r ∈ xs, ZB r B) (i : Nat) : ZB (xs.getD i 0) B := by
  rw [List.getD_eq_getElem?_getD]
  cases hx : xs[i]? with
  | none => show tz 1 ≤ B; rw [tz_odd rfl]; omega
  | some x => exact h x (List.mem_of_getElem? hx)
theorem dotR_ZB {xs ys : List Rat} {B : Nat} (hx : ∀ r ∈ xs, ZB r B) (hy : ∀ r ∈ ys, ZB r B) (l : List (Int × Int)) : ZB (dotR xs ys l) (B + B) := by
  unfold dotR
  have : ∀ (l : List (Int × Int)) (s : Rat), ZB s (B + B) → ZB (l.foldl (fun s p => s + dotT xs ys p) s) (B + B) := fun l => by
    induction l with
    | nil => exact fun s h => h
    | cons p l ih => exact fun s h => ih _ (ZB_add h (ZB_mul (getD_ZB hx _) (getD_ZB hy _)))
  exact this l 0 (by show tz 1 ≤ _; rw [tz_odd rfl]; omega)
theorem doM_ZB {a b out : List Int} {xs ys : List Rat} {N B : Nat} (hx : ∀ r ∈ xs, ZB r B) (hy : ∀ r ∈ ys, ZB r B) : ∀ r ∈ doM a b out xs ys N, ZB r (B + B) := by
  intro r hr
  unfold doM at hr
  obtain ⟨i, _, rfl⟩ := List.mem_map.1 hr
  exact dotR_ZB hx hy _
theorem turnR_QB {xs : List Rat} {B : Nat} (h : ∀ r ∈ xs, QB r B) (hB : 1 ≤ B) (n m : Nat) : ∀ r ∈ turnR n m xs, QB r B := by
  intro r hr
  unfold turnR at hr
  obtain ⟨i, _, rfl⟩ := List.mem_map.1 hr
  exact getD_QB h hB _
theorem addL_mem {ys zs : List Rat} {Q R : Rat → Prop} (hy : ∀ r ∈ ys, Q r) (hz : ∀ r ∈ zs, Q r) (hadd : ∀ r s, Q r → Q s → R (r + s)) : ∀ r ∈ addL ys zs, R r := by
  intro r hr
  unfold addL at hr
  obtain ⟨i, hi⟩ := List.mem_iff_getElem?.1 hr
  rw [List.getElem?_zipWith] at hi
  cases h1 : ys[i]? with
  | none => rw [h1] at hi; cases hi
  | some y =>
    cases h2 : zs[i]? with
    | none => rw [h1, h2] at hi; cases hi
    | some z =>
      rw [h1, h2] at hi
      cases hi
      exact hadd y z (hy y (List.mem_of_getElem? h1)) (hz z (List.mem_of_getElem? h2))

theorem obj_up (h : Heap) (id c c' : Nat) : upd (upd h (.obj id) (some (bankO c))) (.obj id) (some (bankO c')) = upd h (.obj id) (some (bankO c')) := upd_upd _ _ _ _
theorem cnt2 {n m : Nat} (h : chk [(n : Int), (m : Int)] = 0) : cnt [(n : Int), (m : Int)] = ((n * m : Nat) : Int) := by
  unfold cnt; rw [if_pos h, prodL2, Int.natCast_mul]

set_option maxHeartbeats 1000000 in
theorem matmulTurned_yes (n K m : Nat) (xs ys : List Rat) (ha : chk [(n : Int), (K : Int)] = 0) (hb : chk [(K : Int), (m : Int)] = 0) (ho : chk [(n : Int), (m : Int)] = 0)
    (hxl : xs.length = n * K) (hyl : ys.length = K * m) (hxq : ∀ r ∈ xs, QB r 9) (hyq : ∀ r ∈ ys, QB r 9) :
    Pure Tryz.prog 4 [argT [(n : Int), (K : Int)] xs, argT [(K : Int), (m : Int)] ys] [.t (.bool true)] := by
  have hb0 : ∀ l, Lab.pool l = false → (fun _ => none : Heap) l = none := fun _ _ => rfl
  have hm := mdims2 ha hb ho
  have hm2 := mdims2 (chk2_swap hb) (chk2_swap ha) (chk2_swap ho)
  have a1 := chk2.1 ha
  have b1 := chk2.1 hb
  have o1 := chk2.1 ho
  have xa : n * K ≤ 64 := by have := a1.2.2; rw [← Int.natCast_mul] at this; omega
  have xb : K * m ≤ 64 := by have := b1.2.2; rw [← Int.natCast_mul] at this; omega
  have xo : n * m ≤ 64 := by have := o1.2.2; rw [← Int.natCast_mul] at this; omega
  have hn0 : 0 < n := by omega
  have hm0 : 0 < m := by omega
  have hK0 : 0 < K := by omega
  have cs := same28_ok
  have cr := rightArgs_ok [([(n : Int), (K : Int)], xs), ([(K : Int), (m : Int)], ys)] (by simp) (by
    intro p hp
    simp only [List.mem_cons, List.not_mem_nil, or_false] at hp
    rcases hp with rfl | rfl
    · exact ⟨by simp, by dsimp only; omega, hxq⟩
    · exact ⟨by simp, by dsimp only; omega, hyq⟩)
  have cw := whole_ok ⟨[(n : Int), (K : Int)], xs.map scR⟩ ⟨[(K : Int), (m : Int)], ys.map scR⟩ (by simp) (by simp)
  rw [Ag_scR, Ag_scR] at cw
  have hwb : wholeB ⟨[(n : Int), (K : Int)], xs.map scR⟩ ⟨[(K : Int), (m : Int)], ys.map scR⟩ = true := by
    unfold wholeB
    rw [hm, cnt2 ha, cnt2 hb]
    simp [hxl, hyl]
  rw [hwb] at cw
  have hxc : (xs.length : Int) = cnt [(n : Int), (K : Int)] := by rw [cnt2 ha, hxl]
  have hyc : (ys.length : Int) = cnt [(K : Int), (m : Int)] := by rw [cnt2 hb, hyl]
  have q9 : ∀ {l : List Rat}, (∀ r ∈ l, QB r 9) → ∀ r ∈ l, QB r 1000 := fun h r hr => (h r hr).mono (by decide)
  have t1 := turned_ok K m ys hK0 hm0 xb hyl
  have t2 := turned_ok n K xs hn0 hK0 xa hxl
  have n1 := bankNew_ok (fun _ => none) 0 hb0 rfl
  have d1 := mdo_ok (upd (fun _ => none) (.obj 0) (some (bankO 0))) 1 0 0 _ _ _ xs ys (bank_hb hb0) (upd_same _ _ _) (by decide) hm hxc hyc (q9 hxq) (q9 hyq)
  rw [obj_up] at d1
  obtain ⟨k1, hk1⟩ : ∃ k1, kM [(n : Int), (K : Int)] [(n : Int), (m : Int)] 0 (cnt [(n : Int), (m : Int)]).toNat = k1 := ⟨_, rfl⟩
  rw [hk1] at d1
  have n2 := bankNew_ok (upd (fun _ => none) (.obj 0) (some (bankO k1))) 1 (bank_hb hb0) rfl
  have d2 := mdo_ok (upd (upd (fun _ => none) (.obj 0) (some (bankO k1))) (.obj 1) (some (bankO 0))) 2 1 0 _ _ _ (turnR K m ys) (turnR n K xs) (bank_hb (bank_hb hb0)) (upd_same _ _ _) (by decide) hm2
    (by rw [turnR_length, cnt2 (chk2_swap hb)]) (by rw [turnR_length, cnt2 (chk2_swap ha)]) (q9 (turnR_QB hyq (by decide) K m)) (q9 (turnR_QB hxq (by decide) n K))
  rw [obj_up] at d2
  obtain ⟨k2, hk2⟩ : ∃ k2, kM [(m : Int), (K : Int)] [(m : Int), (n : Int)] 0 (cnt [(m : Int), (n : Int)]).toNat = k2 := ⟨_, rfl⟩
  rw [hk2] at d2
  rw [cnt2 ho, Int.toNat_natCast] at d1
  rw [cnt2 (chk2_swap ho), Int.toNat_natCast] at d2
  have c1 := mdims_ok [(n : Int), (K : Int)] [(K : Int), (m : Int)] _ 0 (by simp) (by simp) hm
  have hvq := doM_QB (N := n * m) hm hxq hyq (by decide)
  have hwq := doM_QB (N := m * n) hm2 (turnR_QB hyq (by decide) K m) (turnR_QB hxq (by decide) n K) (by decide)
  have hvl := doM_length [(n : Int), (K : Int)] [(K : Int), (m : Int)] [(n : Int), (m : Int)] xs ys (n * m)
  have hprod := turn_prod n K m xs ys hm0 hn0
  obtain ⟨v, hv⟩ : ∃ v, doM [(n : Int), (K : Int)] [(K : Int), (m : Int)] [(n : Int), (m : Int)] xs ys (n * m) = v := ⟨_, rfl⟩
  obtain ⟨w, hw⟩ : ∃ w, doM [(m : Int), (K : Int)] [(K : Int), (n : Int)] [(m : Int), (n : Int)] (turnR K m ys) (turnR n K xs) (m * n) = w := ⟨_, rfl⟩
  rw [hv] at d1 hvq hvl hprod
  rw [hw] at d2 hwq hprod
  have t3 := turned_ok n m v hn0 hm0 xo hvl
  have ca := rAllR_ok (turnR n m v) w (by rw [turnR_length, Nat.mul_comm]; omega) (by rw [← hprod, turnR_length, Nat.mul_comm]; omega) (fun r hr => (turnR_QB hvq (by decide) n m r hr).mono (by decide)) (fun r hr => (hwq r hr).mono (by decide))
  rw [decide_eq_true hprod] at ca
  have wnm : IntKind.wrap .i64 ((n : Int) * m) = ((n * m : Nat) : Int) := by rw [← Int.natCast_mul, w64] <;> omega
  simp only [List.map_cons, List.map_nil, argT] at cr cw
  simp only [argT] at t1 t2 t3 d1 d2
  clear hv hw hprod hvq hwq hxc hyc hwb
  generalize turnR K m ys = yt at *
  generalize turnR n K xs = xt at *
  generalize turnR n m v = vt at *
  refine Pure.drop (h' := upd (upd (fun _ => none) (.obj 0) (some (bankO k1))) (.obj 1) (some (bankO k2))) (m' := 2) ?_ rfl
  refine Ret.intro Tryz.func4 rfl (rt := [4]) rfl (by simp [Tryz.ntmps4]) (by decide) (sites := fun _ => false) (bank_hb (bank_hb hb0)) (Keeps.none _) ?_
  unfold argT
  apply run_sound 200
  simp -implicitDefEqProofs +decide only [go_sem]
  refine CallG.pure _ Tryz.call15 (cr) (by simp only [List.all_cons, List.all_nil, noPtr, noPtrL, noPtr_sW, noPtr_sI, noPtr_sV, noPtrL_U, noPtrL_I, noPtrL_vT, I, List.map_cons, List.map_nil, Bool.and_true, Bool.and_self]) (by first | rfl | (simp only [go_sem]; done) | (simp only [go_sem]; rfl)) ?_
  apply run_sound 200
  simp -implicitDefEqProofs +decide only [go_sem]
  refine CallG.pure _ Tryz.call16 (cw) (by simp only [List.all_cons, List.all_nil, noPtr, noPtrL, noPtr_sW, noPtr_sI, noPtr_sV, noPtrL_U, noPtrL_I, noPtrL_vT, I, List.map_cons, List.map_nil, Bool.and_true, Bool.and_self]) (by first | rfl | (simp only [go_sem]; done) | (simp only [go_sem]; rfl)) ?_
  apply run_sound 200
  simp -implicitDefEqProofs +decide only [go_sem, sI]
  refine Goes.drawP mixed (Calm.of (by repeat first | exact Clean.und | refine Clean.upd ?_ rfl | refine Clean.upd ?_ (by simp only [cleanA, cleanL, ])) (by repeat first | exact HCalm.none | exact HCalm.hb hb | exact HCalm.hb (bank_hb hb) | refine HCalm.row ?_ | refine HCalm.box ?_ (by first | rfl | (simp only [cleanA, cleanL, ]; done) | assumption))) ?_
  simp -implicitDefEqProofs +decide only [go_sem]
  refine CallD.make _ [(.obj 0, bankO 0)] 1 Tryz.call18 n1 rfl hb0 (fun l hp => by cases l <;> first | rfl | cases hp) (fun _ _ => rfl) rfl (.inl (by simp)) ?_
  simp -implicitDefEqProofs +decide only [go_sem]
  refine CallD.make _ [(.obj 0, bankO k1)] 0 Tryz.call17 d1 rfl (bank_hb hb0) (by rintro (_ | _ | _ | _ | _) hp <;> first | (cases hp; done) | simp -implicitDefEqProofs +decide only [go_sem]) (fun l _ => (congrFun (obj_up _ 0 0 k1) l).symm) rfl (.inr rfl) ?_
  simp -implicitDefEqProofs +decide only [go_sem]
  refine ⟨.mk (by kernel_rfl), ?_⟩
  apply run_sound 200
  simp -implicitDefEqProofs +decide only [go_sem]
  refine Goes.drawP mixed (Calm.of (by repeat first | exact Clean.und | refine Clean.upd ?_ rfl | refine Clean.upd ?_ (by simp only [cleanA, cleanL, ])) (by repeat first | exact HCalm.none | exact HCalm.hb hb | exact HCalm.hb (bank_hb hb) | refine HCalm.row ?_ | refine HCalm.box ?_ (by first | rfl | (simp only [cleanA, cleanL, ]; done) | assumption))) ?_
  simp -implicitDefEqProofs +decide only [go_sem]
  refine CallD.make _ [(.obj 1, bankO 0)] 1 Tryz.call18 n2 rfl (bank_hb hb0) (by rintro (_ | _ | _ | _ | _) hp <;> first | (cases hp; done) | simp -implicitDefEqProofs +decide only [go_sem]) (fun _ _ => rfl) rfl (.inl (by simp)) ?_
  simp -implicitDefEqProofs +decide only [go_sem]
  refine CallD.pureS _ Tryz.call19 t1 (by simp only [List.all_cons, List.all_nil, noPtr, noPtrL, noPtr_sW, noPtr_sI, noPtr_sV, noPtrL_U, noPtrL_I, noPtrL_vT, I, List.map_cons, List.map_nil, Bool.and_true, Bool.and_self]) (by first | rfl | (simp only [go_sem]; done) | (simp only [go_sem]; rfl)) ?_
  simp -implicitDefEqProofs +decide only [go_sem]
  refine CallD.pureS _ Tryz.call19 t2 (by simp only [List.all_cons, List.all_nil, noPtr, noPtrL, noPtr_sW, noPtr_sI, noPtr_sV, noPtrL_U, noPtrL_I, noPtrL_vT, I, List.map_cons, List.map_nil, Bool.and_true, Bool.and_self]) (by first | rfl | (simp only [go_sem]; done) | (simp only [go_sem]; rfl)) ?_
  simp -implicitDefEqProofs +decide only [go_sem]
  refine CallD.make _ [(.obj 1, bankO k2)] 0 Tryz.call17 d2 rfl (bank_hb (bank_hb hb0)) (by rintro (_ | _ | _ | _ | _) hp <;> first | (cases hp; done) | simp -implicitDefEqProofs +decide only [go_sem]) (fun l _ => (congrFun (obj_up _ 1 0 k2) l).symm) rfl (.inr rfl) ?_
  simp -implicitDefEqProofs +decide only [go_sem]
  refine ⟨.mk (by kernel_rfl), ?_⟩
  apply run_sound 200
  simp -implicitDefEqProofs +decide only [go_sem]
  refine CallG.pureS _ Tryz.call10 (c1) (by first | rfl | (simp only [go_sem]; done) | (simp only [go_sem]; rfl)) (by first | rfl | (simp only [go_sem]; done) | (simp only [go_sem]; rfl)) ?_
  apply run_sound 200
  simp -implicitDefEqProofs +decide only [go_sem]
  have en : decide ((n : Int) ≠ (n : Int)) = false := by simp
  have em : decide ((m : Int) ≠ (m : Int)) = false := by simp
  have ev : decide (((n * m : Nat) : Int) ≠ ((n * m : Nat) : Int)) = false := by simp
  refine Goes.drawN mixed ?_
  simp -implicitDefEqProofs +decide only [go_sem, I, sV, List.length_map, hvl, wnm, en, em, ev]
  refine ⟨.mk (by kernel_rfl), ?_⟩
  apply run_sound 200
  simp only [sI, sV, List.map_cons, List.map_nil, I] at t3
  simp only [sV] at ca
  simp -implicitDefEqProofs +decide only [go_sem, I]
  refine CallG.pureS _ Tryz.call19 (t3) (by simp only [List.all_cons, List.all_nil, noPtr, noPtrL, noPtr_sW, noPtr_sI, noPtr_sV, noPtrL_U, noPtrL_I, noPtrL_vT, I, List.map_cons, List.map_nil, Bool.and_true, Bool.and_self]) (by first | rfl | (simp only [go_sem]; done) | (simp only [go_sem]; rfl)) ?_
  apply run_sound 200
  simp -implicitDefEqProofs +decide only [go_sem]
  refine CallG.pure _ Tryz.call20 (ca) (by simp only [List.all_cons, List.all_nil, noPtr, noPtrL, noPtr_sW, noPtr_sI, noPtr_sV, noPtrL_U, noPtrL_I, noPtrL_vT, I, List.map_cons, List.map_nil, Bool.and_true, Bool.and_self]) (by first | rfl | (simp only [go_sem]; done) | (simp only [go_sem]; rfl)) ?_
  apply run_sound 200
  simp -implicitDefEqProofs +decide only [go_sem]
  refine CallG.pure _ Tryz.call9 (cs) (by first | rfl | (simp only [go_sem]; done) | (simp only [go_sem]; rfl)) (by first | rfl | (simp only [go_sem]; done) | (simp only [go_sem]; rfl)) ?_
  apply run_sound 200
  simp -implicitDefEqProofs +decide only [go_sem]
  exact endF.vals [(4, .bool true)] (.inr rfl) (vals_t (by first | rfl | (simp -implicitDefEqProofs +decide only [go_sem]; done) | (simp -implicitDefEqProofs +decide only [go_sem]; rfl)) rfl vals_nil) (by rintro (_ | _ | _ | _ | _) hp <;> first | (cases hp; done) | simp -implicitDefEqProofs +decide only [go_sem]) rfl

theorem short_of {l : List Ag} (h : argsB l = false) : l.length ≤ 6 ∧ ∀ a ∈ l, a.d.length ≤ 20 ∧ a.v.length ≤ 100 ∧ wideB 9 a.v = false := by
  unfold argsB at h
  rw [Bool.or_eq_false_iff, List.any_eq_false] at h
  refine ⟨by have := of_decide_eq_false h.2; omega, fun a ha => ?_⟩
  have := h.1 a ha
  unfold agB at this
  simp only [Bool.or_eq_true, decide_eq_true_eq, not_or] at this
  exact ⟨by omega, by omega, by simpa using this.2⟩
theorem argsSOK {l : List Ag} (hw : ∀ a ∈ l, ∀ s ∈ a.v, WOK s.x.p ∧ WOK s.x.q) : argsB l = false → ∀ a ∈ l, ∀ s ∈ a.v, SOK s 1000 := fun h a ha s hs => by
  have := wide_SOK ((short_of h).2 a ha).2.2 (hw a ha) s hs
  exact ⟨this.p, this.q, by have := this.lp; omega, by have := this.lq; omega⟩
/-- What right operands are. -/
theorem rightNum {a : Ag} (hw : ∀ s ∈ a.v, WOK s.x.p ∧ WOK s.x.q) (h : a.v.all rightB = true) (hs : wideB 9 a.v = false) : ∃ xs : List Rat, a.v = xs.map scR ∧ ∀ r ∈ xs, QB r 9 := by
  obtain ⟨xs, hxs⟩ := right_list hw h
  rw [hxs] at hs
  exact ⟨xs, hxs, wide_QB hs⟩

theorem matmulTurned_ok (x y : Ag) (hx : ∀ s ∈ x.v, WOK s.x.p ∧ WOK s.x.q) (hy : ∀ s ∈ y.v, WOK s.x.p ∧ WOK s.x.q) : Pure Tryz.prog 4 [x.T, y.T] [.t (.bool true)] := by
  have cs := same28_ok
  have hw : ∀ a ∈ [x, y], ∀ s ∈ a.v, WOK s.x.p ∧ WOK s.x.q := by
    intro a ha
    simp only [List.mem_cons, List.not_mem_nil, or_false] at ha
    rcases ha with rfl | rfl
    · exact hx
    · exact hy
  have cr := argsRight_ok [x, y] (by simp) (argsSOK hw)
  obtain ⟨b, hb⟩ : ∃ b, (!argsB [x, y] && [x, y].all fun a => a.v.all rightB) = b := ⟨_, rfl⟩
  rw [hb] at cr
  simp only [sA, List.map_cons, List.map_nil, Ag.T] at cr
  cases b with
  | false =>
    refine Pure.intro Tryz.func4 rfl (rt := [4]) rfl (by simp [Tryz.ntmps4]) (by decide) (sites := fun _ => false) ?_
    apply run_sound 200
    simp -implicitDefEqProofs +decide only [go_sem, Ag.T]
    refine CallG.pure _ Tryz.call15 cr (by simp only [List.all_cons, List.all_nil, noPtr, noPtrL, noPtr_sI, noPtr_sS, Bool.and_self]) (by first | rfl | (simp only [go_sem]; done) | (simp only [go_sem]; rfl)) ?_
    apply run_sound 200
    simp -implicitDefEqProofs +decide only [go_sem]
    refine CallG.pure _ Tryz.call9 (cs) (by first | rfl | (simp only [go_sem]; done) | (simp only [go_sem]; rfl)) (by first | rfl | (simp only [go_sem]; done) | (simp only [go_sem]; rfl)) ?_
    apply run_sound 200
    simp -implicitDefEqProofs +decide only [go_sem]
    exact endF.vals [(4, .bool true)] (.inr rfl) (vals_t (by simp -implicitDefEqProofs +decide only [go_sem] <;> rfl) rfl vals_nil) (fun l hp => by cases l <;> first | rfl | cases hp) rfl
  | true =>
    rw [Bool.and_eq_true] at hb
    obtain ⟨hb1, hb2⟩ := hb
    have hb1 : argsB [x, y] = false := by simpa using hb1
    obtain ⟨_, hsh⟩ := short_of hb1
    obtain ⟨x1, x2, x3⟩ := hsh x (by simp)
    obtain ⟨y1, y2, y3⟩ := hsh y (by simp)
    simp only [List.all_cons, List.all_nil, Bool.and_true, Bool.and_eq_true] at hb2
    obtain ⟨xs, hxs, hxq⟩ := rightNum hx hb2.1 x3
    obtain ⟨ys, hys, hyq⟩ := rightNum hy hb2.2 y3
    have cw := whole_ok x y (by omega) (by omega)
    obtain ⟨w, hw⟩ : ∃ w, wholeB x y = w := ⟨_, rfl⟩
    rw [hw] at cw
    by_cases hyes : w = true ∧ x.d.length = 2 ∧ y.d.length = 2
    · obtain ⟨rfl, hx2, hy2⟩ := hyes
      obtain ⟨xd, xv⟩ := x
      obtain ⟨yd, yv⟩ := y
      dsimp only at *
      obtain ⟨n, K, rfl⟩ := two_list hx2
      obtain ⟨K', m, rfl⟩ := two_list hy2
      subst hxs hys
      unfold wholeB at hw
      simp only [Bool.and_eq_true, decide_eq_true_eq] at hw
      obtain ⟨w1, w2, w3⟩ := hw
      obtain ⟨out, hout⟩ : ∃ out, mdims [n, K] [K', m] = (out, 0) := ⟨_, Prod.ext rfl w1⟩
      obtain ⟨rfl, rfl⟩ := mdims2_inv hout
      have H := mdims_inv hout
      have ka := chk2.1 H.ca
      have kb := chk2.1 H.cb
      obtain ⟨n', rfl⟩ : ∃ k : Nat, n = k := ⟨n.toNat, by omega⟩
      obtain ⟨K'', rfl⟩ : ∃ k : Nat, K' = k := ⟨K'.toNat, by omega⟩
      obtain ⟨m', rfl⟩ : ∃ k : Nat, m = k := ⟨m.toNat, by omega⟩
      rw [cnt2 H.ca, List.length_map] at w2
      rw [cnt2 H.cb, List.length_map] at w3
      rw [Ag_scR, Ag_scR]
      exact matmulTurned_yes n' K'' m' xs ys H.ca H.cb H.co (by omega) (by omega) hxq hyq
    · simp only [Ag.T] at cw
      refine Pure.intro Tryz.func4 rfl (rt := [4]) rfl (by simp [Tryz.ntmps4]) (by decide) (sites := fun _ => false) ?_
      apply run_sound 200
      simp -implicitDefEqProofs +decide only [go_sem, Ag.T]
      refine CallG.pure _ Tryz.call15 cr (by simp only [List.all_cons, List.all_nil, noPtr, noPtrL, noPtr_sI, noPtr_sS, Bool.and_self]) (by first | rfl | (simp only [go_sem]; done) | (simp only [go_sem]; rfl)) ?_
      apply run_sound 200
      simp -implicitDefEqProofs +decide only [go_sem]
      refine CallG.pure _ Tryz.call16 cw (by simp only [List.all_cons, List.all_nil, noPtr, noPtrL, noPtr_sI, noPtr_sS, Bool.and_self]) (by first | rfl | (simp only [go_sem]; done) | (simp only [go_sem]; rfl)) ?_
      apply run_sound 200
      have h1 : decide ((x.d.length : Int) ≠ 2) = !decide (x.d.length = 2) := by rw [← decide_not]; exact decide_eq_decide.2 (by omega)
      have h2 : decide ((y.d.length : Int) ≠ 2) = !decide (y.d.length = 2) := by rw [← decide_not]; exact decide_eq_decide.2 (by omega)
      cases w
      · skip
        simp -implicitDefEqProofs +decide only [go_sem]
        refine CallG.pure _ Tryz.call9 (cs) (by first | rfl | (simp only [go_sem]; done) | (simp only [go_sem]; rfl)) (by first | rfl | (simp only [go_sem]; done) | (simp only [go_sem]; rfl)) ?_
        apply run_sound 200
        simp -implicitDefEqProofs +decide only [go_sem]
        exact endF.vals [(4, .bool true)] (.inr rfl) (vals_t (by simp -implicitDefEqProofs +decide only [go_sem] <;> rfl) rfl vals_nil) (fun l hp => by cases l <;> first | rfl | cases hp) rfl
      · by_cases e1 : x.d.length = 2
        · have e2 : ¬ y.d.length = 2 := fun h => hyes ⟨rfl, e1, h⟩
          rw [decide_eq_true e1] at h1
          rw [decide_eq_false e2] at h2
          simp -implicitDefEqProofs +decide only [go_sem, sI, List.length_map, h1, h2]
          refine CallG.pure _ Tryz.call9 (cs) (by first | rfl | (simp only [go_sem]; done) | (simp only [go_sem]; rfl)) (by first | rfl | (simp only [go_sem]; done) | (simp only [go_sem]; rfl)) ?_
          apply run_sound 200
          simp -implicitDefEqProofs +decide only [go_sem]
          exact endF.vals [(4, .bool true)] (.inr rfl) (vals_t (by simp -implicitDefEqProofs +decide only [go_sem] <;> rfl) rfl vals_nil) (fun l hp => by cases l <;> first | rfl | cases hp) rfl
        · rw [decide_eq_false e1] at h1
          simp -implicitDefEqProofs +decide only [go_sem, sI, List.length_map, h1]
          refine CallG.pure _ Tryz.call9 (cs) (by first | rfl | (simp only [go_sem]; done) | (simp only [go_sem]; rfl)) (by first | rfl | (simp only [go_sem]; done) | (simp only [go_sem]; rfl)) ?_
          apply run_sound 200
          simp -implicitDefEqProofs +decide only [go_sem]
          exact endF.vals [(4, .bool true)] (.inr rfl) (vals_t (by simp -implicitDefEqProofs +decide only [go_sem] <;> rfl) rfl vals_nil) (fun l hp => by cases l <;> first | rfl | cases hp) rfl
end Go.Fm
