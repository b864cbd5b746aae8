/- Copies; whether scalars are not too long; dims that can be spread. -/
import Derived.Test.YtjgkdkbmppaaaaaGreatLawW
import Derived.Test.YtjgkdkbmppaaaaaGreatMulW
set_option linter.unusedVariables false
set_option linter.unusedSimpArgs false
namespace Go.Fm
open Go.Proofs
set_option maxRecDepth 100000
attribute [local irreducible] tiOf

theorem copied_ok (x : Rt) (hp : x.p.length < 1000000000) (hq : x.q.length < 1000000000) : Pure Tryz.prog 94 [x.T] [.t x.T] := by
  obtain ⟨n, p, q⟩ := x
  dsimp only at hp hq
  have b1 : p.length < big := by unfold big; omega
  have b2 : q.length < big := by unfold big; omega
  have t1 : List.take p.length (p.map U) = p.map U := List.take_of_length_le (by simp)
  have t2 : List.take q.length (q.map U) = q.map U := List.take_of_length_le (by simp)
  refine Pure.introC Tryz.func94 rfl (rv := [.c 2 _]) rfl (by simp [Tryz.ntmps94]) (by decide) (sites := fun _ => false) ?_
  apply run_sound 200
  simp -implicitDefEqProofs +decide only [go_sem, Rt.T, rT, sW]
  refine Goes.drawN mixed ?_
  simp -implicitDefEqProofs +decide only [go_sem, b1, b2, t1, t2, List.length_map, Nat.zero_add, List.nil_append]
  refine ⟨.mk (by kernel_rfl), ?_⟩
  apply run_sound 200
  simp -implicitDefEqProofs +decide only [go_sem]
  exact endC.one (.inr rfl) (by first | rfl | (simp -implicitDefEqProofs +decide only [go_sem, valC, Rt.T, rT, sW, t1, t2]; done) | (simp -implicitDefEqProofs +decide only [go_sem, valC, Rt.T, rT, sW, t1, t2]; rfl)) (by first | rfl | (simp -implicitDefEqProofs +decide only [go_sem, Rt.T, rT, sW, t1, t2]; done) | (simp -implicitDefEqProofs +decide only [go_sem, Rt.T, rT, sW, t1, t2]; rfl)) (fun l hp => by cases l <;> first | rfl | cases hp) rfl
theorem copy_ok (s : Sc) (h : ScB 1000000000 s) : Pure Tryz.prog 59 [s.T] [.t s.T] := by
  have c := copied_ok s.x h.1 h.2
  obtain ⟨⟨n, p, q⟩, b, f⟩ := s
  simp only [Rt.T, rT, sW] at c
  refine Pure.introC Tryz.func59 rfl (rv := [.c 2 _]) rfl (by simp [Tryz.ntmps59]) (by decide) (sites := fun _ => false) ?_
  apply run_sound 200
  simp -implicitDefEqProofs +decide only [go_sem, Sc.T_eq, sW]
  refine Goes.drawN mixed ?_
  simp -implicitDefEqProofs +decide only [go_sem]
  refine CallD.pureS _ Tryz.call94 c (by first | rfl | (simp only [go_sem]; done) | (simp only [go_sem]; rfl)) (by first | rfl | (simp only [go_sem]; done) | (simp only [go_sem]; rfl)) ?_
  simp -implicitDefEqProofs +decide only [go_sem]
  refine ⟨.mk (by kernel_rfl), ?_⟩
  apply run_sound 200
  simp -implicitDefEqProofs +decide only [go_sem]
  exact endC.one (.inr rfl) (by first | rfl | (simp -implicitDefEqProofs +decide only [go_sem, valC, Sc.T_eq, sW]; done) | (simp -implicitDefEqProofs +decide only [go_sem, valC, Sc.T_eq, sW]; rfl)) (by first | rfl | (simp -implicitDefEqProofs +decide only [go_sem, Sc.T_eq, sW]; done) | (simp -implicitDefEqProofs +decide only [go_sem, Sc.T_eq, sW]; rfl)) (fun l hp => by cases l <;> first | rfl | cases hp) rfl
theorem copyR_ok (r : Rat) (h : QB r 10000000) : Pure Tryz.prog 59 [vT r] [.t (vT r)] := by
  have h1 := h.n
  have h2 := h.d
  exact copy_ok (scR r) ⟨by show (wordsOf r.num.natAbs).length < _; omega, by show (wordsOf r.den).length < _; omega⟩

/-- How many bits a number has. -/
def bitsR (r : Rat) : Nat := max (bitLen r.num.natAbs) (bitLen r.den)
theorem pbits_ok (r : Rat) (h : QB r 10000000) : Pure Tryz.prog 125 [(qR r).T] [.t (.int .i64 (bitsR r : Nat))] := by
  have h1 := h.n
  have h2 := h.d
  have c1 := natBits_ok (wordsOf r.num.natAbs) (WOK_wordsOf _) (by omega)
  have c2 := natBits_ok (wordsOf r.den) (WOK_wordsOf _) (by omega)
  rw [nv_wordsOf] at c1 c2
  rw [qT]
  unfold bitsR
  generalize wordsOf r.num.natAbs = p at *
  generalize wordsOf r.den = q at *
  generalize bitLen r.num.natAbs = x at *
  generalize bitLen r.den = y at *
  have hmx : (if x < y then (y : Int) else (x : Int)) = ((max x y : Nat) : Int) := by split <;> omega
  refine Pure.intro Tryz.func125 rfl (rt := [2]) rfl (by simp [Tryz.ntmps125]) (by decide) (sites := fun _ => false) ?_
  apply run_sound 200
  simp -implicitDefEqProofs +decide only [go_sem]
  refine Goes.drawN mixed ?_
  simp -implicitDefEqProofs +decide only [go_sem]
  refine CallD.pure _ Tryz.call118 c1 (by first | rfl | (simp only [go_sem]; done) | (simp only [go_sem]; rfl)) (by first | rfl | (simp only [go_sem]; done) | (simp only [go_sem]; rfl)) ?_
  simp -implicitDefEqProofs +decide only [go_sem]
  refine CallD.pure _ Tryz.call118 c2 (by first | rfl | (simp only [go_sem]; done) | (simp only [go_sem]; rfl)) (by first | rfl | (simp only [go_sem]; done) | (simp only [go_sem]; rfl)) ?_
  simp -implicitDefEqProofs +decide only [go_sem, hmx]
  refine ⟨.mk (by kernel_rfl), ?_⟩
  apply run_sound 200
  simp -implicitDefEqProofs +decide only [go_sem]
  exact endF.vals [(2, .int .i64 (max x y : Nat))] (.inr rfl) (vals_t (by simp -implicitDefEqProofs +decide only [go_sem] <;> rfl) rfl vals_nil) (fun l hp => by cases l <;> first | rfl | cases hp) rfl
theorem bfits_ok (r : Rat) (h : QB r 10000000) : Pure Tryz.prog 95 [vT r] [.t (.bool (decide (bitsR r ≤ 512)))] := by
  have c := pbits_ok r h
  rw [qT] at c
  generalize bitsR r = b at *
  have hd : decide ((b : Int) ≤ 512) = decide (b ≤ 512) := decide_eq_decide.2 (by omega)
  rw [vT_eq]
  refine Pure.intro Tryz.func95 rfl (rt := [2]) rfl (by simp [Tryz.ntmps95]) (by decide) (sites := fun _ => false) ?_
  apply run_sound 200
  simp -implicitDefEqProofs +decide only [go_sem]
  refine CallG.pure _ Tryz.call125 (c) (by first | rfl | (simp only [go_sem]; done) | (simp only [go_sem]; rfl)) (by first | rfl | (simp only [go_sem]; done) | (simp only [go_sem]; rfl)) ?_
  apply run_sound 200
  simp -implicitDefEqProofs +decide only [go_sem, hd]
  exact endF.vals [(2, .bool (decide (b ≤ 512)))] (.inr rfl) (vals_t (by simp -implicitDefEqProofs +decide only [go_sem] <;> rfl) rfl vals_nil) (fun l hp => by cases l <;> first | rfl | cases hp) rfl

theorem equalI_ok (a b : List Int) (ha : a.length < 1000000000) : Pure Tryz.prog 149 [sI a, sI b] [.t (.bool (decide (a = b)))] := by
  refine Pure.intro Tryz.func149 rfl (rt := [4]) rfl (by simp [Tryz.ntmps149]) (by decide) (sites := fun _ => false) ?_
  apply run_sound 200
  simp -implicitDefEqProofs +decide only [go_sem, sI]
  refine selP_dec (fun h1 => ?_) (fun h1 => ?_)
  · have : decide (a = b) = false := decide_eq_false (fun e => by subst e; exact h1 rfl)
    rw [this]
    simp -implicitDefEqProofs +decide only [go_sem]
    exact endF.vals [(4, .bool false)] (.inr rfl) (vals_t (by simp -implicitDefEqProofs +decide only [go_sem] <;> rfl) rfl vals_nil) (fun l hp => by cases l <;> first | rfl | cases hp) rfl
  have hl : a.length = b.length := by omega
  simp -implicitDefEqProofs +decide only [go_sem]
  refine Goes.loop (X := Nat) (fun i => ⟨ofL [(0, tI a), (1, tI b), (12, .t (.int .i64 a.length)), (13, .t (.int .i64 i))], fun _ => none, 0⟩) (fun i => i ≤ a.length ∧ a.take i = b.take i) (fun i => a.length - i) 0 ?_ (by simp) ?_
  · exact (Wk.slots _ rfl rfl (by simp -implicitDefEqProofs +decide only [go_sem, tI, sI]) (by simp -implicitDefEqProofs +decide only [go_sem, tI, sI]))
  rintro i ⟨hi, he⟩ J hJ
  apply run_sound 200
  simp -implicitDefEqProofs +decide only [go_sem, tI, sI]
  refine selP_dec (fun hc => ?_) (fun hc => ?_)
  · obtain ⟨x, hx⟩ := getI (show i < a.length by omega)
    obtain ⟨y, hy⟩ := getI (show i < b.length by omega)
    have hw := wS (show i < 1000000000000 by omega)
    simp -implicitDefEqProofs +decide only [go_sem]
    refine Goes.drawN mixed ?_
    simp -implicitDefEqProofs +decide only [go_sem, tI, sI, I, hx, hy]
    refine ⟨.mk (by kernel_rfl), ?_⟩
    apply run_sound 200
    simp -implicitDefEqProofs +decide only [go_sem]
    refine selP_dec (fun h2 => ?_) (fun h2 => ?_)
    · have : decide (a = b) = false := decide_eq_false (fun e => by subst e; rw [hx] at hy; cases hy; exact h2 rfl)
      rw [this]
      simp -implicitDefEqProofs +decide only [go_sem]
      exact endF.vals [(4, .bool false)] (.inr rfl) (vals_t (by simp -implicitDefEqProofs +decide only [go_sem] <;> rfl) rfl vals_nil) (fun l hp => by cases l <;> first | rfl | cases hp) rfl
    · obtain rfl : x = y := by simpa using h2
      simp -implicitDefEqProofs +decide only [go_sem, hw]
      refine hJ (i + 1) _ ⟨by omega, by rw [take_snoc hx, take_snoc hy, he]⟩ (by omega) (Wk.slots _ rfl rfl (by simp -implicitDefEqProofs +decide only [go_sem, tI, sI, hw]) (by simp -implicitDefEqProofs +decide only [go_sem, tI, sI, hw]))
  · have : decide (a = b) = true := decide_eq_true (eq_take hl he (by omega))
    rw [this]
    simp -implicitDefEqProofs +decide only [go_sem]
    exact endF.vals [(4, .bool true)] (.inr rfl) (vals_t (by simp -implicitDefEqProofs +decide only [go_sem] <;> rfl) rfl vals_nil) (fun l hp => by cases l <;> first | rfl | cases hp) rfl
theorem sameI_ok (a b : List Int) (ha : a.length < 1000000000) : Pure Tryz.prog 114 [sI a, sI b] [.t (.bool (decide (a = b)))] := by
  have c := equalI_ok a b ha
  generalize decide (a = b) = v at *
  refine Pure.intro Tryz.func114 rfl (rt := [4]) rfl (by simp [Tryz.ntmps114]) (by decide) (sites := fun _ => false) ?_
  apply run_sound 200
  simp -implicitDefEqProofs +decide only [go_sem]
  refine CallG.pure _ Tryz.call149 (c) (by first | rfl | (simp only [go_sem]; done) | (simp only [go_sem]; rfl)) (by first | rfl | (simp only [go_sem]; done) | (simp only [go_sem]; rfl)) ?_
  apply run_sound 200
  simp -implicitDefEqProofs +decide only [go_sem]
  exact endF.one (.inr rfl) (by simp -implicitDefEqProofs +decide only [go_sem]) rfl (fun _ _ => rfl) rfl

theorem fits_ok (a b : List Int) (ha : a.length < 1000000000) (hb : b.length < 1000000000) : Pure Tryz.prog 89 [sI a, sI b] [.t (.bool (decide (twoS a b = (b, 0))))] := by
  have hl := twoS_length a b
  have c0 := fun e h he => two_no a b ha hb (e := e) h he
  have c1 := two_ok a b ha hb
  obtain ⟨l, e, hle⟩ : ∃ l e, twoS a b = (l, e) := ⟨_, _, rfl⟩
  rw [hle] at hl c0 c1 ⊢
  unfold rankD at hl
  dsimp only at hl c0 c1
  by_cases he : e = 0
  · subst he
    have c1 := c1 rfl
    have c2 := sameI_ok l b (by omega)
    have : decide ((l, (0 : Int)) = (b, 0)) = decide (l = b) := decide_eq_decide.2 ⟨fun h => (Prod.mk.inj h).1, fun h => by rw [h]⟩
    rw [this]
    generalize decide (l = b) = v at *
    simp only [sI] at c2
    refine Pure.intro Tryz.func89 rfl (rt := [4]) rfl (by simp [Tryz.ntmps89]) (by decide) (sites := fun _ => false) ?_
    apply run_sound 200
    simp -implicitDefEqProofs +decide only [go_sem, sI]
    refine CallG.pure _ Tryz.call36 (c1) (by first | rfl | (simp only [go_sem]; done) | (simp only [go_sem]; rfl)) (by first | rfl | (simp only [go_sem]; done) | (simp only [go_sem]; rfl)) ?_
    apply run_sound 200
    simp -implicitDefEqProofs +decide only [go_sem]
    refine CallG.pure _ Tryz.call114 (c2) (by first | rfl | (simp only [go_sem]; done) | (simp only [go_sem]; rfl)) (by first | rfl | (simp only [go_sem]; done) | (simp only [go_sem]; rfl)) ?_
    apply run_sound 200
    simp -implicitDefEqProofs +decide only [go_sem]
    exact endF.one (.inr rfl) (by simp -implicitDefEqProofs +decide only [go_sem]) rfl (fun _ _ => rfl) rfl
  · have c0 := c0 e rfl he
    have : decide ((l, e) = (b, 0)) = false := decide_eq_false fun hh => he (Prod.mk.inj hh).2
    rw [this]
    have d0 : decide (e = 0) = false := decide_eq_false he
    refine Pure.intro Tryz.func89 rfl (rt := [4]) rfl (by simp [Tryz.ntmps89]) (by decide) (sites := fun _ => false) ?_
    apply run_sound 200
    simp -implicitDefEqProofs +decide only [go_sem, sI]
    refine CallG.pureS _ Tryz.call36 (c0) (by first | rfl | (simp only [go_sem]; done) | (simp only [go_sem]; rfl)) (by first | rfl | (simp only [go_sem]; done) | (simp only [go_sem]; rfl)) ?_
    apply run_sound 200
    simp -implicitDefEqProofs +decide only [go_sem, d0]
    exact endF.one (.inr rfl) (by simp -implicitDefEqProofs +decide only [go_sem]) rfl (fun _ _ => rfl) rfl
end Go.Fm
/- Which element is spread to a place. -/
namespace Go.Fm
open Go.Proofs
set_option maxRecDepth 100000
attribute [local irreducible] tiOf

/-- The place, with what stands at dims of 1 set to 0, up to one. -/
def zerosL (f D : List Int) (o k : Nat) : List Int := (List.range D.length).map fun j => if o ≤ j ∧ j - o < k ∧ f.getD (j - o) 0 = 1 then 0 else D.getD j 0
theorem zerosL_length (f D : List Int) (o k : Nat) : (zerosL f D o k).length = D.length := by simp [zerosL]
theorem zerosL_get {f D : List Int} {o k j : Nat} (h : j < D.length) : (zerosL f D o k)[j]? = some (if o ≤ j ∧ j - o < k ∧ f.getD (j - o) 0 = 1 then 0 else D.getD j 0) := by simp [zerosL, h]
theorem zerosL_zero (f D : List Int) (o : Nat) : zerosL f D o 0 = D := by
  apply List.ext_getElem?
  intro j
  rcases Nat.lt_or_ge j D.length with h | h
  · rw [zerosL_get h, if_neg (by omega), List.getD_eq_getElem?_getD, List.getElem?_eq_getElem h]; rfl
  · rw [List.getElem?_eq_none h, List.getElem?_eq_none (by rw [zerosL_length]; exact h)]
theorem zerosL_set {f D : List Int} {o k : Nat} (h : o + k < D.length) (hf : f.getD k 0 = 1) : (zerosL f D o k).set (o + k) 0 = zerosL f D o (k + 1) := by
  apply List.ext_getElem?
  intro j
  rcases Nat.lt_or_ge j D.length with g | g
  · rw [List.getElem?_set, zerosL_get g, zerosL_get g, zerosL_length]
    by_cases e : o + k = j
    · subst e
      rw [if_pos rfl, if_pos g, if_pos ⟨by omega, by omega, by rw [show o + k - o = k by omega]; exact hf⟩]
    · rw [if_neg e]
      congr 1
      by_cases c : o ≤ j ∧ j - o < k ∧ f.getD (j - o) 0 = 1
      · rw [if_pos c, if_pos ⟨c.1, by omega, c.2.2⟩]
      · rw [if_neg c, if_neg (fun c' => c ⟨c'.1, by omega, c'.2.2⟩)]
  · rw [List.getElem?_eq_none (by simp [zerosL_length]; exact g), List.getElem?_eq_none (by rw [zerosL_length]; exact g)]
theorem zerosL_skip {f D : List Int} {o k : Nat} (hf : ¬ f.getD k 0 = 1) : zerosL f D o k = zerosL f D o (k + 1) := by
  unfold zerosL
  refine List.map_congr_left fun j _ => ?_
  by_cases c : o ≤ j ∧ j - o < k ∧ f.getD (j - o) 0 = 1
  · rw [if_pos c, if_pos ⟨c.1, by omega, c.2.2⟩]
  · rw [if_neg c, if_neg (fun c' => by
      rcases Nat.lt_or_ge (j - o) k with g | g
      · exact c ⟨c'.1, g, c'.2.2⟩
      · have : j - o = k := by omega
        rw [this] at c'
        exact hf c'.2.2)]
theorem zerosL_src {f t : List Int} {n : Int} (h : f.length ≤ t.length) : (zerosL f (digL t n) (t.length - f.length) f.length).drop (t.length - f.length) = srcS f t n := by
  apply List.ext_getElem?
  intro k
  rw [List.getElem?_drop]
  rcases Nat.lt_or_ge k f.length with g | g
  · obtain ⟨x, hx⟩ := getI g
    obtain ⟨y, hy⟩ := getI (show t.length - f.length + k < (digL t n).length by rw [digL_length]; omega)
    rw [zerosL_get (by rw [digL_length]; omega), srcS_get hx hy, getD_of hy, show t.length - f.length + k - (t.length - f.length) = k by omega, getD_of hx]
    by_cases e : x = 1
    · rw [if_pos ⟨by omega, g, e⟩, if_pos e]
    · rw [if_neg (fun c => e c.2.2), if_neg e]
  · rw [List.getElem?_eq_none (by rw [zerosL_length, digL_length]; omega), List.getElem?_eq_none (by rw [srcS_length]; exact g)]

theorem sourceP_ok (f t : List Int) (n : Int) (h : twoS f t = (t, 0)) (hn : 0 ≤ n ∧ n < cnt t) : Pure Tryz.prog 57 [sI f, sI t, .int .i64 n] [.t (.int .i64 (srcN f t n)), .t (.bool true)] := by
  have F := twoS_fit h
  have lf := (chk0 F.cf).1
  have lt := (chk0 F.ct).1
  have hfl := F.l
  have c1 := at_own t n (by omega) hn
  have c2 := fits_ok f t (by omega) (by omega)
  rw [decide_eq_true h] at c2
  have c3 := place_ok f (srcS f t n) (srcS_in F)
  have hdl := digL_length t n
  have hsrc := zerosL_src (n := n) hfl
  obtain ⟨o, ho⟩ : ∃ o, t.length - f.length = o := ⟨_, rfl⟩
  have wo : IntKind.wrap .i64 ((t.length : Int) - f.length) = (o : Int) := by rw [w64] <;> omega
  rw [ho] at hsrc
  have hole : o ≤ t.length := by omega
  have hto : t.length - o = f.length := by omega
  unfold srcN
  obtain ⟨D, hD⟩ : ∃ D, digL t n = D := ⟨_, rfl⟩
  rw [hD] at c1 hdl hsrc
  obtain ⟨sr, hsr⟩ : ∃ s, srcS f t n = s := ⟨_, rfl⟩
  rw [hsr] at c3 hsrc ⊢
  simp only [sI] at c1 c2 c3
  refine Pure.intro Tryz.func57 rfl (rt := [6, 7]) rfl (by simp [Tryz.ntmps57]) (by decide) (sites := fun _ => false) ?_
  apply run_sound 200
  simp -implicitDefEqProofs +decide only [go_sem, sI]
  refine CallG.pureAd _ 15 Tryz.call39 c1 (by first | rfl | (simp only [go_sem]; done) | (simp only [go_sem]; rfl)) (by simp only [List.all_cons, flatRC_ownI]; rfl) (fun j size es _ => by cases j <;> rfl) ?_
  apply run_sound 200
  simp -implicitDefEqProofs +decide only [go_sem]
  refine CallG.pure _ Tryz.call89 (c2) (by first | rfl | (simp only [go_sem]; done) | (simp only [go_sem]; rfl)) (by first | rfl | (simp only [go_sem]; done) | (simp only [go_sem]; rfl)) ?_
  apply run_sound 200
  simp -implicitDefEqProofs +decide only [go_sem, hdl, List.length_map, wo, hole, hto, Int.toNat_natCast]
  have hz0 := zerosL_zero f D o
  refine Goes.loop (X := Nat) (fun k => ⟨ofL [(0, tI f), (8, .sl (.loc 15 0) 0 o f.length), (33, tI f), (34, .t (.int .i64 f.length)), (35, .t (.int .i64 k))], ofH (fun _ => none) [(.loc 15 0, .arr 1 ((zerosL f D o k).map I) 0 0)], 0⟩) (fun k => k ≤ f.length) (fun k => f.length - k) 0 ?_ (by omega) ?_
  · exact (Wk.rows _ _ (fun _ _ => rfl) rfl rfl (by simp -implicitDefEqProofs +decide only [go_sem, ofH, tW, sW, hz0] <;> first | rfl | exact ⟨rfl, rfl⟩ | skip) (fun l hp => by cases l <;> first | rfl | cases hp) (by simp -implicitDefEqProofs +decide only [go_sem, tI, sI, tW, sW, hz0] <;> first | rfl | skip) (by simp -implicitDefEqProofs +decide only [go_sem, tI, sI, tW, sW]))
  rintro k hk J hJ
  apply run_sound 200
  simp -implicitDefEqProofs +decide only [go_sem, tI, sI]
  have hzl := zerosL_length f D o k
  refine selP_dec (fun hc => ?_) (fun hc => ?_)
  · obtain ⟨x, hx⟩ := getI (show k < f.length by omega)
    have hgd := getD_of hx
    have hw := wS (show k < 1000000000000 by omega)
    have hkl : k < f.length := by omega
    simp -implicitDefEqProofs +decide only [go_sem, hx, I]
    refine selP_dec (fun h1 => ?_) (fun h1 => ?_)
    · obtain ⟨z, hz⟩ : ∃ z, ((zerosL f D o k).map I)[o + k]? = some z := getI (by rw [List.length_map, hzl]; omega)
      have hst : ((zerosL f D o k).map I).set (o + k) (.int .i64 0) = (zerosL f D o (k + 1)).map I := by
        rw [← zerosL_set (by omega) (by rw [hgd]; exact h1), List.map_set]; rfl
      simp -implicitDefEqProofs +decide only [go_sem, ofH, hkl, hz, hst, hw]
      refine hJ (k + 1) _ (by omega) (by omega) (Wk.rows _ _ (fun _ _ => rfl) rfl rfl (by simp -implicitDefEqProofs +decide only [go_sem, ofH, tW, sW] <;> first | rfl | exact ⟨rfl, rfl⟩ | skip) (fun l hp => by cases l <;> first | rfl | cases hp) (by simp -implicitDefEqProofs +decide only [go_sem, tI, sI, tW, sW] <;> first | rfl | skip) (by simp -implicitDefEqProofs +decide only [go_sem, tI, sI, tW, sW]))
    · have hsk := zerosL_skip (f := f) (D := D) (o := o) (k := k) (by rw [hgd]; exact h1)
      simp -implicitDefEqProofs +decide only [go_sem, ofH, hw]
      refine hJ (k + 1) _ (by omega) (by omega) (Wk.rows _ _ (fun _ _ => rfl) rfl rfl (by simp -implicitDefEqProofs +decide only [go_sem, ofH, tW, sW, hsk] <;> first | rfl | exact ⟨rfl, rfl⟩ | skip) (fun l hp => by cases l <;> first | rfl | cases hp) (by simp -implicitDefEqProofs +decide only [go_sem, tI, sI, tW, sW, hsk] <;> first | rfl | skip) (by simp -implicitDefEqProofs +decide only [go_sem, tI, sI, tW, sW]))
  · obtain rfl : k = f.length := by omega
    have htk : List.take f.length (List.drop o ((zerosL f D o f.length).map I)) = sr.map I := by
      rw [← List.map_drop, hsrc, List.take_of_length_le (by rw [List.length_map, ← hsr, srcS_length]; exact Nat.le_refl _)]
    simp -implicitDefEqProofs +decide only [go_sem, ofH, htk]
    refine CallG.pure _ Tryz.call67 (c3) (by first | rfl | (simp only [go_sem]; done) | (simp only [go_sem]; rfl)) (by first | rfl | (simp only [go_sem]; done) | (simp only [go_sem]; rfl)) ?_
    apply run_sound 200
    simp -implicitDefEqProofs +decide only [go_sem]
    exact endF.vals [(6, .int .i64 (placeI f sr)), (7, .bool true)] (.inr rfl) (vals_t (by simp -implicitDefEqProofs +decide only [go_sem] <;> rfl) rfl (vals_t (by simp -implicitDefEqProofs +decide only [go_sem] <;> rfl) rfl vals_nil)) (fun l hp => by cases l <;> first | rfl | cases hp) rfl
end Go.Fm
/- Writes: what is wrong with one. -/
namespace Go.Fm
open Go.Proofs
set_option maxRecDepth 100000
attribute [local irreducible] tiOf

theorem wholeA_ok (a : Ag) (h : a.d.length < 1000000000) : Pure Tryz.prog 87 [a.T] [.t (.int .i64 (if (a.v.length : Int) = cnt a.d then 0 else 1))] := by
  have c := count_ok a.d h
  obtain ⟨d, v⟩ := a
  dsimp only at *
  simp only [sI] at c
  refine Pure.intro Tryz.func87 rfl (rt := [2]) rfl (by simp [Tryz.ntmps87]) (by decide) (sites := fun _ => false) ?_
  apply run_sound 200
  simp -implicitDefEqProofs +decide only [go_sem, Ag.T, sI, sS]
  refine Goes.drawN mixed ?_
  simp -implicitDefEqProofs +decide only [go_sem, List.length_map]
  refine CallD.pure _ Tryz.call45 c (by first | rfl | (simp only [go_sem]; done) | (simp only [go_sem]; rfl)) (by first | rfl | (simp only [go_sem]; done) | (simp only [go_sem]; rfl)) ?_
  simp -implicitDefEqProofs +decide only [go_sem]
  refine ⟨.mk (by kernel_rfl), ?_⟩
  apply run_sound 200
  simp -implicitDefEqProofs +decide only [go_sem]
  refine selP_dec (fun h1 => ?_) (fun h1 => ?_)
  · rw [if_neg h1]
    simp -implicitDefEqProofs +decide only [go_sem]
    exact endF.vals [(2, .int .i64 1)] (.inr rfl) (vals_t (by simp -implicitDefEqProofs +decide only [go_sem] <;> rfl) rfl vals_nil) (fun l hp => by cases l <;> first | rfl | cases hp) rfl
  · rw [if_pos (Classical.not_not.1 h1)]
    simp -implicitDefEqProofs +decide only [go_sem]
    exact endF.vals [(2, .int .i64 0)] (.inr rfl) (vals_t (by simp -implicitDefEqProofs +decide only [go_sem] <;> rfl) rfl vals_nil) (fun l hp => by cases l <;> first | rfl | cases hp) rfl

theorem wis_ok (op : Int) : Pure Tryz.prog 53 [.int .i64 op] [.t (.bool (decide (op ≥ 1) && decide (op ≤ 5))), .t (.bool (decide (op ≥ 1) && decide (op ≤ 3)))] := by
  obtain ⟨b1, h1⟩ : ∃ b, decide (op ≥ 1) = b := ⟨_, rfl⟩
  obtain ⟨b2, h2⟩ : ∃ b, decide (op ≤ 5) = b := ⟨_, rfl⟩
  obtain ⟨b3, h3⟩ : ∃ b, decide (op ≤ 3) = b := ⟨_, rfl⟩
  rw [h1, h2, h3]
  cases b1
  · simp only [Bool.false_and]
    refine Pure.intro Tryz.func53 rfl (rt := [2, 3]) rfl (by simp [Tryz.ntmps53]) (by decide) (sites := fun _ => false) ?_
    apply run_sound 200
    simp -implicitDefEqProofs +decide only [go_sem, h1]
    exact endF.vals [(2, .bool false), (3, .bool false)] (.inr rfl) (vals_t (by simp -implicitDefEqProofs +decide only [go_sem] <;> rfl) rfl (vals_t (by simp -implicitDefEqProofs +decide only [go_sem] <;> rfl) rfl vals_nil)) (fun l hp => by cases l <;> first | rfl | cases hp) rfl
  · simp only [Bool.true_and]
    refine Pure.intro Tryz.func53 rfl (rt := [2, 3]) rfl (by simp [Tryz.ntmps53]) (by decide) (sites := fun _ => false) ?_
    apply run_sound 200
    simp -implicitDefEqProofs +decide only [go_sem, h1, h2, h3]
    exact endF.vals [(2, .bool b2), (3, .bool b3)] (.inr rfl) (vals_t (by simp -implicitDefEqProofs +decide only [go_sem] <;> rfl) rfl (vals_t (by simp -implicitDefEqProofs +decide only [go_sem] <;> rfl) rfl vals_nil)) (fun l hp => by cases l <;> first | rfl | cases hp) rfl

/-- What a primitive is told. -/
structure Atr where
  n : Int
  a : Int
  b : Int
  c : Int
  p : Int
  q : Int
  r : Int
  s : Int
  keep : Bool
  list : List Int
def Atr.T (x : Atr) : T := .agg [I x.n, I x.a, I x.b, I x.c, I x.p, I x.q, I x.r, I x.s, .bool x.keep, sI x.list]
theorem noPtr_Atr (x : Atr) : noPtr x.T = true := by simp only [Atr.T, noPtr, noPtrL, I, noPtr_sI, Bool.and_self]
theorem noPtr_AtrU (n a b c p q r s : Int) (k : Bool) (l : List Int) : noPtr (.agg [.int .i64 n, .int .i64 a, .int .i64 b, .int .i64 c, .int .i64 p, .int .i64 q, .int .i64 r, .int .i64 s, .bool k, .slice (l.map I)]) = true := noPtr_Atr ⟨n, a, b, c, p, q, r, s, k, l⟩
attribute [go_sem] noPtr_Atr noPtr_AtrU

/-- What is wrong with a write that has a source. -/
noncomputable def wchk (to frm : Ag) : Int := if chk to.d ≠ 0 then chk to.d else if (to.v.length : Int) ≠ cnt to.d then 1 else if chk frm.d ≠ 0 then chk frm.d else if (frm.v.length : Int) ≠ cnt frm.d then 1 else if twoS frm.d to.d ≠ (to.d, 0) then 8 else 0
theorem check_w (op : Int) (x : Atr) (to frm : Ag) (ht : to.d.length < 1000000000) (hf : frm.d.length < 1000000000) (h1 : 1 ≤ op) (h3 : op ≤ 3) : Pure Tryz.prog 54 [.int .i64 op, x.T, to.T, frm.T] [.t (.int .i64 (wchk to frm))] := by
  have ci := wis_ok op
  rw [decide_eq_true h1, decide_eq_true h3, decide_eq_true (show op ≤ 5 by omega)] at ci
  have c1 := check_ok to.d ht
  have c2 := wholeA_ok to ht
  have c3 := check_ok frm.d hf
  have c4 := wholeA_ok frm hf
  have c5 := fits_ok frm.d to.d hf ht
  obtain ⟨v, hv⟩ : ∃ v, wchk to frm = v := ⟨_, rfl⟩
  unfold wchk at hv
  obtain ⟨d, l⟩ := to
  obtain ⟨e, k⟩ := frm
  obtain ⟨n, a, b, c, p, q, r, s, kp, li⟩ := x
  dsimp only at *
  simp only [Ag.T, sI, sS] at c1 c2 c3 c4 c5
  have hvv : wchk ⟨d, l⟩ ⟨e, k⟩ = v := by unfold wchk; exact hv
  rw [hvv]
  refine Pure.intro Tryz.func54 rfl (rt := [8]) rfl (by simp [Tryz.ntmps54]) (by decide) (sites := fun _ => false) ?_
  apply run_sound 200
  simp -implicitDefEqProofs +decide only [go_sem, Ag.T, sI, sS, Atr.T, I]
  refine CallG.pure _ Tryz.call53 (ci) (by first | rfl | (simp only [go_sem]; done) | (simp only [go_sem]; rfl)) (by first | rfl | (simp only [go_sem]; done) | (simp only [go_sem]; rfl)) ?_
  apply run_sound 200
  simp -implicitDefEqProofs +decide only [go_sem]
  refine CallG.pure _ Tryz.call35 (c1) (by first | rfl | (simp only [go_sem]; done) | (simp only [go_sem]; rfl)) (by first | rfl | (simp only [go_sem]; done) | (simp only [go_sem]; rfl)) ?_
  apply run_sound 200
  simp -implicitDefEqProofs +decide only [go_sem]
  refine selP_dec (fun g1 => ?_) (fun g1 => ?_)
  · rw [if_pos g1] at hv
    subst hv
    simp -implicitDefEqProofs +decide only [go_sem]
    exact endF.vals [(8, .int .i64 (chk d))] (.inr rfl) (vals_t (by simp -implicitDefEqProofs +decide only [go_sem] <;> rfl) rfl vals_nil) (fun l hp => by cases l <;> first | rfl | cases hp) rfl
  rw [if_neg g1] at hv
  simp -implicitDefEqProofs +decide only [go_sem]
  refine CallG.pure _ Tryz.call87 c2 (by simp only [List.all_cons, List.all_nil, noPtr, noPtrL, noPtrL_I, noPtrL_Sc, Bool.and_self]) (by first | rfl | (simp only [go_sem]; done) | (simp only [go_sem]; rfl)) ?_
  apply run_sound 200
  by_cases g2 : (l.length : Int) = cnt d
  · rw [if_pos g2] at c2 ⊢
    rw [if_neg (fun h => h g2)] at hv
    simp -implicitDefEqProofs +decide only [go_sem]
    refine CallG.pure _ Tryz.call35 (c3) (by first | rfl | (simp only [go_sem]; done) | (simp only [go_sem]; rfl)) (by first | rfl | (simp only [go_sem]; done) | (simp only [go_sem]; rfl)) ?_
    apply run_sound 200
    simp -implicitDefEqProofs +decide only [go_sem]
    refine selP_dec (fun g3 => ?_) (fun g3 => ?_)
    · rw [if_pos g3] at hv
      subst hv
      simp -implicitDefEqProofs +decide only [go_sem]
      exact endF.vals [(8, .int .i64 (chk e))] (.inr rfl) (vals_t (by simp -implicitDefEqProofs +decide only [go_sem] <;> rfl) rfl vals_nil) (fun l hp => by cases l <;> first | rfl | cases hp) rfl
    rw [if_neg g3] at hv
    simp -implicitDefEqProofs +decide only [go_sem]
    refine CallG.pure _ Tryz.call87 c4 (by simp only [List.all_cons, List.all_nil, noPtr, noPtrL, noPtrL_I, noPtrL_Sc, Bool.and_self]) (by first | rfl | (simp only [go_sem]; done) | (simp only [go_sem]; rfl)) ?_
    apply run_sound 200
    by_cases g4 : (k.length : Int) = cnt e
    · rw [if_pos g4]
      rw [if_neg (fun h => h g4)] at hv
      simp -implicitDefEqProofs +decide only [go_sem]
      refine CallG.pure _ Tryz.call89 (c5) (by first | rfl | (simp only [go_sem]; done) | (simp only [go_sem]; rfl)) (by first | rfl | (simp only [go_sem]; done) | (simp only [go_sem]; rfl)) ?_
      apply run_sound 200
      simp -implicitDefEqProofs +decide only [go_sem]
      by_cases g5 : twoS e d = (d, 0)
      · rw [if_neg (fun h => h g5)] at hv
        subst hv
        have t5 : decide (twoS e d = (d, 0)) = true := decide_eq_true g5
        simp -implicitDefEqProofs +decide only [go_sem, t5]
        exact endF.vals [(8, .int .i64 0)] (.inr rfl) (vals_t (by simp -implicitDefEqProofs +decide only [go_sem] <;> rfl) rfl vals_nil) (fun l hp => by cases l <;> first | rfl | cases hp) rfl
      · rw [if_pos g5] at hv
        subst hv
        have t5 : decide (twoS e d = (d, 0)) = false := decide_eq_false g5
        simp -implicitDefEqProofs +decide only [go_sem, t5]
        exact endF.vals [(8, .int .i64 8)] (.inr rfl) (vals_t (by simp -implicitDefEqProofs +decide only [go_sem] <;> rfl) rfl vals_nil) (fun l hp => by cases l <;> first | rfl | cases hp) rfl
    · rw [if_neg g4]
      rw [if_pos g4] at hv
      subst hv
      simp -implicitDefEqProofs +decide only [go_sem]
      exact endF.vals [(8, .int .i64 1)] (.inr rfl) (vals_t (by simp -implicitDefEqProofs +decide only [go_sem] <;> rfl) rfl vals_nil) (fun l hp => by cases l <;> first | rfl | cases hp) rfl
  · rw [if_neg g2]
    rw [if_pos g2] at hv
    subst hv
    simp -implicitDefEqProofs +decide only [go_sem]
    exact endF.vals [(8, .int .i64 1)] (.inr rfl) (vals_t (by simp -implicitDefEqProofs +decide only [go_sem] <;> rfl) rfl vals_nil) (fun l hp => by cases l <;> first | rfl | cases hp) rfl
end Go.Fm
/- Writes of exact numbers. -/
namespace Go.Fm
open Go.Proofs
set_option maxRecDepth 100000
attribute [local irreducible] tiOf

def markT (k : Nat) : T := .agg [.int .i64 0, .int .i64 0, .int .i64 0, .int .i64 k, .int .i64 0, .bool false, .int .i64 0]
theorem mark_ok (h : Heap) (m id k : Nat) (hb : ∀ l, Lab.pool l = false → h l = none) (hk : h (.obj id) = some (bankO k)) :
    Ret Tryz.prog 55 [.ptr id] h m [.t (markT k)] h m := by
  have hl : ∀ d j, h (.loc d j) = none := fun d j => hb _ rfl
  unfold bankO at hk
  refine Ret.introC Tryz.func55 rfl (rv := [.c 2 _]) rfl (by simp [Tryz.ntmps55]) (by decide) (sites := fun _ => false) hb (Keeps.refl _) ?_
  apply run_sound 200
  simp -implicitDefEqProofs +decide only [go_sem, hl]
  refine Goes.drawN mixed ?_
  simp -implicitDefEqProofs +decide only [go_sem, hk, hl, List.length_nil]
  refine ⟨.mk (by kernel_rfl), ?_⟩
  apply run_sound 200
  simp -implicitDefEqProofs +decide only [go_sem]
  exact endC.one (.inr rfl) (by first | rfl | (simp -implicitDefEqProofs +decide only [go_sem, valC, hl]; done) | (simp -implicitDefEqProofs +decide only [go_sem, valC, hl]; rfl)) (by first | rfl | (simp -implicitDefEqProofs +decide only [go_sem, hl]; done) | (simp -implicitDefEqProofs +decide only [go_sem, hl]; rfl)) (fun l hp => by cases l <;> first | rfl | cases hp) rfl

theorem done_ok (h : Heap) (m id k k' : Nat) (l : List Rat) (hb : ∀ l, Lab.pool l = false → h l = none) (hk : h (.obj id) = some (bankO k)) (hl : l.length < 1000000000) (hq : ∀ r ∈ l, QB r 10000000 ∧ bitsR r ≤ 512) :
    Ret Tryz.prog 60 [.ptr id, markT k', sV l] h m [.t (.int .i64 0)] h m := by
  have hloc : ∀ d j, h (.loc d j) = none := fun d j => hb _ rfl
  have c1 := err_ok h m id k hb hk
  refine Ret.intro Tryz.func60 rfl (rt := [6]) rfl (by simp [Tryz.ntmps60]) (by decide) (sites := fun _ => false) hb (Keeps.refl _) ?_
  apply run_sound 200
  simp -implicitDefEqProofs +decide only [go_sem, hloc, markT, sV]
  refine CallG.pool _ Tryz.call46 c1 hb (by rintro (_ | _ | _ | _ | _) hp <;> first | (cases hp; done) | simp -implicitDefEqProofs +decide only [go_sem, hloc]) ?_
  apply run_sound 200
  simp -implicitDefEqProofs +decide only [go_sem, List.length_map]
  refine Goes.loop (X := Nat) (fun i => ⟨ofL [(0, .t (.ptr id)), (7, .t (.int .i64 0)), (12, .t (sV l)), (13, .t (.int .i64 l.length)), (14, .t (.int .i64 i))], h, m⟩) (fun i => i ≤ l.length) (fun i => l.length - i) 0 ?_ (by omega) ?_
  · exact (Wk.mixed _ hb rfl (by rintro (_ | _ | _ | _ | _) hp <;> first | (cases hp; done) | simp -implicitDefEqProofs +decide only [go_sem]) (by simp -implicitDefEqProofs +decide only [go_sem, sV]) (by simp -implicitDefEqProofs +decide only [go_sem, sV]))
  rintro i hi J hJ
  apply run_sound 200
  simp -implicitDefEqProofs +decide only [go_sem, sV]
  refine selP_dec (fun hc => ?_) (fun hc => ?_)
  · obtain ⟨r, hr⟩ := getI (show i < l.length by omega)
    have hw := wS (show i < 1000000000000 by omega)
    have hqr := hq r (List.mem_of_getElem? hr)
    have c2 := bfits_ok r hqr.1
    rw [decide_eq_true hqr.2] at c2
    simp only [vT_eq] at c2
    simp -implicitDefEqProofs +decide only [go_sem, hr, vT_eq, hloc]
    refine CallG.pure _ Tryz.call95 (c2) (by first | rfl | (simp only [go_sem]; done) | (simp only [go_sem]; rfl)) (by first | rfl | (simp only [go_sem]; done) | (simp only [go_sem]; rfl)) ?_
    apply run_sound 200
    simp -implicitDefEqProofs +decide only [go_sem, hw]
    refine hJ (i + 1) _ (by omega) (by omega) (Wk.mixed _ hb rfl (by rintro (_ | _ | _ | _ | _) hp <;> first | (cases hp; done) | simp -implicitDefEqProofs +decide only [go_sem, hloc]) (by simp -implicitDefEqProofs +decide only [go_sem, sV]) (by simp -implicitDefEqProofs +decide only [go_sem, sV]))
  · simp -implicitDefEqProofs +decide only [go_sem]
    exact endF.vals [(6, .int .i64 0)] (.inr rfl) (vals_t (by first | rfl | (simp -implicitDefEqProofs +decide only [go_sem]; done) | (simp -implicitDefEqProofs +decide only [go_sem]; rfl)) rfl vals_nil) (by rintro (_ | _ | _ | _ | _) hp <;> first | (cases hp; done) | simp -implicitDefEqProofs +decide only [go_sem]) rfl

/-- A write's elements. -/
def wrL (g : Rat → Rat → Rat) (f t : List Int) (xs ys : List Rat) (n : Nat) : List Rat := (List.range n).map fun (i : Nat) => g (xs.getD i 0) (ys.getD (srcN f t (i : Int)).toNat 0)
theorem wrL_length (g : Rat → Rat → Rat) (f t : List Int) (xs ys : List Rat) (n : Nat) : (wrL g f t xs ys n).length = n := by simp [wrL]
theorem wrL_snoc (g : Rat → Rat → Rat) {f t : List Int} {xs ys : List Rat} {n q : Nat} {x y : Rat} (hx : xs[n]? = some x) (hq : srcN f t (n : Int) = (q : Int)) (hy : ys[q]? = some y) : wrL g f t xs ys n ++ [g x y] = wrL g f t xs ys (n + 1) := by
  unfold wrL
  rw [List.range_succ, List.map_append]
  simp [hx, hq, hy]
theorem srcN_lt {f t : List Int} (h : twoS f t = (t, 0)) (n : Int) : 0 ≤ srcN f t n ∧ srcN f t n < cnt f := by
  have F := twoS_fit h
  have b := (srcS_in (n := n) F).bnd f.length (Nat.le_refl _)
  rw [placeI_take (srcS_length _ _ _), List.take_length] at b
  unfold srcN cnt
  rw [if_pos F.cf]
  exact b

theorem writeAdd_ok (h : Heap) (m id k : Nat) (x : Atr) (f t : List Int) (xs ys : List Rat) (hb : ∀ l, Lab.pool l = false → h l = none) (hk : h (.obj id) = some (bankO k)) (hkb : k < 100000000) (hfit : twoS f t = (t, 0)) (hx : (xs.length : Int) = cnt t) (hy : (ys.length : Int) = cnt f)
    (hxq : ∀ r ∈ xs, QB r 1000) (hyq : ∀ r ∈ ys, QB r 1000) (hq : ∀ r ∈ wrL (· + ·) f t xs ys xs.length, QB r 10000000 ∧ bitsR r ≤ 512) :
    Ret Tryz.prog 24 [.ptr id, .int .i64 2, x.T, argT t xs, argT f ys] h m [.t (sV (wrL (· + ·) f t xs ys xs.length)), .t (.int .i64 0)] (upd h (.obj id) (some (bankO (k + xs.length)))) m := by
  have c2 := check_w 2 x ⟨t, xs.map scR⟩ ⟨f, ys.map scR⟩ (by have := (chk0 (twoS_fit hfit).ct).1; dsimp only; omega) (by have := (chk0 (twoS_fit hfit).cf).1; dsimp only; omega) (by decide) (by decide)
  have QH : ∀ x y : Rat, QB x 1000 → QB y 1000 → QB (x + y) 10000000 := fun x y h1 h2 => (QB_add h1 h2).mono (by decide)
  have hloc : ∀ d j, h (.loc d j) = none := fun d j => hb _ rfl
  obtain ⟨a1, a2, a3, a4, a5, a6, a7, a8, ak, al⟩ := x
  have F := twoS_fit hfit
  have lt6 := (chk0 F.ct).1
  have lf6 := (chk0 F.cf).1
  have hcn := (chk0 F.ct).2.2
  have hct : cnt t = prodL t := by unfold cnt; rw [if_pos F.ct]
  have c1 := err_ok h m id k hb hk
  have hw0 : wchk ⟨t, xs.map scR⟩ ⟨f, ys.map scR⟩ = 0 := by
    unfold wchk
    dsimp only
    rw [if_neg (fun e => e F.ct), if_neg (fun e => e (by rw [List.length_map]; exact hx)), if_neg (fun e => e F.cf), if_neg (fun e => e (by rw [List.length_map]; exact hy)), if_neg (fun e => e hfit)]
  rw [hw0, Ag_scR, Ag_scR] at c2
  have c3 := mark_ok h m id k hb hk
  have hu0 : upd h (.obj id) (some (bankO k)) = h := by
    funext l
    by_cases e : l = .obj id
    · subst e; rw [upd_same, hk]
    · rw [upd_ne _ _ _ _ e]
  have c5 := done_ok (upd h (.obj id) (some (bankO (k + xs.length)))) m id (k + xs.length) k (wrL (· + ·) f t xs ys xs.length) (bank_hb hb) (upd_same _ _ _) (by rw [wrL_length]; omega) hq
  have hn64 : xs.length ≤ 64 := by omega
  simp only [argT, sI, sV, Atr.T, I, markT] at c2 c3
  refine Ret.intro Tryz.func24 rfl (rt := [10, 11]) rfl (by simp [Tryz.ntmps24]) (by decide) (sites := fun _ => false) (bank_hb hb) bank_keeps ?_
  unfold argT
  apply run_sound 200
  simp -implicitDefEqProofs +decide only [go_sem, Atr.T, I, sI, sV, hloc]
  refine CallG.pool _ Tryz.call46 c1 hb (by rintro (_ | _ | _ | _ | _) hp <;> first | (cases hp; done) | simp -implicitDefEqProofs +decide only [go_sem, hloc]) ?_
  apply run_sound 200
  simp -implicitDefEqProofs +decide only [go_sem, hloc]
  refine CallG.pure _ Tryz.call54 (c2) (by simp only [List.all_cons, List.all_nil, noPtr, noPtrL, noPtr_sW, noPtr_sI, noPtr_sV, noPtrL_U, noPtrL_I, noPtrL_vT, I, List.map_cons, List.map_nil, Bool.and_true, Bool.and_self]) (by first | rfl | (simp only [go_sem]; done) | (simp only [go_sem]; rfl)) ?_
  apply run_sound 200
  simp -implicitDefEqProofs +decide only [go_sem, hloc]
  refine CallG.pool _ Tryz.call55 c3 hb (by rintro (_ | _ | _ | _ | _) hp <;> first | (cases hp; done) | simp -implicitDefEqProofs +decide only [go_sem, hloc]) ?_
  apply run_sound 200
  simp -implicitDefEqProofs +decide only [go_sem, hloc, List.length_map]
  refine Goes.wk (Wk.nilRow (d := 16) (lab := .loc 100 0) (size := 5) (by simp -implicitDefEqProofs +decide only [go_sem]) (by simp -implicitDefEqProofs +decide only [go_sem, hloc]) rfl (by decide)) ?_
  refine Goes.loop (X := Nat) (fun n => ⟨ofL [(0, .t (.ptr id)), (1, .t (.int .i64 2)), (8, .bp (.loc 8 0) 0), (9, .bp (.loc 9 0) 0), (14, .bp (.loc 14 0) 0), (16, .sl (.loc 100 0) n 0 n), (51, .t (sV xs)), (52, .t (.int .i64 xs.length)), (53, .t (.int .i64 n))],
      ofH (upd h (.obj id) (some (bankO (k + n)))) [(.loc 8 0, .box [.t (sI t), .t (sV xs)]), (.loc 9 0, .box [.t (sI f), .t (sV ys)]), (.loc 14 0, .box [.t (.int .i64 0), .t (.int .i64 0), .t (.int .i64 0), .t (.int .i64 k), .t (.int .i64 0), .t (.bool false), .t (.int .i64 0)]), (.loc 100 0, .arr 5 ((wrL (· + ·) f t xs ys n).map vT) n 0)], m⟩) (fun n => n ≤ xs.length) (fun n => xs.length - n) 0 ?_ (by omega) ?_
  · have e0 : upd h (.obj id) (some (bankO (k + 0))) = h := hu0
    dsimp only
    rw [e0]
    refine Wk.boxes _ _ hb rfl rfl ?_ (by rintro (_ | _ | _ | _ | _) hp <;> first | (cases hp; done) | simp -implicitDefEqProofs +decide only [go_sem, hloc]) ?_ ?_
    · simp -implicitDefEqProofs +decide only [go_sem, sI, sV, hloc] <;> first | rfl | exact ⟨rfl, rfl⟩ | skip
    · simp -implicitDefEqProofs +decide only [go_sem, sV] <;> rfl
    · simp -implicitDefEqProofs +decide only [go_sem, sV]
  rintro n hn J hJ
  apply run_sound 200
  simp -implicitDefEqProofs +decide only [go_sem, sV]
  have hwl := wrL_length (· + ·) f t xs ys n
  refine selP_dec (fun hc => ?_) (fun hc => ?_)
  · obtain ⟨x, hxe⟩ := getI (show n < xs.length by omega)
    obtain ⟨q, hq'⟩ : ∃ q : Nat, srcN f t (n : Int) = (q : Int) := ⟨(srcN f t n).toNat, (Int.toNat_of_nonneg (srcN_lt hfit n).1).symm⟩
    have hql := (srcN_lt hfit n).2
    obtain ⟨y, hye⟩ := getI (show q < ys.length by omega)
    have cs := sourceP_ok f t n hfit ⟨by omega, by omega⟩
    rw [hq'] at cs
    have hQx := hxq x (List.mem_of_getElem? hxe)
    have hQy := hyq y (List.mem_of_getElem? hye)
    have cadd := bankAdd_ok (upd h (.obj id) (some (bankO (k + n)))) m id (k + n) x y (bank_hb hb) (upd_same _ _ _) (by omega) (hQx.mono (by decide)) (hQy.mono (by decide))
    rw [obj_up] at cadd
    have cc := copyR_ok (x + y) (QH x y hQx hQy)
    have hsn := congrArg (List.map vT) (wrL_snoc (· + ·) hxe hq' hye)
    rw [List.map_append] at hsn
    obtain ⟨z, hz⟩ : ∃ z, x + y = z := ⟨_, rfl⟩
    have cadd : Ret Tryz.prog 48 [.ptr id, vT x, vT y] (upd h (.obj id) (some (bankO (k + n)))) m [.t (vT (x + y))] (upd h (.obj id) (some (bankO (k + n + 1)))) m := cadd
    rw [hz] at cadd cc hsn
    have hsn : (wrL (· + ·) f t xs ys n).map vT ++ [.agg [.bool (neg1 z), sW (wordsOf z.num.natAbs), sW (wordsOf z.den), .int .u64 0, .int .i64 0]] = (wrL (· + ·) f t xs ys (n + 1)).map vT := hsn
    simp only [vT_eq] at cadd cc
    simp only [sI] at cs
    have hw := wS (show n < 1000000000000 by omega)
    have hnb : n + 1 < big := by unfold big; omega
    simp -implicitDefEqProofs +decide only [go_sem, hxe, vT_eq, hloc, ofH, sI, sV]
    refine CallG.pure _ Tryz.call57 (cs) (by first | rfl | (simp only [go_sem]; done) | (simp only [go_sem]; rfl)) (by first | rfl | (simp only [go_sem]; done) | (simp only [go_sem]; rfl)) ?_
    apply run_sound 200
    simp -implicitDefEqProofs +decide only [go_sem, hye, vT_eq, hloc, ofH, sI, sV, Int.toNat_natCast]
    refine CallG.pool _ Tryz.call48 cadd (bank_hb hb) (by rintro (_ | _ | _ | _ | _) hp <;> first | (cases hp; done) | simp -implicitDefEqProofs +decide only [go_sem, hloc]) ?_
    apply run_sound 200
    simp -implicitDefEqProofs +decide only [go_sem, hloc]
    refine CallG.pureS _ Tryz.call59 (cc) (by first | rfl | (simp only [go_sem]; done) | (simp only [go_sem]; rfl)) (by first | rfl | (simp only [go_sem]; done) | (simp only [go_sem]; rfl)) ?_
    apply run_sound 200
    simp -implicitDefEqProofs +decide only [go_sem, hloc, hwl, hnb, hsn, hw, List.length_map]
    refine hJ (n + 1) _ (by omega) (by omega) (Wk.boxes _ _ (bank_hb hb) rfl rfl ?_ (by rintro (_ | _ | _ | _ | _) hp <;> first | (cases hp; done) | simp -implicitDefEqProofs +decide only [go_sem, hloc, Nat.add_assoc]) ?_ ?_)
    · simp -implicitDefEqProofs +decide only [go_sem, sI, sV, ofH, hloc] <;> first | rfl | exact ⟨rfl, rfl⟩ | skip
    · simp -implicitDefEqProofs +decide only [go_sem, sV]
    · simp -implicitDefEqProofs +decide only [go_sem, sV]
  · obtain rfl : n = xs.length := by omega
    have htk : List.take xs.length ((wrL (· + ·) f t xs ys xs.length).map vT) = (wrL (· + ·) f t xs ys xs.length).map vT := List.take_of_length_le (by rw [List.length_map, hwl]; exact Nat.le_refl _)
    simp only [markT, sV] at c5
    simp -implicitDefEqProofs +decide only [go_sem, ofH, htk, hloc]
    refine CallG.pool _ Tryz.call60 c5 (bank_hb hb) (by rintro (_ | _ | _ | _ | _) hp <;> first | (cases hp; done) | simp -implicitDefEqProofs +decide only [go_sem, hloc]) ?_
    apply run_sound 200
    simp -implicitDefEqProofs +decide only [go_sem, hloc]
    exact endF.rowT (.inr rfl) (by simp -implicitDefEqProofs +decide only [go_sem] <;> rfl) (by simp -implicitDefEqProofs +decide only [go_sem] <;> rfl) (by rw [List.length_map, hwl]) rfl (by simp -implicitDefEqProofs +decide only [go_sem] <;> rfl) rfl (by rintro (_ | _ | _ | _ | _) hp <;> first | (cases hp; done) | simp -implicitDefEqProofs +decide only [go_sem, hloc]) rfl
theorem writeSub_ok (h : Heap) (m id k : Nat) (x : Atr) (f t : List Int) (xs ys : List Rat) (hb : ∀ l, Lab.pool l = false → h l = none) (hk : h (.obj id) = some (bankO k)) (hkb : k < 100000000) (hfit : twoS f t = (t, 0)) (hx : (xs.length : Int) = cnt t) (hy : (ys.length : Int) = cnt f)
    (hxq : ∀ r ∈ xs, QB r 1000) (hyq : ∀ r ∈ ys, QB r 1000) (hq : ∀ r ∈ wrL (· - ·) f t xs ys xs.length, QB r 10000000 ∧ bitsR r ≤ 512) :
    Ret Tryz.prog 24 [.ptr id, .int .i64 3, x.T, argT t xs, argT f ys] h m [.t (sV (wrL (· - ·) f t xs ys xs.length)), .t (.int .i64 0)] (upd h (.obj id) (some (bankO (k + xs.length)))) m := by
  have c2 := check_w 3 x ⟨t, xs.map scR⟩ ⟨f, ys.map scR⟩ (by have := (chk0 (twoS_fit hfit).ct).1; dsimp only; omega) (by have := (chk0 (twoS_fit hfit).cf).1; dsimp only; omega) (by decide) (by decide)
  have QH : ∀ x y : Rat, QB x 1000 → QB y 1000 → QB (x - y) 10000000 := fun x y h1 h2 => by
    rw [Rat.sub_eq_add_neg]
    exact (QB_add h1 (show QB (-y) 1000 from ⟨by rw [show (-y).num = -y.num from rfl, Int.natAbs_neg]; exact h2.n, h2.d⟩)).mono (by decide)
  have hloc : ∀ d j, h (.loc d j) = none := fun d j => hb _ rfl
  obtain ⟨a1, a2, a3, a4, a5, a6, a7, a8, ak, al⟩ := x
  have F := twoS_fit hfit
  have lt6 := (chk0 F.ct).1
  have lf6 := (chk0 F.cf).1
  have hcn := (chk0 F.ct).2.2
  have hct : cnt t = prodL t := by unfold cnt; rw [if_pos F.ct]
  have c1 := err_ok h m id k hb hk
  have hw0 : wchk ⟨t, xs.map scR⟩ ⟨f, ys.map scR⟩ = 0 := by
    unfold wchk
    dsimp only
    rw [if_neg (fun e => e F.ct), if_neg (fun e => e (by rw [List.length_map]; exact hx)), if_neg (fun e => e F.cf), if_neg (fun e => e (by rw [List.length_map]; exact hy)), if_neg (fun e => e hfit)]
  rw [hw0, Ag_scR, Ag_scR] at c2
  have c3 := mark_ok h m id k hb hk
  have hu0 : upd h (.obj id) (some (bankO k)) = h := by
    funext l
    by_cases e : l = .obj id
    · subst e; rw [upd_same, hk]
    · rw [upd_ne _ _ _ _ e]
  have c5 := done_ok (upd h (.obj id) (some (bankO (k + xs.length)))) m id (k + xs.length) k (wrL (· - ·) f t xs ys xs.length) (bank_hb hb) (upd_same _ _ _) (by rw [wrL_length]; omega) hq
  have hn64 : xs.length ≤ 64 := by omega
  simp only [argT, sI, sV, Atr.T, I, markT] at c2 c3
  refine Ret.intro Tryz.func24 rfl (rt := [10, 11]) rfl (by simp [Tryz.ntmps24]) (by decide) (sites := fun _ => false) (bank_hb hb) bank_keeps ?_
  unfold argT
  apply run_sound 200
  simp -implicitDefEqProofs +decide only [go_sem, Atr.T, I, sI, sV, hloc]
  refine CallG.pool _ Tryz.call46 c1 hb (by rintro (_ | _ | _ | _ | _) hp <;> first | (cases hp; done) | simp -implicitDefEqProofs +decide only [go_sem, hloc]) ?_
  apply run_sound 200
  simp -implicitDefEqProofs +decide only [go_sem, hloc]
  refine CallG.pure _ Tryz.call54 (c2) (by simp only [List.all_cons, List.all_nil, noPtr, noPtrL, noPtr_sW, noPtr_sI, noPtr_sV, noPtrL_U, noPtrL_I, noPtrL_vT, I, List.map_cons, List.map_nil, Bool.and_true, Bool.and_self]) (by first | rfl | (simp only [go_sem]; done) | (simp only [go_sem]; rfl)) ?_
  apply run_sound 200
  simp -implicitDefEqProofs +decide only [go_sem, hloc]
  refine CallG.pool _ Tryz.call55 c3 hb (by rintro (_ | _ | _ | _ | _) hp <;> first | (cases hp; done) | simp -implicitDefEqProofs +decide only [go_sem, hloc]) ?_
  apply run_sound 200
  simp -implicitDefEqProofs +decide only [go_sem, hloc, List.length_map]
  refine Goes.wk (Wk.nilRow (d := 16) (lab := .loc 100 0) (size := 5) (by simp -implicitDefEqProofs +decide only [go_sem]) (by simp -implicitDefEqProofs +decide only [go_sem, hloc]) rfl (by decide)) ?_
  refine Goes.loop (X := Nat) (fun n => ⟨ofL [(0, .t (.ptr id)), (1, .t (.int .i64 3)), (8, .bp (.loc 8 0) 0), (9, .bp (.loc 9 0) 0), (14, .bp (.loc 14 0) 0), (16, .sl (.loc 100 0) n 0 n), (51, .t (sV xs)), (52, .t (.int .i64 xs.length)), (53, .t (.int .i64 n))],
      ofH (upd h (.obj id) (some (bankO (k + n)))) [(.loc 8 0, .box [.t (sI t), .t (sV xs)]), (.loc 9 0, .box [.t (sI f), .t (sV ys)]), (.loc 14 0, .box [.t (.int .i64 0), .t (.int .i64 0), .t (.int .i64 0), .t (.int .i64 k), .t (.int .i64 0), .t (.bool false), .t (.int .i64 0)]), (.loc 100 0, .arr 5 ((wrL (· - ·) f t xs ys n).map vT) n 0)], m⟩) (fun n => n ≤ xs.length) (fun n => xs.length - n) 0 ?_ (by omega) ?_
  · have e0 : upd h (.obj id) (some (bankO (k + 0))) = h := hu0
    dsimp only
    rw [e0]
    refine Wk.boxes _ _ hb rfl rfl ?_ (by rintro (_ | _ | _ | _ | _) hp <;> first | (cases hp; done) | simp -implicitDefEqProofs +decide only [go_sem, hloc]) ?_ ?_
    · simp -implicitDefEqProofs +decide only [go_sem, sI, sV, hloc] <;> first | rfl | exact ⟨rfl, rfl⟩ | skip
    · simp -implicitDefEqProofs +decide only [go_sem, sV] <;> rfl
    · simp -implicitDefEqProofs +decide only [go_sem, sV]
  rintro n hn J hJ
  apply run_sound 200
  simp -implicitDefEqProofs +decide only [go_sem, sV]
  have hwl := wrL_length (· - ·) f t xs ys n
  refine selP_dec (fun hc => ?_) (fun hc => ?_)
  · obtain ⟨x, hxe⟩ := getI (show n < xs.length by omega)
    obtain ⟨q, hq'⟩ : ∃ q : Nat, srcN f t (n : Int) = (q : Int) := ⟨(srcN f t n).toNat, (Int.toNat_of_nonneg (srcN_lt hfit n).1).symm⟩
    have hql := (srcN_lt hfit n).2
    obtain ⟨y, hye⟩ := getI (show q < ys.length by omega)
    have cs := sourceP_ok f t n hfit ⟨by omega, by omega⟩
    rw [hq'] at cs
    have hQx := hxq x (List.mem_of_getElem? hxe)
    have hQy := hyq y (List.mem_of_getElem? hye)
    have cadd := bankSub_ok (upd h (.obj id) (some (bankO (k + n)))) m id (k + n) x y (bank_hb hb) (upd_same _ _ _) (by omega) (hQx.mono (by decide)) (hQy.mono (by decide))
    rw [obj_up] at cadd
    have cc := copyR_ok (x - y) (QH x y hQx hQy)
    have hsn := congrArg (List.map vT) (wrL_snoc (· - ·) hxe hq' hye)
    rw [List.map_append] at hsn
    obtain ⟨z, hz⟩ : ∃ z, x - y = z := ⟨_, rfl⟩
    have cadd : Ret Tryz.prog 58 [.ptr id, vT x, vT y] (upd h (.obj id) (some (bankO (k + n)))) m [.t (vT (x - y))] (upd h (.obj id) (some (bankO (k + n + 1)))) m := cadd
    rw [hz] at cadd cc hsn
    have hsn : (wrL (· - ·) f t xs ys n).map vT ++ [.agg [.bool (neg1 z), sW (wordsOf z.num.natAbs), sW (wordsOf z.den), .int .u64 0, .int .i64 0]] = (wrL (· - ·) f t xs ys (n + 1)).map vT := hsn
    simp only [vT_eq] at cadd cc
    simp only [sI] at cs
    have hw := wS (show n < 1000000000000 by omega)
    have hnb : n + 1 < big := by unfold big; omega
    simp -implicitDefEqProofs +decide only [go_sem, hxe, vT_eq, hloc, ofH, sI, sV]
    refine CallG.pure _ Tryz.call57 (cs) (by first | rfl | (simp only [go_sem]; done) | (simp only [go_sem]; rfl)) (by first | rfl | (simp only [go_sem]; done) | (simp only [go_sem]; rfl)) ?_
    apply run_sound 200
    simp -implicitDefEqProofs +decide only [go_sem, hye, vT_eq, hloc, ofH, sI, sV, Int.toNat_natCast]
    refine CallG.pool _ Tryz.call58 cadd (bank_hb hb) (by rintro (_ | _ | _ | _ | _) hp <;> first | (cases hp; done) | simp -implicitDefEqProofs +decide only [go_sem, hloc]) ?_
    apply run_sound 200
    simp -implicitDefEqProofs +decide only [go_sem, hloc]
    refine CallG.pureS _ Tryz.call59 (cc) (by first | rfl | (simp only [go_sem]; done) | (simp only [go_sem]; rfl)) (by first | rfl | (simp only [go_sem]; done) | (simp only [go_sem]; rfl)) ?_
    apply run_sound 200
    simp -implicitDefEqProofs +decide only [go_sem, hloc, hwl, hnb, hsn, hw, List.length_map]
    refine hJ (n + 1) _ (by omega) (by omega) (Wk.boxes _ _ (bank_hb hb) rfl rfl ?_ (by rintro (_ | _ | _ | _ | _) hp <;> first | (cases hp; done) | simp -implicitDefEqProofs +decide only [go_sem, hloc, Nat.add_assoc]) ?_ ?_)
    · simp -implicitDefEqProofs +decide only [go_sem, sI, sV, ofH, hloc] <;> first | rfl | exact ⟨rfl, rfl⟩ | skip
    · simp -implicitDefEqProofs +decide only [go_sem, sV]
    · simp -implicitDefEqProofs +decide only [go_sem, sV]
  · obtain rfl : n = xs.length := by omega
    have htk : List.take xs.length ((wrL (· - ·) f t xs ys xs.length).map vT) = (wrL (· - ·) f t xs ys xs.length).map vT := List.take_of_length_le (by rw [List.length_map, hwl]; exact Nat.le_refl _)
    simp only [markT, sV] at c5
    simp -implicitDefEqProofs +decide only [go_sem, ofH, htk, hloc]
    refine CallG.pool _ Tryz.call60 c5 (bank_hb hb) (by rintro (_ | _ | _ | _ | _) hp <;> first | (cases hp; done) | simp -implicitDefEqProofs +decide only [go_sem, hloc]) ?_
    apply run_sound 200
    simp -implicitDefEqProofs +decide only [go_sem, hloc]
    exact endF.rowT (.inr rfl) (by simp -implicitDefEqProofs +decide only [go_sem] <;> rfl) (by simp -implicitDefEqProofs +decide only [go_sem] <;> rfl) (by rw [List.length_map, hwl]) rfl (by simp -implicitDefEqProofs +decide only [go_sem] <;> rfl) rfl (by rintro (_ | _ | _ | _ | _) hp <;> first | (cases hp; done) | simp -implicitDefEqProofs +decide only [go_sem, hloc]) rfl
/-- A write that is not done. -/
theorem write_no (h : Heap) (m id k : Nat) (op : Int) (x : Atr) (to frm : Ag) (hb : ∀ l, Lab.pool l = false → h l = none) (hk : h (.obj id) = some (bankO k)) (ht : to.d.length < 1000000000) (hf : frm.d.length < 1000000000) (h1 : 1 ≤ op) (h3 : op ≤ 3) (he : wchk to frm ≠ 0) :
    Ret Tryz.prog 24 [.ptr id, .int .i64 op, x.T, to.T, frm.T] h m [.t (.slice []), .t (.int .i64 (wchk to frm))] h m := by
  have hloc : ∀ d j, h (.loc d j) = none := fun d j => hb _ rfl
  have c1 := err_ok h m id k hb hk
  have c2 := check_w op x to frm ht hf h1 h3
  generalize wchk to frm = e at *
  obtain ⟨a1, a2, a3, a4, a5, a6, a7, a8, ak, al⟩ := x
  simp only [Ag.T, sI, sS, Atr.T, I] at c2
  refine Ret.intro Tryz.func24 rfl (rt := [10, 11]) rfl (by simp [Tryz.ntmps24]) (by decide) (sites := fun _ => false) hb (Keeps.refl _) ?_
  apply run_sound 200
  simp -implicitDefEqProofs +decide only [go_sem, Ag.T, sI, sS, Atr.T, I, hloc]
  refine CallG.pool _ Tryz.call46 c1 hb (by rintro (_ | _ | _ | _ | _) hp <;> first | (cases hp; done) | simp -implicitDefEqProofs +decide only [go_sem, hloc]) ?_
  apply run_sound 200
  simp -implicitDefEqProofs +decide only [go_sem, hloc]
  refine CallG.pure _ Tryz.call54 c2 (by simp only [List.all_cons, List.all_nil, noPtr, noPtrL, noPtrL_I, noPtrL_Sc, Bool.and_self]) (by first | rfl | (simp only [go_sem]; done) | (simp only [go_sem]; rfl)) ?_
  apply run_sound 200
  simp -implicitDefEqProofs +decide only [go_sem, hloc]
  refine selP_dec (fun _ => ?_) (fun h => absurd he h)
  simp -implicitDefEqProofs +decide only [go_sem]
  exact endF.vals [(10, .slice []), (11, .int .i64 e)] (.inr rfl) (vals_n (by first | rfl | (simp -implicitDefEqProofs +decide only [go_sem]; done)) (vals_t (by first | rfl | (simp -implicitDefEqProofs +decide only [go_sem]; done) | (simp -implicitDefEqProofs +decide only [go_sem]; rfl)) rfl vals_nil)) (by rintro (_ | _ | _ | _ | _) hp <;> first | (cases hp; done) | simp -implicitDefEqProofs +decide only [go_sem, hloc]) rfl
end Go.Fm
