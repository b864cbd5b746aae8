/- Scalars: alike; lists of them. -/
import Derived.Test.YtjgkdkbmppaaaaaGreatMulA
import Derived.Test.YtjgkdkbmppaaaaaGreatRefA
import Derived.Test.YtjgkdkbmppaaaaaGreatDimA
set_option linter.unusedVariables false
set_option linter.unusedSimpArgs false
namespace Go.Fm
open Go.Proofs
set_option maxRecDepth 100000
attribute [local irreducible] tiOf

/-- A scalar of any mode. -/
structure Sc where
  x : Rt
  b : Nat
  f : Int
  deriving DecidableEq
def Sc.T (s : Sc) : T := .agg [.bool s.x.neg, sW s.x.p, sW s.x.q, .int .u64 s.b, .int .i64 s.f]
theorem Sc.T_eq (n : Bool) (p q : List Nat) (b : Nat) (f : Int) : Sc.T ⟨⟨n, p, q⟩, b, f⟩ = .agg [.bool n, sW p, sW q, .int .u64 b, .int .i64 f] := rfl
theorem noPtr_Sc (s : Sc) : noPtr s.T = true := by
  simp only [Sc.T, noPtr, noPtrL, Bool.and_true, Bool.true_and]
  rw [noPtr_sW, noPtr_sW]; rfl
theorem noPtr_ScU (n : Bool) (p q : List Nat) (b f : Int) : noPtr (.agg [.bool n, .slice (p.map U), .slice (q.map U), .int .u64 b, .int .i64 f]) = true := by
  have h1 : noPtrL (p.map U) = true := by have := noPtr_sW p; simpa only [sW, noPtr] using this
  have h2 : noPtrL (q.map U) = true := by have := noPtr_sW q; simpa only [sW, noPtr] using this
  simp only [noPtr, noPtrL, Bool.and_true, Bool.true_and, h1, h2]
theorem noPtr_ScW (n : Bool) (p q : List Nat) (b f : Int) : noPtr (.agg [.bool n, sW p, sW q, .int .u64 b, .int .i64 f]) = true := noPtr_ScU n p q b f
def sS (l : List Sc) : T := .slice (l.map Sc.T)
theorem noPtr_sS (l : List Sc) : noPtr (sS l) = true := by
  have : ∀ l : List Sc, noPtrL (l.map Sc.T) = true := fun l => by
    induction l with
    | nil => rfl
    | cons x r ih => rw [List.map_cons, noPtrL, ih, noPtr_Sc]; rfl
  unfold sS; rw [noPtr, this]
theorem noPtr_sSU (l : List Sc) : noPtr (.slice (l.map Sc.T)) = true := noPtr_sS l
attribute [go_sem] noPtr_Sc noPtr_ScU noPtr_ScW noPtr_sS noPtr_sSU
theorem noPtrL_U (l : List Nat) : noPtrL (l.map U) = true := by have := noPtr_sW l; simpa only [sW, noPtr] using this
theorem noPtrL_I (l : List Int) : noPtrL (l.map I) = true := by have := noPtr_sI l; simpa only [sI, noPtr] using this
theorem noPtr_vT (r : Rat) : noPtr (vT r) = true := noPtr_ScW _ _ _ 0 0
theorem noPtrL_vT (l : List Rat) : noPtrL (l.map vT) = true := by
  induction l with
  | nil => rfl
  | cons x r ih => rw [List.map_cons, noPtrL, ih, noPtr_vT]; rfl
theorem noPtr_sV (l : List Rat) : noPtr (sV l) = true := by unfold sV; rw [noPtr, noPtrL_vT]
def scR (r : Rat) : Sc := ⟨qR r, 0, 0⟩
theorem scR_T (r : Rat) : (scR r).T = vT r := rfl
theorem qR_inj {r s : Rat} (h : qR r = qR s) : r = s := by
  have h1 := congrArg Rt.neg h
  have h2 := congrArg Rt.p h
  have h3 := congrArg Rt.q h
  have e2 := congrArg nv h2
  have e3 := congrArg nv h3
  simp only [qR, nv_wordsOf] at e2 e3
  have e1 : decide (r.num < 0) = decide (s.num < 0) := h1
  have e1 := decide_eq_decide.1 e1
  exact Rat.ext (by omega) e3
theorem scR_inj {r s : Rat} (h : scR r = scR s) : r = s := qR_inj (congrArg Sc.x h)
theorem scR_map {l m : List Rat} : l.map scR = m.map scR ↔ l = m := ⟨fun h => (List.map_inj_right fun _ _ => scR_inj).1 h, fun h => by rw [h]⟩
def ScB (n : Nat) (s : Sc) : Prop := s.x.p.length < n ∧ s.x.q.length < n

theorem rSameV_ok (s t : Sc) (hs : ScB 1000000000 s) (ht : ScB 1000000000 t) : Pure Tryz.prog 49 [s.T, t.T] [.t (.bool (decide (s = t)))] := by
  obtain ⟨x, b, f⟩ := s
  obtain ⟨y, c, g⟩ := t
  have c1 := rSame_ok x y hs.1 hs.2 ht.1 ht.2
  obtain ⟨n, p, q⟩ := x
  obtain ⟨n', p', q'⟩ := y
  simp only [Rt.T, rT] at c1
  have hb : decide ((b : Int) = (c : Int)) = decide (b = c) := decide_eq_decide.2 (by omega)
  refine Pure.intro Tryz.func49 rfl (rt := [4]) rfl (by simp [Tryz.ntmps49]) (by decide) (sites := fun _ => false) ?_
  apply run_sound 200
  simp -implicitDefEqProofs +decide only [go_sem, Sc.T_eq, sW, hb]
  refine selP_dec (fun h1 => ?_) (fun h1 => ?_)
  · subst h1
    simp -implicitDefEqProofs +decide only [go_sem]
    refine selP_dec (fun h2 => ?_) (fun h2 => ?_)
    · subst h2
      simp only [sW] at c1
      simp -implicitDefEqProofs +decide only [go_sem]
      refine CallG.pure _ Tryz.call82 (c1) (by first | rfl | (simp only [go_sem]; done) | (simp only [go_sem]; rfl)) (by first | rfl | (simp only [go_sem]; done) | (simp only [go_sem]; rfl)) ?_
      apply run_sound 200
      simp -implicitDefEqProofs +decide only [go_sem]
      have e : decide ((Sc.mk ⟨n, p, q⟩ b f) = ⟨⟨n', p', q'⟩, b, f⟩) = decide (Rt.mk n p q = ⟨n', p', q'⟩) := decide_eq_decide.2 (by simp)
      rw [e]
      exact endF.vals [(4, .bool (decide (Rt.mk n p q = ⟨n', p', q'⟩)))] (.inr rfl) (vals_t (by simp -implicitDefEqProofs +decide only [go_sem] <;> rfl) rfl vals_nil) (fun l hp => by cases l <;> first | rfl | cases hp) rfl
    · have e : decide ((Sc.mk ⟨n, p, q⟩ b f) = ⟨⟨n', p', q'⟩, b, g⟩) = false := decide_eq_false fun h => h2 (congrArg Sc.f h)
      rw [e]
      simp -implicitDefEqProofs +decide only [go_sem, h2]
      exact endF.vals [(4, .bool false)] (.inr rfl) (vals_t (by simp -implicitDefEqProofs +decide only [go_sem] <;> rfl) rfl vals_nil) (fun l hp => by cases l <;> first | rfl | cases hp) rfl
  · have e : decide ((Sc.mk ⟨n, p, q⟩ b f) = ⟨⟨n', p', q'⟩, c, g⟩) = false := decide_eq_false fun h => h1 (congrArg Sc.b h)
    rw [e]
    simp -implicitDefEqProofs +decide only [go_sem, h1]
    exact endF.vals [(4, .bool false)] (.inr rfl) (vals_t (by simp -implicitDefEqProofs +decide only [go_sem] <;> rfl) rfl vals_nil) (fun l hp => by cases l <;> first | rfl | cases hp) rfl

theorem rAllV_ok (a b : List Sc) (ha : a.length < 1000000000) (hb : b.length < 1000000000) (ha2 : ∀ s ∈ a, ScB 1000000000 s) (hb2 : ∀ s ∈ b, ScB 1000000000 s) : Pure Tryz.prog 20 [sS a, sS b] [.t (.bool (decide (a = b)))] := by
  refine Pure.intro Tryz.func20 rfl (rt := [4]) rfl (by simp [Tryz.ntmps20]) (by decide) (sites := fun _ => false) ?_
  apply run_sound 200
  simp -implicitDefEqProofs +decide only [go_sem, sS, List.length_map]
  refine selP_dec (fun h1 => ?_) (fun h1 => ?_)
  · have : decide (a = b) = false := decide_eq_false (fun e => by subst e; exact h1 rfl)
    rw [this]
    simp -implicitDefEqProofs +decide only [go_sem]
    exact endF.vals [(4, .bool false)] (.inr rfl) (vals_t (by simp -implicitDefEqProofs +decide only [go_sem] <;> rfl) rfl vals_nil) (fun l hp => by cases l <;> first | rfl | cases hp) rfl
  have hl : a.length = b.length := by omega
  simp -implicitDefEqProofs +decide only [go_sem]
  refine Goes.loop (X := Nat) (fun i => ⟨ofL [(0, .t (sS a)), (1, .t (sS b)), (12, .t (.int .i64 a.length)), (13, .t (.int .i64 i))], fun _ => none, 0⟩) (fun i => i ≤ a.length ∧ a.take i = b.take i) (fun i => a.length - i) 0 ?_ (by simp) ?_
  · exact (Wk.slots _ rfl rfl (by simp -implicitDefEqProofs +decide only [go_sem, sS]) (by simp -implicitDefEqProofs +decide only [go_sem, sS]))
  rintro i ⟨hi, he⟩ J hJ
  apply run_sound 200
  simp -implicitDefEqProofs +decide only [go_sem, sS]
  refine selP_dec (fun hc => ?_) (fun hc => ?_)
  · obtain ⟨x, hx⟩ := getI (show i < a.length by omega)
    obtain ⟨y, hy⟩ := getI (show i < b.length by omega)
    have hw := wS (show i < 1000000000000 by omega)
    have c := rSameV_ok x y (ha2 x (List.mem_of_getElem? hx)) (hb2 y (List.mem_of_getElem? hy))
    obtain ⟨⟨xn, xp, xq⟩, xb, xf⟩ := x
    obtain ⟨⟨yn, yp, yq⟩, yb, yf⟩ := y
    simp -implicitDefEqProofs +decide only [go_sem]
    refine Goes.drawN mixed ?_
    simp -implicitDefEqProofs +decide only [go_sem, sS, hx, hy, Sc.T_eq, sW]
    simp only [Sc.T_eq, sW] at c
    refine CallD.pure _ Tryz.call49 c (by first | rfl | (simp only [go_sem]; done) | (simp only [go_sem]; rfl)) (by first | rfl | (simp only [go_sem]; done) | (simp only [go_sem]; rfl)) ?_
    simp -implicitDefEqProofs +decide only [go_sem]
    refine ⟨.mk (by kernel_rfl), ?_⟩
    apply run_sound 200
    simp -implicitDefEqProofs +decide only [go_sem]
    refine selP_ndec (fun h2 => ?_) (fun h2 => ?_)
    · have : decide (a = b) = false := decide_eq_false (fun e => by subst e; rw [hx] at hy; cases hy; exact h2 rfl)
      rw [this]
      simp -implicitDefEqProofs +decide only [go_sem, h2]
      exact endF.vals [(4, .bool false)] (.inr rfl) (vals_t (by simp -implicitDefEqProofs +decide only [go_sem] <;> rfl) rfl vals_nil) (fun l hp => by cases l <;> first | rfl | cases hp) rfl
    · simp -implicitDefEqProofs +decide only [go_sem, h2, hw]
      refine hJ (i + 1) _ ⟨by omega, by rw [List.take_add_one, List.take_add_one, hx, hy, he, h2]⟩ (by omega) (Wk.slots _ rfl rfl (by simp -implicitDefEqProofs +decide only [go_sem, sS, hw]) (by simp -implicitDefEqProofs +decide only [go_sem, sS, hw]))
  · have : decide (a = b) = true := decide_eq_true (by rw [← List.take_of_length_le (l := a) (i := i) (by omega), he, List.take_of_length_le (by omega)])
    rw [this]
    simp -implicitDefEqProofs +decide only [go_sem]
    exact endF.vals [(4, .bool true)] (.inr rfl) (vals_t (by simp -implicitDefEqProofs +decide only [go_sem] <;> rfl) rfl vals_nil) (fun l hp => by cases l <;> first | rfl | cases hp) rfl
theorem rAllR_ok (a b : List Rat) (ha : a.length < 1000000000) (hb : b.length < 1000000000) (ha2 : ∀ r ∈ a, QB r 10000000) (hb2 : ∀ r ∈ b, QB r 10000000) : Pure Tryz.prog 20 [sV a, sV b] [.t (.bool (decide (a = b)))] := by
  have hq : ∀ l : List Rat, (∀ r ∈ l, QB r 10000000) → ∀ s ∈ l.map scR, ScB 1000000000 s := fun l hl s hs => by
    obtain ⟨r, hr, rfl⟩ := List.mem_map.1 hs
    have h1 := (hl r hr).n
    have h2 := (hl r hr).d
    exact ⟨by show (wordsOf r.num.natAbs).length < _; omega, by show (wordsOf r.den).length < _; omega⟩
  have c := rAllV_ok (a.map scR) (b.map scR) (by simpa using ha) (by simpa using hb) (hq a ha2) (hq b hb2)
  have e : ∀ l : List Rat, sS (l.map scR) = sV l := fun l => by unfold sS sV; rw [List.map_map]; rfl
  rw [e, e, decide_eq_decide.2 scR_map] at c
  exact c
end Go.Fm
/- Lists held against each other. -/
namespace Go.Fm
open Go.Proofs
set_option maxRecDepth 100000
attribute [local irreducible] tiOf

theorem eq_take {α : Type} {a b : List α} {i : Nat} (hl : a.length = b.length) (he : a.take i = b.take i) (hi : a.length ≤ i) : a = b := by
  rw [← List.take_of_length_le (l := a) (i := i) hi, he, List.take_of_length_le (by omega)]

theorem ints_ok (a b : List Int) (ha : a.length < 1000000000) : Pure Tryz.prog 14 [sI a, sI b] [.t (.bool (decide (a = b)))] := by
  refine Pure.intro Tryz.func14 rfl (rt := [4]) rfl (by simp [Tryz.ntmps14]) (by decide) (sites := fun _ => false) ?_
  apply run_sound 200
  simp -implicitDefEqProofs +decide only [go_sem, sI]
  refine selP_dec (fun h1 => ?_) (fun h1 => ?_)
  · have : decide (a = b) = false := decide_eq_false (fun e => by subst e; exact h1 rfl)
    rw [this]
    simp -implicitDefEqProofs +decide only [go_sem]
    exact endF.vals [(4, .bool false)] (.inr rfl) (vals_t (by simp -implicitDefEqProofs +decide only [go_sem] <;> rfl) rfl vals_nil) (fun l hp => by cases l <;> first | rfl | cases hp) rfl
  have hl : a.length = b.length := by omega
  simp -implicitDefEqProofs +decide only [go_sem]
  refine Goes.loop (X := Nat) (fun i => ⟨ofL [(0, tI a), (1, tI b), (12, .t (.int .i64 a.length)), (13, .t (.int .i64 i))], fun _ => none, 0⟩) (fun i => i ≤ a.length ∧ a.take i = b.take i) (fun i => a.length - i) 0 ?_ (by simp) ?_
  · exact (Wk.slots _ rfl rfl (by simp -implicitDefEqProofs +decide only [go_sem, tI, sI]) (by simp -implicitDefEqProofs +decide only [go_sem, tI, sI]))
  rintro i ⟨hi, he⟩ J hJ
  apply run_sound 200
  simp -implicitDefEqProofs +decide only [go_sem, tI, sI]
  refine selP_dec (fun hc => ?_) (fun hc => ?_)
  · obtain ⟨x, hx⟩ := getI (show i < a.length by omega)
    obtain ⟨y, hy⟩ := getI (show i < b.length by omega)
    have hw := wS (show i < 1000000000000 by omega)
    simp -implicitDefEqProofs +decide only [go_sem]
    refine Goes.drawN mixed ?_
    simp -implicitDefEqProofs +decide only [go_sem, tI, sI, I, hx, hy]
    refine ⟨.mk (by kernel_rfl), ?_⟩
    apply run_sound 200
    simp -implicitDefEqProofs +decide only [go_sem]
    refine selP_dec (fun h2 => ?_) (fun h2 => ?_)
    · have : decide (a = b) = false := decide_eq_false (fun e => by subst e; rw [hx] at hy; cases hy; exact h2 rfl)
      rw [this]
      simp -implicitDefEqProofs +decide only [go_sem]
      exact endF.vals [(4, .bool false)] (.inr rfl) (vals_t (by simp -implicitDefEqProofs +decide only [go_sem] <;> rfl) rfl vals_nil) (fun l hp => by cases l <;> first | rfl | cases hp) rfl
    · obtain rfl : x = y := by simpa using h2
      simp -implicitDefEqProofs +decide only [go_sem, hw]
      refine hJ (i + 1) _ ⟨by omega, by rw [take_snoc hx, take_snoc hy, he]⟩ (by omega) (Wk.slots _ rfl rfl (by simp -implicitDefEqProofs +decide only [go_sem, tI, sI, hw]) (by simp -implicitDefEqProofs +decide only [go_sem, tI, sI, hw]))
  · have : decide (a = b) = true := decide_eq_true (eq_take hl he (by omega))
    rw [this]
    simp -implicitDefEqProofs +decide only [go_sem]
    exact endF.vals [(4, .bool true)] (.inr rfl) (vals_t (by simp -implicitDefEqProofs +decide only [go_sem] <;> rfl) rfl vals_nil) (fun l hp => by cases l <;> first | rfl | cases hp) rfl

end Go.Fm
/- Matrices: their dims. -/
namespace Go.Fm
open Go.Proofs
set_option maxRecDepth 100000

theorem prodL2 (x y : Int) : prodL [x, y] = x * y := by simp [prodL]
theorem chk2 {x y : Int} : chk [x, y] = 0 ↔ 1 ≤ x ∧ 1 ≤ y ∧ x * y ≤ 64 := by
  constructor
  · intro h
    obtain ⟨_, h1, _, h3⟩ := chk0 h
    rw [prodL2] at h3
    exact ⟨h1 x (by simp), h1 y (by simp), h3⟩
  · rintro ⟨h1, h2, h3⟩
    have hn : ¬ ∃ z ∈ [x, y], z < 1 := by
      rintro ⟨z, hz, hl⟩
      simp only [List.mem_cons, List.not_mem_nil, or_false] at hz
      omega
    unfold chk
    rw [if_neg (by simp), if_neg hn, if_neg (by rw [prodL2]; omega)]
theorem chk2_swap {x y : Int} (h : chk [x, y] = 0) : chk [y, x] = 0 := by
  rw [chk2] at h ⊢
  exact ⟨h.2.1, h.1, by rw [Int.mul_comm]; exact h.2.2⟩
theorem chk_nil : chk [] = 0 := by decide
theorem twoS_nil : twoS [] [] = ([], 0) := by
  have hn : ¬ clash [] [] := by rintro ⟨k, h1, h2, _⟩; simp [rankD] at h2; omega
  rw [twoS_eq chk_nil chk_nil, if_neg hn]
  have : spr [] [] = [] := rfl
  rw [this, if_neg (by rw [chk_nil]; simp)]
theorem mdims2 {n K m : Int} (ha : chk [n, K] = 0) (hb : chk [K, m] = 0) (ho : chk [n, m] = 0) : mdims [n, K] [K, m] = ([n, m], 0) := by
  rw [mdims_eq ha hb]
  have e1 : List.take ([n, K].length - 2) [n, K] = [] := rfl
  have e2 : List.take ([K, m].length - 2) [K, m] = [] := rfl
  have e3 : ([] : List Int) ++ [[n, K].getD ([n, K].length - 2) 0, [K, m].getD ([K, m].length - 1) 0] = [n, m] := rfl
  rw [e1, e2, twoS_nil]
  dsimp only
  rw [e3, ho]
  rw [if_neg (by simp), if_neg (by simp), if_neg (by simp), if_neg (by simp)]
theorem mdims2_inv {n K K' m : Int} {out : List Int} (h : mdims [n, K] [K', m] = (out, 0)) : K' = K ∧ out = [n, m] := by
  have H := mdims_inv h
  have h1 := H.ab
  have h2 := H.eo
  have e1 : List.take ([n, K].length - 2) [n, K] = [] := rfl
  have e2 : List.take ([K', m].length - 2) [K', m] = [] := rfl
  have e3 : spr [] [] = [] := rfl
  rw [e1, e2, e3] at h2
  have h1 : some K = some K' := h1
  exact ⟨(Option.some.inj h1).symm, h2⟩
theorem two_list {l : List Int} (h : l.length = 2) : ∃ x y, l = [x, y] := by
  match l, h with
  | [x, y], _ => exact ⟨x, y, rfl⟩
end Go.Fm
/- What each of the laws on products asks for besides. -/
namespace Go.Fm
open Go.Proofs
set_option maxRecDepth 100000
attribute [local irreducible] tiOf

theorem qR_nat (n : Nat) : qR (n : Rat) = ⟨false, wordsOf n, [1]⟩ := by
  have h : ¬ (n : Rat).num < 0 := by rw [Rat.num_natCast]; omega
  unfold qR
  rw [decide_eq_false h, Rat.num_natCast, Rat.den_natCast, words_one, Int.natAbs_natCast]
theorem lowQ_nat (n : Nat) : lowQ false n 1 = qR (n : Rat) := by
  rw [qR_nat]
  unfold lowQ
  rw [Nat.gcd_one_right, Nat.div_one, Nat.div_one, words_one]; rfl
theorem rVal_ok (n : Nat) (h : n < 18446744073709551616) : Pure Tryz.prog 76 [.bool false, sW [n], sW [1]] [.t (qR (n : Rat)).T] := by
  have hw : WOK [n] := fun y hy => by rw [List.mem_singleton.1 hy]; exact h
  have c := rMake_ok false [n] [1] hw WOK_one (by simp) (by simp) (by decide) (by rw [nv_one, tz_odd rfl]; decide)
  have e : nv [n] = n := by simp [nv]
  rw [e, nv_one, lowQ_nat] at c
  exact c
theorem val28_ok (n : Nat) (h : n < 18446744073709551616) : Pure Tryz.prog 34 [.int .u64 n] [.t (vT (n : Rat))] := by
  have c := rVal_ok n h
  rw [vT_eq]
  rw [qT] at c
  have e1 : sW [n] = T.slice [T.int .u64 (n : Int)] := rfl
  have e2 : sW [1] = T.slice [T.int .u64 1] := rfl
  rw [e1, e2] at c
  refine Pure.introC Tryz.func34 rfl (rv := [.c 2 _]) rfl (by simp [Tryz.ntmps34]) (by decide) (sites := fun _ => false) ?_
  apply run_sound 200
  simp -implicitDefEqProofs +decide only [go_sem]
  refine CallG.pureS _ Tryz.call76 (c) (by first | rfl | (simp only [go_sem]; done) | (simp only [go_sem]; rfl)) (by first | rfl | (simp only [go_sem]; done) | (simp only [go_sem]; rfl)) ?_
  apply run_sound 200
  simp -implicitDefEqProofs +decide only [go_sem]
  exact endC.one (.inr rfl) (by first | rfl | (simp -implicitDefEqProofs +decide only [go_sem, valC, sW]; done) | (simp -implicitDefEqProofs +decide only [go_sem, valC, sW]; rfl)) (by first | rfl | (simp -implicitDefEqProofs +decide only [go_sem, sW]; done) | (simp -implicitDefEqProofs +decide only [go_sem, sW]; rfl)) (fun l hp => by cases l <;> first | rfl | cases hp) rfl
theorem QB_nat (n : Nat) (h : n < 18446744073709551616) : QB (n : Rat) 1 := by
  refine ⟨?_, ?_⟩
  · show (wordsOf (n : Rat).num.natAbs).length ≤ 1
    rw [Rat.num_natCast]
    exact len_wordsOf (by simpa using h)
  · show (wordsOf (n : Rat).den).length ≤ 1
    rw [Rat.den_natCast, words_one]; exact Nat.le_refl _
theorem same28_do : doM [2, 2] [2, 1] [2, 1] [((1 : Nat) : Rat), ((2 : Nat) : Rat), ((3 : Nat) : Rat), ((4 : Nat) : Rat)] [((5 : Nat) : Rat), ((6 : Nat) : Rat)] (cnt [2, 1]).toNat = [((17 : Nat) : Rat), ((39 : Nat) : Rat)] := by
  have e : (cnt [2, 1]).toNat = 2 := by decide
  rw [e]
  have t0 := termsM2 2 2 1 0 (by decide) (by decide) (by decide)
  have t1 := termsM2 2 2 1 1 (by decide) (by decide) (by decide)
  unfold doM
  show [dotR _ _ (termsM [2, 2] [2, 1] [2, 1] ((0 : Nat) : Int)), dotR _ _ (termsM [2, 2] [2, 1] [2, 1] ((1 : Nat) : Int))] = _
  have t0' : termsM [2, 2] [2, 1] [2, 1] ((0 : Nat) : Int) = [(0, 0), (1, 1)] := t0
  have t1' : termsM [2, 2] [2, 1] [2, 1] ((1 : Nat) : Int) = [(2, 0), (3, 1)] := t1
  rw [t0', t1']
  decide +kernel
theorem same28_dims : mdims [2, 2] [2, 1] = ([2, 1], 0) := mdims2 (by decide) (by decide) (by decide)
theorem same28_ok : Pure Tryz.prog 9 [] [.t (.bool true)] := by
  have v1 := val28_ok 1 (by decide)
  have v2 := val28_ok 2 (by decide)
  have v3 := val28_ok 3 (by decide)
  have v4 := val28_ok 4 (by decide)
  have v5 := val28_ok 5 (by decide)
  have v6 := val28_ok 6 (by decide)
  have v17 := val28_ok 17 (by decide)
  have v39 := val28_ok 39 (by decide)
  have hq : ∀ l : List Nat, (∀ n ∈ l, n < 18446744073709551616) → ∀ r ∈ l.map (fun n : Nat => (n : Rat)), QB r 1 := fun l hl r hr => by
    obtain ⟨n, hn, rfl⟩ := List.mem_map.1 hr
    exact QB_nat n (hl n hn)
  have q1 := hq [1, 2, 3, 4] (by decide)
  have q2 := hq [5, 6] (by decide)
  have q3 := hq [17, 39] (by decide)
  have hd := fun (h : Heap) (m id : Nat) (hb : ∀ l, Lab.pool l = false → h l = none) (hk : h (.obj id) = some (bankO 0)) => mdo_ok h m id 0 [2, 2] [2, 1] [2, 1] ([1, 2, 3, 4].map fun n : Nat => (n : Rat)) ([5, 6].map fun n : Nat => (n : Rat)) hb hk (by decide) same28_dims (by decide) (by decide)
    (fun r hr => (q1 r hr).mono (by decide)) (fun r hr => (q2 r hr).mono (by decide))
  have ca := rAllR_ok ([17, 39].map fun n : Nat => (n : Rat)) ([17, 39].map fun n : Nat => (n : Rat)) (by decide) (by decide) (fun r hr => (q3 r hr).mono (by decide)) (fun r hr => (q3 r hr).mono (by decide))
  rw [decide_eq_true rfl] at ca
  have e1 : sV ([17, 39].map fun n : Nat => (n : Rat)) = T.slice [vT ((17 : Nat) : Rat), vT ((39 : Nat) : Rat)] := rfl
  rw [e1] at ca
  have hdo : doM [2, 2] [2, 1] [2, 1] ([1, 2, 3, 4].map fun n : Nat => (n : Rat)) ([5, 6].map fun n : Nat => (n : Rat)) (cnt [2, 1]).toNat = [((17 : Nat) : Rat), ((39 : Nat) : Rat)] := same28_do
  simp only [hdo] at hd
  simp only [sV, sI, argT, List.map_cons, List.map_nil, I] at hd
  clear hdo e1 q1 q2 q3 hq
  generalize ((1 : Nat) : Rat) = r1 at *
  generalize ((2 : Nat) : Rat) = r2 at *
  generalize ((3 : Nat) : Rat) = r3 at *
  generalize ((4 : Nat) : Rat) = r4 at *
  generalize ((5 : Nat) : Rat) = r5 at *
  generalize ((6 : Nat) : Rat) = r6 at *
  generalize ((17 : Nat) : Rat) = r17 at *
  generalize ((39 : Nat) : Rat) = r39 at *
  simp only [vT_eq] at v1 v2 v3 v4 v5 v6 v17 v39 hd ca
  have hb0 : ∀ l, Lab.pool l = false → (fun _ => none : Heap) l = none := fun _ _ => rfl
  have cn := bankNew_ok (fun _ => none) 0 hb0 rfl
  have hd := hd (upd (fun _ => none) (.obj 0) (some (bankO 0))) 1 0 (bank_hb hb0) (upd_same _ _ _)
  have hup : ∀ c c', upd (upd (fun _ => none : Heap) (.obj 0) (some (bankO c))) (.obj 0) (some (bankO c')) = upd (fun _ => none) (.obj 0) (some (bankO c')) := fun c c' => upd_upd _ _ _ _
  rw [hup] at hd
  obtain ⟨kk, hkk⟩ : ∃ kk, kM [2, 2] [2, 1] 0 (cnt [2, 1]).toNat = kk := ⟨_, rfl⟩
  rw [hkk] at hd
  refine Pure.drop (h' := upd (fun _ => none) (.obj 0) (some (bankO kk))) (m' := 1) ?_ rfl
  refine Ret.intro Tryz.func9 rfl (rt := [0]) rfl (by simp [Tryz.ntmps9]) (by decide) (sites := fun _ => false) (bank_hb hb0) (Keeps.none _) ?_
  apply run_sound 200
  simp -implicitDefEqProofs +decide only [go_sem]
  refine CallG.pureS _ Tryz.call34 (v1) (by first | rfl | (simp only [go_sem]; done) | (simp only [go_sem]; rfl)) (by first | rfl | (simp only [go_sem]; done) | (simp only [go_sem]; rfl)) ?_
  apply run_sound 200
  simp -implicitDefEqProofs +decide only [go_sem]
  refine CallG.pureS _ Tryz.call34 (v2) (by first | rfl | (simp only [go_sem]; done) | (simp only [go_sem]; rfl)) (by first | rfl | (simp only [go_sem]; done) | (simp only [go_sem]; rfl)) ?_
  apply run_sound 200
  simp -implicitDefEqProofs +decide only [go_sem]
  refine CallG.pureS _ Tryz.call34 (v3) (by first | rfl | (simp only [go_sem]; done) | (simp only [go_sem]; rfl)) (by first | rfl | (simp only [go_sem]; done) | (simp only [go_sem]; rfl)) ?_
  apply run_sound 200
  simp -implicitDefEqProofs +decide only [go_sem]
  refine CallG.pureS _ Tryz.call34 (v4) (by first | rfl | (simp only [go_sem]; done) | (simp only [go_sem]; rfl)) (by first | rfl | (simp only [go_sem]; done) | (simp only [go_sem]; rfl)) ?_
  apply run_sound 200
  simp -implicitDefEqProofs +decide only [go_sem]
  refine Goes.drawP mixed (Calm.of (by repeat first | exact Clean.und | refine Clean.upd ?_ rfl | refine Clean.upd ?_ (by simp only [cleanA, cleanL, ])) (by repeat first | exact HCalm.none | exact HCalm.hb hb | exact HCalm.hb (bank_hb hb) | refine HCalm.row ?_ | refine HCalm.box ?_ (by first | rfl | (simp only [cleanA, cleanL, ]; done) | assumption))) ?_
  simp -implicitDefEqProofs +decide only [go_sem]
  refine CallD.make _ [(.obj 0, bankO 0)] 1 Tryz.call18 cn rfl hb0 (fun l hp => by cases l <;> first | rfl | cases hp) (fun _ _ => rfl) rfl (.inl (by simp)) ?_
  simp -implicitDefEqProofs +decide only [go_sem]
  refine CallD.pureS _ Tryz.call34 v5 (by first | rfl | (simp only [go_sem]; done) | (simp only [go_sem]; rfl)) (by first | rfl | (simp only [go_sem]; done) | (simp only [go_sem]; rfl)) ?_
  simp -implicitDefEqProofs +decide only [go_sem]
  refine CallD.pureS _ Tryz.call34 v6 (by first | rfl | (simp only [go_sem]; done) | (simp only [go_sem]; rfl)) (by first | rfl | (simp only [go_sem]; done) | (simp only [go_sem]; rfl)) ?_
  simp -implicitDefEqProofs +decide only [go_sem]
  refine CallD.make _ [(.obj 0, bankO kk)] 0 Tryz.call17 hd rfl (bank_hb hb0) (by rintro (_ | _ | _ | _ | _) hp <;> first | (cases hp; done) | simp -implicitDefEqProofs +decide only [go_sem]) (fun l _ => (congrFun (hup 0 kk) l).symm) rfl (.inr rfl) ?_
  simp -implicitDefEqProofs +decide only [go_sem]
  refine ⟨.mk (by kernel_rfl), ?_⟩
  apply run_sound 200
  simp -implicitDefEqProofs +decide only [go_sem]
  refine CallG.pureS _ Tryz.call34 (v17) (by first | rfl | (simp only [go_sem]; done) | (simp only [go_sem]; rfl)) (by first | rfl | (simp only [go_sem]; done) | (simp only [go_sem]; rfl)) ?_
  apply run_sound 200
  simp -implicitDefEqProofs +decide only [go_sem]
  refine CallG.pureS _ Tryz.call34 (v39) (by first | rfl | (simp only [go_sem]; done) | (simp only [go_sem]; rfl)) (by first | rfl | (simp only [go_sem]; done) | (simp only [go_sem]; rfl)) ?_
  apply run_sound 200
  simp -implicitDefEqProofs +decide only [go_sem]
  refine CallG.pure _ Tryz.call20 ca (by simp only [List.all_cons, List.all_nil, noPtr, noPtrL, noPtr_sW, noPtr_sI, noPtr_sV, noPtrL_U, noPtrL_I, noPtrL_vT, Bool.and_true, Bool.and_self]) (by first | rfl | (simp only [go_sem]; done) | (simp only [go_sem]; rfl)) ?_
  apply run_sound 200
  simp -implicitDefEqProofs +decide only [go_sem]
  exact endF.vals [(0, .bool true)] (.inr rfl) (vals_t (by first | rfl | (simp -implicitDefEqProofs +decide only [go_sem]; done) | (simp -implicitDefEqProofs +decide only [go_sem]; rfl)) rfl vals_nil) (by rintro (_ | _ | _ | _ | _) hp <;> first | (cases hp; done) | simp -implicitDefEqProofs +decide only [go_sem]) rfl
end Go.Fm
/- The law on products' dims. -/
namespace Go.Fm
open Go.Proofs
set_option maxRecDepth 100000
attribute [local irreducible] tiOf

theorem mdims_err {a b l : List Int} {e : Int} (h : mdims a b = (l, e)) (he : e ≠ 0) : l = [] := by
  unfold mdims at h
  repeat' split at h
  all_goals first
    | exact (Prod.mk.inj h).1.symm
    | exact absurd (Prod.mk.inj h).2.symm he
theorem MD.out_len {a b out : List Int} (h : mdims a b = (out, 0)) : out.length ≤ 6 := (chk0 (mdims_inv h).co).1

theorem matmulDims_ok (a b : List Int) (n : Int) : Pure Tryz.prog 3 [sI a, sI b, .int .i64 n] [.t (.bool true)] := by
  have cs := same28_ok
  refine Pure.intro Tryz.func3 rfl (rt := [6]) rfl (by simp [Tryz.ntmps3]) (by decide) (sites := fun _ => false) ?_
  apply run_sound 200
  simp -implicitDefEqProofs +decide only [go_sem, sI]
  refine selP_dec (fun h1 => ?_) (fun h1 => ?_)
  · simp -implicitDefEqProofs +decide only [go_sem]
    refine CallG.pure _ Tryz.call9 (cs) (by first | rfl | (simp only [go_sem]; done) | (simp only [go_sem]; rfl)) (by first | rfl | (simp only [go_sem]; done) | (simp only [go_sem]; rfl)) ?_
    apply run_sound 200
    simp -implicitDefEqProofs +decide only [go_sem]
    exact endF.one (.inr rfl) (by simp -implicitDefEqProofs +decide only [go_sem]) rfl (fun _ _ => rfl) rfl
  simp -implicitDefEqProofs +decide only [go_sem]
  refine selP_dec (fun h2 => ?_) (fun h2 => ?_)
  · simp -implicitDefEqProofs +decide only [go_sem]
    refine CallG.pure _ Tryz.call9 (cs) (by first | rfl | (simp only [go_sem]; done) | (simp only [go_sem]; rfl)) (by first | rfl | (simp only [go_sem]; done) | (simp only [go_sem]; rfl)) ?_
    apply run_sound 200
    simp -implicitDefEqProofs +decide only [go_sem]
    exact endF.one (.inr rfl) (by simp -implicitDefEqProofs +decide only [go_sem]) rfl (fun _ _ => rfl) rfl
  have ha : a.length < 1000000000 := by omega
  have hb : b.length < 1000000000 := by omega
  obtain ⟨l, e, hm⟩ : ∃ l e, mdims a b = (l, e) := ⟨_, _, rfl⟩
  have c1 := mdims_ok a b l e ha hb hm
  have c2 := rDims_ok a b l e ha hb hm
  have hll : l.length < 1000000000 := by
    by_cases he : e = 0
    · subst he; have := MD.out_len hm; omega
    · rw [mdims_err hm he]; simp
  have ci := ints_ok l l hll
  rw [decide_eq_true rfl] at ci
  simp -implicitDefEqProofs +decide only [go_sem]
  refine CallG.pureS _ Tryz.call10 (c1) (by first | rfl | (simp only [go_sem]; done) | (simp only [go_sem]; rfl)) (by first | rfl | (simp only [go_sem]; done) | (simp only [go_sem]; rfl)) ?_
  apply run_sound 200
  simp -implicitDefEqProofs +decide only [go_sem, sI]
  refine CallG.pureS _ Tryz.call11 (c2) (by first | rfl | (simp only [go_sem]; done) | (simp only [go_sem]; rfl)) (by first | rfl | (simp only [go_sem]; done) | (simp only [go_sem]; rfl)) ?_
  apply run_sound 200
  simp -implicitDefEqProofs +decide only [go_sem, sI]
  by_cases he : e = 0
  · subst he
    have c4 := rTerms_ok a b l hm
    have hcn : cnt l = prodL l := by unfold cnt; rw [if_pos (mdims_inv hm).co]
    obtain ⟨N, hN⟩ : ∃ N, (prodL l).toNat = N := ⟨_, rfl⟩
    have hNp := (chk0 (mdims_inv hm).co).2.2
    have hatl := allT_length a b l N
    rw [hN] at c4
    by_cases hn : 0 ≤ n ∧ n < cnt l
    · have c3 := terms_ok a b l n hm hn
      obtain ⟨k, rfl⟩ : ∃ k : Nat, n = (k : Int) := ⟨n.toNat, by omega⟩
      have hkN : k < N := by omega
      have hg : ((allT a b l N).map sP)[k]? = some (sP (termsM a b l (k : Int))) := by rw [List.getElem?_map, allT_get hkN]; rfl
      obtain ⟨tm, htm⟩ : ∃ tm, termsM a b l (k : Int) = tm := ⟨_, rfl⟩
      have htl : tm.length ≤ 64 := by
        rw [← htm, termsM_length]
        have H := mdims_inv hm
        obtain ⟨K, hK⟩ := getI (show a.length - 1 < a.length by have := H.la; omega)
        rw [getD_of hK]
        have := chk_mem_le H.ca hK
        omega
      rw [htm] at c3 hg
      have hge : decide (((k : Nat) : Int) ≥ ((N : Nat) : Int)) = false := decide_eq_false (by omega)
      have hmm : decide ((tm.length : Int) ≠ (tm.length : Int)) = false := by simp
      have hge2 : decide (N ≤ k) = false := decide_eq_false (by omega)
      refine CallG.pureS _ Tryz.call12 (c3) (by first | rfl | (simp only [go_sem]; done) | (simp only [go_sem]; rfl)) (by first | rfl | (simp only [go_sem]; done) | (simp only [go_sem]; rfl)) ?_
      apply run_sound 200
      simp -implicitDefEqProofs +decide only [go_sem, sI]
      refine CallG.pureS _ Tryz.call13 (c4) (by first | rfl | (simp only [go_sem]; done) | (simp only [go_sem]; rfl)) (by first | rfl | (simp only [go_sem]; done) | (simp only [go_sem]; rfl)) ?_
      apply run_sound 200
      simp -implicitDefEqProofs +decide only [go_sem, sI]
      refine CallG.pure _ Tryz.call14 (ci) (by first | rfl | (simp only [go_sem]; done) | (simp only [go_sem]; rfl)) (by first | rfl | (simp only [go_sem]; done) | (simp only [go_sem]; rfl)) ?_
      apply run_sound 200
      simp -implicitDefEqProofs +decide only [go_sem, hatl, List.length_map, hge, hge2, hg, sP, hmm]
      refine Goes.loop (X := Nat) (fun i => ⟨ofL [(2, .t (.int .i64 k)), (11, .t (sP tm)), (12, .t (.slice ((allT a b l N).map sP))), (74, .t (.int .i64 tm.length)), (75, .t (.int .i64 i))], fun _ => none, 0⟩) (fun i => i ≤ tm.length) (fun i => tm.length - i) 0 ?_ (by omega) ?_
      · exact (Wk.slots _ rfl rfl (by simp -implicitDefEqProofs +decide only [go_sem, sP]) (by simp -implicitDefEqProofs +decide only [go_sem, sP]))
      rintro i hi J hJ
      apply run_sound 200
      simp -implicitDefEqProofs +decide only [go_sem, sP]
      refine selP_dec (fun h3 => ?_) (fun h3 => ?_)
      · obtain ⟨p, hp⟩ := getI (show i < tm.length by omega)
        have hw := wS (show i < 1000000000000 by omega)
        simp -implicitDefEqProofs +decide only [go_sem]
        refine Goes.drawN mixed ?_
        simp -implicitDefEqProofs +decide only [go_sem, hp, tP, hg, sP, Int.toNat_natCast]
        refine ⟨.mk (by kernel_rfl), ?_⟩
        apply run_sound 200
        simp -implicitDefEqProofs +decide only [go_sem, hw]
        refine hJ (i + 1) _ (by omega) (by omega) (Wk.slots _ rfl rfl (by simp -implicitDefEqProofs +decide only [go_sem, sP]) (by simp -implicitDefEqProofs +decide only [go_sem, sP]))
      · simp -implicitDefEqProofs +decide only [go_sem]
        refine CallG.pure _ Tryz.call9 (cs) (by first | rfl | (simp only [go_sem]; done) | (simp only [go_sem]; rfl)) (by first | rfl | (simp only [go_sem]; done) | (simp only [go_sem]; rfl)) ?_
        apply run_sound 200
        simp -implicitDefEqProofs +decide only [go_sem]
        exact endF.one (.inr rfl) (by simp -implicitDefEqProofs +decide only [go_sem]) rfl (fun _ _ => rfl) rfl
    · have c3 := terms_no a b n l 0 ha hb hm hll (.inr hn)
      refine CallG.pureS _ Tryz.call12 (c3) (by first | rfl | (simp only [go_sem]; done) | (simp only [go_sem]; rfl)) (by first | rfl | (simp only [go_sem]; done) | (simp only [go_sem]; rfl)) ?_
      apply run_sound 200
      simp -implicitDefEqProofs +decide only [go_sem, sI]
      refine CallG.pureS _ Tryz.call13 (c4) (by first | rfl | (simp only [go_sem]; done) | (simp only [go_sem]; rfl)) (by first | rfl | (simp only [go_sem]; done) | (simp only [go_sem]; rfl)) ?_
      apply run_sound 200
      simp -implicitDefEqProofs +decide only [go_sem, sI]
      refine CallG.pure _ Tryz.call14 (ci) (by first | rfl | (simp only [go_sem]; done) | (simp only [go_sem]; rfl)) (by first | rfl | (simp only [go_sem]; done) | (simp only [go_sem]; rfl)) ?_
      apply run_sound 200
      simp -implicitDefEqProofs +decide only [go_sem, hatl, List.length_map]
      refine selP_dec (fun h3 => ?_) (fun h3 => ?_)
      · simp -implicitDefEqProofs +decide only [go_sem]
        refine CallG.pure _ Tryz.call9 (cs) (by first | rfl | (simp only [go_sem]; done) | (simp only [go_sem]; rfl)) (by first | rfl | (simp only [go_sem]; done) | (simp only [go_sem]; rfl)) ?_
        apply run_sound 200
        simp -implicitDefEqProofs +decide only [go_sem]
        exact endF.one (.inr rfl) (by simp -implicitDefEqProofs +decide only [go_sem]) rfl (fun _ _ => rfl) rfl
      · simp -implicitDefEqProofs +decide only [go_sem]
        refine selP_dec (fun h4 => ?_) (fun h4 => absurd (show 0 ≤ n ∧ n < cnt l by omega) hn)
        simp -implicitDefEqProofs +decide only [go_sem]
        refine CallG.pure _ Tryz.call9 (cs) (by first | rfl | (simp only [go_sem]; done) | (simp only [go_sem]; rfl)) (by first | rfl | (simp only [go_sem]; done) | (simp only [go_sem]; rfl)) ?_
        apply run_sound 200
        simp -implicitDefEqProofs +decide only [go_sem]
        exact endF.one (.inr rfl) (by simp -implicitDefEqProofs +decide only [go_sem]) rfl (fun _ _ => rfl) rfl
  · have c3 := terms_no a b n l e ha hb hm hll (.inl he)
    have c4 := rTerms_no a b l e ha hb hm he
    have hee : decide (e ≠ e) = false := by simp
    refine CallG.pureS _ Tryz.call12 (c3) (by first | rfl | (simp only [go_sem]; done) | (simp only [go_sem]; rfl)) (by first | rfl | (simp only [go_sem]; done) | (simp only [go_sem]; rfl)) ?_
    apply run_sound 200
    simp -implicitDefEqProofs +decide only [go_sem, sI]
    refine CallG.pureS _ Tryz.call13 (c4) (by first | rfl | (simp only [go_sem]; done) | (simp only [go_sem]; rfl)) (by first | rfl | (simp only [go_sem]; done) | (simp only [go_sem]; rfl)) ?_
    apply run_sound 200
    simp -implicitDefEqProofs +decide only [go_sem, sI, hee]
    refine CallG.pure _ Tryz.call14 (ci) (by first | rfl | (simp only [go_sem]; done) | (simp only [go_sem]; rfl)) (by first | rfl | (simp only [go_sem]; done) | (simp only [go_sem]; rfl)) ?_
    apply run_sound 200
    simp -implicitDefEqProofs +decide only [go_sem]
    refine selP_dec (fun h3 => ?_) (fun h3 => ?_)
    · simp -implicitDefEqProofs +decide only [go_sem]
      refine CallG.pure _ Tryz.call9 (cs) (by first | rfl | (simp only [go_sem]; done) | (simp only [go_sem]; rfl)) (by first | rfl | (simp only [go_sem]; done) | (simp only [go_sem]; rfl)) ?_
      apply run_sound 200
      simp -implicitDefEqProofs +decide only [go_sem]
      exact endF.one (.inr rfl) (by simp -implicitDefEqProofs +decide only [go_sem]) rfl (fun _ _ => rfl) rfl
    · simp -implicitDefEqProofs +decide only [go_sem]
      refine selP_dec (fun h4 => ?_) (fun h4 => absurd (by omega) h4)
      simp -implicitDefEqProofs +decide only [go_sem]
      refine CallG.pure _ Tryz.call9 (cs) (by first | rfl | (simp only [go_sem]; done) | (simp only [go_sem]; rfl)) (by first | rfl | (simp only [go_sem]; done) | (simp only [go_sem]; rfl)) ?_
      apply run_sound 200
      simp -implicitDefEqProofs +decide only [go_sem]
      exact endF.one (.inr rfl) (by simp -implicitDefEqProofs +decide only [go_sem]) rfl (fun _ _ => rfl) rfl
end Go.Fm
