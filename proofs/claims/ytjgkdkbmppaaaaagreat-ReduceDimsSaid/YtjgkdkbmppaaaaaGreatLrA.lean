/- Scalars: alike; lists of them. -/
import Derived.Test.YtjgkdkbmppaaaaaGreatMrA
import Derived.Test.YtjgkdkbmppaaaaaGreatErA
import Derived.Test.YtjgkdkbmppaaaaaGreatDrA
set_option linter.unusedVariables false
set_option linter.unusedSimpArgs false
namespace Go.Fm
open Go.Proofs
set_option maxRecDepth 100000
attribute [local irreducible] tiOf

/-- A scalar of any mode. -/
structure Sc where
  x : Rt
  b : Nat
  f : Int
  deriving DecidableEq
def Sc.T (s : Sc) : T := .agg [.bool s.x.neg, sW s.x.p, sW s.x.q, .int .u64 s.b, .int .i64 s.f]
theorem Sc.T_eq (n : Bool) (p q : List Nat) (b : Nat) (f : Int) : Sc.T ⟨⟨n, p, q⟩, b, f⟩ = .agg [.bool n, sW p, sW q, .int .u64 b, .int .i64 f] := rfl
theorem noPtr_ScU (n : Bool) (p q : List Nat) (b f : Int) : noPtr (.agg [.bool n, .slice (p.map U), .slice (q.map U), .int .u64 b, .int .i64 f]) = true := by
  have h1 : noPtrL (p.map U) = true := by have := noPtr_sW p; simpa only [sW, noPtr] using this
  have h2 : noPtrL (q.map U) = true := by have := noPtr_sW q; simpa only [sW, noPtr] using this
  simp only [noPtr, noPtrL, Bool.and_true, Bool.true_and, h1, h2]
theorem noPtr_ScW (n : Bool) (p q : List Nat) (b f : Int) : noPtr (.agg [.bool n, sW p, sW q, .int .u64 b, .int .i64 f]) = true := noPtr_ScU n p q b f
def sS (l : List Sc) : T := .slice (l.map Sc.T)
attribute [go_sem] noPtr_ScU noPtr_ScW
theorem noPtrL_U (l : List Nat) : noPtrL (l.map U) = true := by have := noPtr_sW l; simpa only [sW, noPtr] using this
theorem noPtrL_I (l : List Int) : noPtrL (l.map I) = true := by have := noPtr_sI l; simpa only [sI, noPtr] using this
theorem noPtr_vT (r : Rat) : noPtr (vT r) = true := noPtr_ScW _ _ _ 0 0
theorem noPtrL_vT (l : List Rat) : noPtrL (l.map vT) = true := by
  induction l with
  | nil => rfl
  | cons x r ih => rw [List.map_cons, noPtrL, ih, noPtr_vT]; rfl
theorem noPtr_sV (l : List Rat) : noPtr (sV l) = true := by unfold sV; rw [noPtr, noPtrL_vT]
def scR (r : Rat) : Sc := ⟨qR r, 0, 0⟩
theorem qR_inj {r s : Rat} (h : qR r = qR s) : r = s := by
  have h1 := congrArg Rt.neg h
  have h2 := congrArg Rt.p h
  have h3 := congrArg Rt.q h
  have e2 := congrArg nv h2
  have e3 := congrArg nv h3
  simp only [qR, nv_wordsOf] at e2 e3
  have e1 : decide (r.num < 0) = decide (s.num < 0) := h1
  have e1 := decide_eq_decide.1 e1
  exact Rat.ext (by omega) e3
theorem scR_inj {r s : Rat} (h : scR r = scR s) : r = s := qR_inj (congrArg Sc.x h)
theorem scR_map {l m : List Rat} : l.map scR = m.map scR ↔ l = m := ⟨fun h => (List.map_inj_right fun _ _ => scR_inj).1 h, fun h => by rw [h]⟩
def ScB (n : Nat) (s : Sc) : Prop := s.x.p.length < n ∧ s.x.q.length < n

theorem rSameV_ok (s t : Sc) (hs : ScB 1000000000 s) (ht : ScB 1000000000 t) : Pure Tryz.prog 49 [s.T, t.T] [.t (.bool (decide (s = t)))] := by
  obtain ⟨x, b, f⟩ := s
  obtain ⟨y, c, g⟩ := t
  have c1 := rSame_ok x y hs.1 hs.2 ht.1 ht.2
  obtain ⟨n, p, q⟩ := x
  obtain ⟨n', p', q'⟩ := y
  simp only [Rt.T, rT] at c1
  have hb : decide ((b : Int) = (c : Int)) = decide (b = c) := decide_eq_decide.2 (by omega)
  refine Pure.intro Tryz.func49 rfl (rt := [4]) rfl (by simp [Tryz.ntmps49]) (by decide) (sites := fun _ => false) ?_
  apply run_sound 200
  simp -implicitDefEqProofs +decide only [go_sem, Sc.T_eq, sW, hb]
  refine selP_dec (fun h1 => ?_) (fun h1 => ?_)
  · subst h1
    simp -implicitDefEqProofs +decide only [go_sem]
    refine selP_dec (fun h2 => ?_) (fun h2 => ?_)
    · subst h2
      simp only [sW] at c1
      simp -implicitDefEqProofs +decide only [go_sem]
      refine CallG.pure _ Tryz.call82 (c1) (by first | rfl | (simp only [go_sem]; done) | (simp only [go_sem]; rfl)) (by first | rfl | (simp only [go_sem]; done) | (simp only [go_sem]; rfl)) ?_
      apply run_sound 200
      simp -implicitDefEqProofs +decide only [go_sem]
      have e : decide ((Sc.mk ⟨n, p, q⟩ b f) = ⟨⟨n', p', q'⟩, b, f⟩) = decide (Rt.mk n p q = ⟨n', p', q'⟩) := decide_eq_decide.2 (by simp)
      rw [e]
      exact endF.vals [(4, .bool (decide (Rt.mk n p q = ⟨n', p', q'⟩)))] (.inr rfl) (vals_t (by simp -implicitDefEqProofs +decide only [go_sem] <;> rfl) rfl vals_nil) (fun l hp => by cases l <;> first | rfl | cases hp) rfl
    · have e : decide ((Sc.mk ⟨n, p, q⟩ b f) = ⟨⟨n', p', q'⟩, b, g⟩) = false := decide_eq_false fun h => h2 (congrArg Sc.f h)
      rw [e]
      simp -implicitDefEqProofs +decide only [go_sem, h2]
      exact endF.vals [(4, .bool false)] (.inr rfl) (vals_t (by simp -implicitDefEqProofs +decide only [go_sem] <;> rfl) rfl vals_nil) (fun l hp => by cases l <;> first | rfl | cases hp) rfl
  · have e : decide ((Sc.mk ⟨n, p, q⟩ b f) = ⟨⟨n', p', q'⟩, c, g⟩) = false := decide_eq_false fun h => h1 (congrArg Sc.b h)
    rw [e]
    simp -implicitDefEqProofs +decide only [go_sem, h1]
    exact endF.vals [(4, .bool false)] (.inr rfl) (vals_t (by simp -implicitDefEqProofs +decide only [go_sem] <;> rfl) rfl vals_nil) (fun l hp => by cases l <;> first | rfl | cases hp) rfl

theorem rAllV_ok (a b : List Sc) (ha : a.length < 1000000000) (hb : b.length < 1000000000) (ha2 : ∀ s ∈ a, ScB 1000000000 s) (hb2 : ∀ s ∈ b, ScB 1000000000 s) : Pure Tryz.prog 20 [sS a, sS b] [.t (.bool (decide (a = b)))] := by
  refine Pure.intro Tryz.func20 rfl (rt := [4]) rfl (by simp [Tryz.ntmps20]) (by decide) (sites := fun _ => false) ?_
  apply run_sound 200
  simp -implicitDefEqProofs +decide only [go_sem, sS, List.length_map]
  refine selP_dec (fun h1 => ?_) (fun h1 => ?_)
  · have : decide (a = b) = false := decide_eq_false (fun e => by subst e; exact h1 rfl)
    rw [this]
    simp -implicitDefEqProofs +decide only [go_sem]
    exact endF.vals [(4, .bool false)] (.inr rfl) (vals_t (by simp -implicitDefEqProofs +decide only [go_sem] <;> rfl) rfl vals_nil) (fun l hp => by cases l <;> first | rfl | cases hp) rfl
  have hl : a.length = b.length := by omega
  simp -implicitDefEqProofs +decide only [go_sem]
  refine Goes.loop (X := Nat) (fun i => ⟨ofL [(0, .t (sS a)), (1, .t (sS b)), (12, .t (.int .i64 a.length)), (13, .t (.int .i64 i))], fun _ => none, 0⟩) (fun i => i ≤ a.length ∧ a.take i = b.take i) (fun i => a.length - i) 0 ?_ (by simp) ?_
  · exact (Wk.slots _ rfl rfl (by simp -implicitDefEqProofs +decide only [go_sem, sS]) (by simp -implicitDefEqProofs +decide only [go_sem, sS]))
  rintro i ⟨hi, he⟩ J hJ
  apply run_sound 200
  simp -implicitDefEqProofs +decide only [go_sem, sS]
  refine selP_dec (fun hc => ?_) (fun hc => ?_)
  · obtain ⟨x, hx⟩ := getI (show i < a.length by omega)
    obtain ⟨y, hy⟩ := getI (show i < b.length by omega)
    have hw := wS (show i < 1000000000000 by omega)
    have c := rSameV_ok x y (ha2 x (List.mem_of_getElem? hx)) (hb2 y (List.mem_of_getElem? hy))
    obtain ⟨⟨xn, xp, xq⟩, xb, xf⟩ := x
    obtain ⟨⟨yn, yp, yq⟩, yb, yf⟩ := y
    simp -implicitDefEqProofs +decide only [go_sem]
    refine Goes.drawN mixed ?_
    simp -implicitDefEqProofs +decide only [go_sem, sS, hx, hy, Sc.T_eq, sW]
    simp only [Sc.T_eq, sW] at c
    refine CallD.pure _ Tryz.call49 c (by first | rfl | (simp only [go_sem]; done) | (simp only [go_sem]; rfl)) (by first | rfl | (simp only [go_sem]; done) | (simp only [go_sem]; rfl)) ?_
    simp -implicitDefEqProofs +decide only [go_sem]
    refine ⟨.mk (by kernel_rfl), ?_⟩
    apply run_sound 200
    simp -implicitDefEqProofs +decide only [go_sem]
    refine selP_ndec (fun h2 => ?_) (fun h2 => ?_)
    · have : decide (a = b) = false := decide_eq_false (fun e => by subst e; rw [hx] at hy; cases hy; exact h2 rfl)
      rw [this]
      simp -implicitDefEqProofs +decide only [go_sem, h2]
      exact endF.vals [(4, .bool false)] (.inr rfl) (vals_t (by simp -implicitDefEqProofs +decide only [go_sem] <;> rfl) rfl vals_nil) (fun l hp => by cases l <;> first | rfl | cases hp) rfl
    · simp -implicitDefEqProofs +decide only [go_sem, h2, hw]
      refine hJ (i + 1) _ ⟨by omega, by rw [List.take_add_one, List.take_add_one, hx, hy, he, h2]⟩ (by omega) (Wk.slots _ rfl rfl (by simp -implicitDefEqProofs +decide only [go_sem, sS, hw]) (by simp -implicitDefEqProofs +decide only [go_sem, sS, hw]))
  · have : decide (a = b) = true := decide_eq_true (by rw [← List.take_of_length_le (l := a) (i := i) (by omega), he, List.take_of_length_le (by omega)])
    rw [this]
    simp -implicitDefEqProofs +decide only [go_sem]
    exact endF.vals [(4, .bool true)] (.inr rfl) (vals_t (by simp -implicitDefEqProofs +decide only [go_sem] <;> rfl) rfl vals_nil) (fun l hp => by cases l <;> first | rfl | cases hp) rfl
theorem rAllR_ok (a b : List Rat) (ha : a.length < 1000000000) (hb : b.length < 1000000000) (ha2 : ∀ r ∈ a, QB r 10000000) (hb2 : ∀ r ∈ b, QB r 10000000) : Pure Tryz.prog 20 [sV a, sV b] [.t (.bool (decide (a = b)))] := by
  have hq : ∀ l : List Rat, (∀ r ∈ l, QB r 10000000) → ∀ s ∈ l.map scR, ScB 1000000000 s := fun l hl s hs => by
    obtain ⟨r, hr, rfl⟩ := List.mem_map.1 hs
    have h1 := (hl r hr).n
    have h2 := (hl r hr).d
    exact ⟨by show (wordsOf r.num.natAbs).length < _; omega, by show (wordsOf r.den).length < _; omega⟩
  have c := rAllV_ok (a.map scR) (b.map scR) (by simpa using ha) (by simpa using hb) (hq a ha2) (hq b hb2)
  have e : ∀ l : List Rat, sS (l.map scR) = sV l := fun l => by unfold sS sV; rw [List.map_map]; rfl
  rw [e, e, decide_eq_decide.2 scR_map] at c
  exact c
end Go.Fm
/- Lists held against each other. -/
namespace Go.Fm
open Go.Proofs
set_option maxRecDepth 100000
attribute [local irreducible] tiOf

theorem eq_take {α : Type} {a b : List α} {i : Nat} (hl : a.length = b.length) (he : a.take i = b.take i) (hi : a.length ≤ i) : a = b := by
  rw [← List.take_of_length_le (l := a) (i := i) hi, he, List.take_of_length_le (by omega)]

theorem ints_ok (a b : List Int) (ha : a.length < 1000000000) : Pure Tryz.prog 14 [sI a, sI b] [.t (.bool (decide (a = b)))] := by
  refine Pure.intro Tryz.func14 rfl (rt := [4]) rfl (by simp [Tryz.ntmps14]) (by decide) (sites := fun _ => false) ?_
  apply run_sound 200
  simp -implicitDefEqProofs +decide only [go_sem, sI]
  refine selP_dec (fun h1 => ?_) (fun h1 => ?_)
  · have : decide (a = b) = false := decide_eq_false (fun e => by subst e; exact h1 rfl)
    rw [this]
    simp -implicitDefEqProofs +decide only [go_sem]
    exact endF.vals [(4, .bool false)] (.inr rfl) (vals_t (by simp -implicitDefEqProofs +decide only [go_sem] <;> rfl) rfl vals_nil) (fun l hp => by cases l <;> first | rfl | cases hp) rfl
  have hl : a.length = b.length := by omega
  simp -implicitDefEqProofs +decide only [go_sem]
  refine Goes.loop (X := Nat) (fun i => ⟨ofL [(0, tI a), (1, tI b), (12, .t (.int .i64 a.length)), (13, .t (.int .i64 i))], fun _ => none, 0⟩) (fun i => i ≤ a.length ∧ a.take i = b.take i) (fun i => a.length - i) 0 ?_ (by simp) ?_
  · exact (Wk.slots _ rfl rfl (by simp -implicitDefEqProofs +decide only [go_sem, tI, sI]) (by simp -implicitDefEqProofs +decide only [go_sem, tI, sI]))
  rintro i ⟨hi, he⟩ J hJ
  apply run_sound 200
  simp -implicitDefEqProofs +decide only [go_sem, tI, sI]
  refine selP_dec (fun hc => ?_) (fun hc => ?_)
  · obtain ⟨x, hx⟩ := getI (show i < a.length by omega)
    obtain ⟨y, hy⟩ := getI (show i < b.length by omega)
    have hw := wS (show i < 1000000000000 by omega)
    simp -implicitDefEqProofs +decide only [go_sem]
    refine Goes.drawN mixed ?_
    simp -implicitDefEqProofs +decide only [go_sem, tI, sI, I, hx, hy]
    refine ⟨.mk (by kernel_rfl), ?_⟩
    apply run_sound 200
    simp -implicitDefEqProofs +decide only [go_sem]
    refine selP_dec (fun h2 => ?_) (fun h2 => ?_)
    · have : decide (a = b) = false := decide_eq_false (fun e => by subst e; rw [hx] at hy; cases hy; exact h2 rfl)
      rw [this]
      simp -implicitDefEqProofs +decide only [go_sem]
      exact endF.vals [(4, .bool false)] (.inr rfl) (vals_t (by simp -implicitDefEqProofs +decide only [go_sem] <;> rfl) rfl vals_nil) (fun l hp => by cases l <;> first | rfl | cases hp) rfl
    · obtain rfl : x = y := by simpa using h2
      simp -implicitDefEqProofs +decide only [go_sem, hw]
      refine hJ (i + 1) _ ⟨by omega, by rw [take_snoc hx, take_snoc hy, he]⟩ (by omega) (Wk.slots _ rfl rfl (by simp -implicitDefEqProofs +decide only [go_sem, tI, sI, hw]) (by simp -implicitDefEqProofs +decide only [go_sem, tI, sI, hw]))
  · have : decide (a = b) = true := decide_eq_true (eq_take hl he (by omega))
    rw [this]
    simp -implicitDefEqProofs +decide only [go_sem]
    exact endF.vals [(4, .bool true)] (.inr rfl) (vals_t (by simp -implicitDefEqProofs +decide only [go_sem] <;> rfl) rfl vals_nil) (fun l hp => by cases l <;> first | rfl | cases hp) rfl

end Go.Fm
/- Operands: whether they are short, and right. -/
namespace Go.Fm
open Go.Proofs
set_option maxRecDepth 100000
attribute [local irreducible] tiOf

def longB (k : Nat) (x : Rt) : Bool := decide (k < x.p.length) || decide (k < x.q.length)
def wideB (k : Nat) (l : List Sc) : Bool := l.any fun s => longB k s.x
/-- An operand. -/
structure Ag where
  d : List Int
  v : List Sc
def Ag.T (a : Ag) : T := .agg [sI a.d, sS a.v]
def sA (l : List Ag) : T := .slice (l.map Ag.T)

def agB (a : Ag) : Bool := decide (20 < a.d.length) || decide (100 < a.v.length) || wideB 9 a.v
def argsB (l : List Ag) : Bool := l.any agB || decide (6 < l.length)
end Go.Fm
/- Operands of exact numbers. -/
namespace Go.Fm
open Go.Proofs
set_option maxRecDepth 100000
attribute [local irreducible] tiOf

/-- A scalar that is an exact number. -/
def rightB (s : Sc) : Bool := decide (s.b = 0) && (decide (s.f = 0) && rtR s.x)
structure SOK (s : Sc) (k : Nat) : Prop where
  p : WOK s.x.p
  q : WOK s.x.q
  lp : s.x.p.length ≤ k
  lq : s.x.q.length ≤ k
end Go.Fm
/- What laws on operands use besides. -/
namespace Go.Fm
open Go.Proofs
set_option maxRecDepth 100000
attribute [local irreducible] tiOf

theorem qR_nat (n : Nat) : qR (n : Rat) = ⟨false, wordsOf n, [1]⟩ := by
  have h : ¬ (n : Rat).num < 0 := by rw [Rat.num_natCast]; omega
  unfold qR
  rw [decide_eq_false h, Rat.num_natCast, Rat.den_natCast, words_one, Int.natAbs_natCast]
theorem lowQ_nat (n : Nat) : lowQ false n 1 = qR (n : Rat) := by
  rw [qR_nat]
  unfold lowQ
  rw [Nat.gcd_one_right, Nat.div_one, Nat.div_one, words_one]; rfl
theorem rVal_ok (n : Nat) (h : n < 18446744073709551616) : Pure Tryz.prog 76 [.bool false, sW [n], sW [1]] [.t (qR (n : Rat)).T] := by
  have hw : WOK [n] := fun y hy => by rw [List.mem_singleton.1 hy]; exact h
  have c := rMake_ok false [n] [1] hw WOK_one (by simp) (by simp) (by decide) (by rw [nv_one, tz_odd rfl]; decide)
  have e : nv [n] = n := by simp [nv]
  rw [e, nv_one, lowQ_nat] at c
  exact c
theorem QB_nat (n : Nat) (h : n < 18446744073709551616) : QB (n : Rat) 1 := by
  refine ⟨?_, ?_⟩
  · show (wordsOf (n : Rat).num.natAbs).length ≤ 1
    rw [Rat.num_natCast]
    exact len_wordsOf (by simpa using h)
  · show (wordsOf (n : Rat).den).length ≤ 1
    rw [Rat.den_natCast, words_one]; exact Nat.le_refl _
attribute [go_sem] noPtr_sV
theorem obj_up (h : Heap) (id c c' : Nat) : upd (upd h (.obj id) (some (bankO c))) (.obj id) (some (bankO c')) = upd h (.obj id) (some (bankO c')) := upd_upd _ _ _ _
end Go.Fm
/- Copies; whether scalars are not too long; dims that can be spread. -/
namespace Go.Fm
open Go.Proofs
set_option maxRecDepth 100000
attribute [local irreducible] tiOf

theorem copied_ok (x : Rt) (hp : x.p.length < 1000000000) (hq : x.q.length < 1000000000) : Pure Tryz.prog 94 [x.T] [.t x.T] := by
  obtain ⟨n, p, q⟩ := x
  dsimp only at hp hq
  have b1 : p.length < big := by unfold big; omega
  have b2 : q.length < big := by unfold big; omega
  have t1 : List.take p.length (p.map U) = p.map U := List.take_of_length_le (by simp)
  have t2 : List.take q.length (q.map U) = q.map U := List.take_of_length_le (by simp)
  refine Pure.introC Tryz.func94 rfl (rv := [.c 2 _]) rfl (by simp [Tryz.ntmps94]) (by decide) (sites := fun _ => false) ?_
  apply run_sound 200
  simp -implicitDefEqProofs +decide only [go_sem, Rt.T, rT, sW]
  refine Goes.drawN mixed ?_
  simp -implicitDefEqProofs +decide only [go_sem, b1, b2, t1, t2, List.length_map, Nat.zero_add, List.nil_append]
  refine ⟨.mk (by kernel_rfl), ?_⟩
  apply run_sound 200
  simp -implicitDefEqProofs +decide only [go_sem]
  exact endC.one (.inr rfl) (by first | rfl | (simp -implicitDefEqProofs +decide only [go_sem, valC, Rt.T, rT, sW, t1, t2]; done) | (simp -implicitDefEqProofs +decide only [go_sem, valC, Rt.T, rT, sW, t1, t2]; rfl)) (by first | rfl | (simp -implicitDefEqProofs +decide only [go_sem, Rt.T, rT, sW, t1, t2]; done) | (simp -implicitDefEqProofs +decide only [go_sem, Rt.T, rT, sW, t1, t2]; rfl)) (fun l hp => by cases l <;> first | rfl | cases hp) rfl
theorem copy_ok (s : Sc) (h : ScB 1000000000 s) : Pure Tryz.prog 59 [s.T] [.t s.T] := by
  have c := copied_ok s.x h.1 h.2
  obtain ⟨⟨n, p, q⟩, b, f⟩ := s
  simp only [Rt.T, rT, sW] at c
  refine Pure.introC Tryz.func59 rfl (rv := [.c 2 _]) rfl (by simp [Tryz.ntmps59]) (by decide) (sites := fun _ => false) ?_
  apply run_sound 200
  simp -implicitDefEqProofs +decide only [go_sem, Sc.T_eq, sW]
  refine Goes.drawN mixed ?_
  simp -implicitDefEqProofs +decide only [go_sem]
  refine CallD.pureS _ Tryz.call94 c (by first | rfl | (simp only [go_sem]; done) | (simp only [go_sem]; rfl)) (by first | rfl | (simp only [go_sem]; done) | (simp only [go_sem]; rfl)) ?_
  simp -implicitDefEqProofs +decide only [go_sem]
  refine ⟨.mk (by kernel_rfl), ?_⟩
  apply run_sound 200
  simp -implicitDefEqProofs +decide only [go_sem]
  exact endC.one (.inr rfl) (by first | rfl | (simp -implicitDefEqProofs +decide only [go_sem, valC, Sc.T_eq, sW]; done) | (simp -implicitDefEqProofs +decide only [go_sem, valC, Sc.T_eq, sW]; rfl)) (by first | rfl | (simp -implicitDefEqProofs +decide only [go_sem, Sc.T_eq, sW]; done) | (simp -implicitDefEqProofs +decide only [go_sem, Sc.T_eq, sW]; rfl)) (fun l hp => by cases l <;> first | rfl | cases hp) rfl
theorem copyR_ok (r : Rat) (h : QB r 10000000) : Pure Tryz.prog 59 [vT r] [.t (vT r)] := by
  have h1 := h.n
  have h2 := h.d
  exact copy_ok (scR r) ⟨by show (wordsOf r.num.natAbs).length < _; omega, by show (wordsOf r.den).length < _; omega⟩

/-- How many bits a number has. -/
def bitsR (r : Rat) : Nat := max (bitLen r.num.natAbs) (bitLen r.den)
end Go.Fm
/- Which element is spread to a place. -/
namespace Go.Fm
open Go.Proofs
set_option maxRecDepth 100000
attribute [local irreducible] tiOf

/-- The place, with what stands at dims of 1 set to 0, up to one. -/
def zerosL (f D : List Int) (o k : Nat) : List Int := (List.range D.length).map fun j => if o ≤ j ∧ j - o < k ∧ f.getD (j - o) 0 = 1 then 0 else D.getD j 0
end Go.Fm
/- Writes: what is wrong with one. -/
namespace Go.Fm
open Go.Proofs
set_option maxRecDepth 100000
attribute [local irreducible] tiOf

/-- What a primitive is told. -/
structure Atr where
  n : Int
  a : Int
  b : Int
  c : Int
  p : Int
  q : Int
  r : Int
  s : Int
  keep : Bool
  list : List Int
def Atr.T (x : Atr) : T := .agg [I x.n, I x.a, I x.b, I x.c, I x.p, I x.q, I x.r, I x.s, .bool x.keep, sI x.list]

/-- What is wrong with a write that has a source. -/
noncomputable def wchk (to frm : Ag) : Int := if chk to.d ≠ 0 then chk to.d else if (to.v.length : Int) ≠ cnt to.d then 1 else if chk frm.d ≠ 0 then chk frm.d else if (frm.v.length : Int) ≠ cnt frm.d then 1 else if twoS frm.d to.d ≠ (to.d, 0) then 8 else 0
end Go.Fm
/- Writes of exact numbers. -/
namespace Go.Fm
open Go.Proofs
set_option maxRecDepth 100000
attribute [local irreducible] tiOf

def markT (k : Nat) : T := .agg [.int .i64 0, .int .i64 0, .int .i64 0, .int .i64 k, .int .i64 0, .bool false, .int .i64 0]
/-- A write's elements. -/
def wrL (g : Rat → Rat → Rat) (f t : List Int) (xs ys : List Rat) (n : Nat) : List Rat := (List.range n).map fun (i : Nat) => g (xs.getD i 0) (ys.getD (srcN f t (i : Int)).toNat 0)
end Go.Fm
/- The law on writes: what it asks for besides. -/
namespace Go.Fm
open Go.Proofs
set_option maxRecDepth 100000
attribute [local irreducible] tiOf

theorem bitLen_lt {n k : Nat} (h : n < 2 ^ k) : bitLen n ≤ k := by
  rcases Nat.lt_or_ge k (bitLen n) with h1 | h1
  · have hn : n ≠ 0 := fun e => by subst e; simp [bitLen] at h1
    obtain ⟨b1, _, b3⟩ := bitLen_bounds hn
    have : 2 ^ k ≤ 2 ^ (bitLen n - 1) := Nat.pow_le_pow_right (by decide) (by omega)
    omega
  · exact h1
theorem lt_wordsOf {n k : Nat} (h : (wordsOf n).length ≤ k) : n < 2 ^ (64 * k) := by
  have h1 := nv_lt (WOK_wordsOf n)
  rw [nv_wordsOf] at h1
  rw [Nat.pow_mul]
  exact Nat.lt_of_lt_of_le h1 (Nat.pow_le_pow_right (by decide) h)
theorem QB.bits {r : Rat} {k : Nat} (h : QB r k) : bitsR r ≤ 64 * k := Nat.max_le.2 ⟨bitLen_lt (lt_wordsOf h.n), bitLen_lt (lt_wordsOf h.d)⟩

end Go.Fm
/- Scalars and operands read as data. -/
namespace Go.Fm
open Go.Proofs
set_option maxRecDepth 100000
attribute [local irreducible] tiOf

theorem dat1 {n : Nat} {t : TypeId} {a : T} (hm : mkT Tryz.prog t [a] = a) (h : Typed Tryz.prog n t [a]) : Dat Tryz.prog n t a := ⟨[a], h, hm.symm⟩
theorem dat_int {n : Nat} {x : T} (h : Dat Tryz.prog (n + 1) 3 x) : ∃ z : Int, (-9223372036854775808 ≤ z ∧ z ≤ 9223372036854775807) ∧ x = I z := by
  obtain ⟨z, hz, rfl⟩ := Dat.int Tryz.underlying3 h
  exact ⟨z, wf64 hz, rfl⟩
theorem dat_ints {n : Nat} {x : T} (h : Dat Tryz.prog (n + 2) 22 x) : ∃ l : List Int, (l.length * 8 ≤ reachBytes ∧ ∀ z ∈ l, -9223372036854775808 ≤ z ∧ z ≤ 9223372036854775807) ∧ x = sI l := by
  obtain ⟨l, hl, rfl⟩ := Dat.slice (f := I) (Q := fun z => -9223372036854775808 ≤ z ∧ z ≤ 9223372036854775807) Tryz.underlying22 (fun x hx => dat_int hx) h
  rw [show (Tryz.prog).bytesOf 3 = 8 by kernel_rfl] at hl
  exact ⟨l, hl, rfl⟩
def ScW (s : Sc) : Prop := WOK s.x.p ∧ WOK s.x.q
end Go.Fm
