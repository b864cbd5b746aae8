/- Scalars: alike; lists of them. -/
import Derived.Test.YtjgkdkbmppaaaaaGreatMsA
import Derived.Test.YtjgkdkbmppaaaaaGreatEsA
import Derived.Test.YtjgkdkbmppaaaaaGreatDsA
set_option linter.unusedVariables false
set_option linter.unusedSimpArgs false
namespace Go.Fm
open Go.Proofs
set_option maxRecDepth 100000
attribute [local irreducible] tiOf

/-- A scalar of any mode. -/
structure Sc where
  x : Rt
  b : Nat
  f : Int
  deriving DecidableEq
def Sc.T (s : Sc) : T := .agg [.bool s.x.neg, sW s.x.p, sW s.x.q, .int .u64 s.b, .int .i64 s.f]
theorem Sc.T_eq (n : Bool) (p q : List Nat) (b : Nat) (f : Int) : Sc.T ⟨⟨n, p, q⟩, b, f⟩ = .agg [.bool n, sW p, sW q, .int .u64 b, .int .i64 f] := rfl
theorem noPtr_Sc (s : Sc) : noPtr s.T = true := by
  simp only [Sc.T, noPtr, noPtrL, Bool.and_true, Bool.true_and]
  rw [noPtr_sW, noPtr_sW]; rfl
theorem noPtr_ScU (n : Bool) (p q : List Nat) (b f : Int) : noPtr (.agg [.bool n, .slice (p.map U), .slice (q.map U), .int .u64 b, .int .i64 f]) = true := by
  have h1 : noPtrL (p.map U) = true := by have := noPtr_sW p; simpa only [sW, noPtr] using this
  have h2 : noPtrL (q.map U) = true := by have := noPtr_sW q; simpa only [sW, noPtr] using this
  simp only [noPtr, noPtrL, Bool.and_true, Bool.true_and, h1, h2]
theorem noPtr_ScW (n : Bool) (p q : List Nat) (b f : Int) : noPtr (.agg [.bool n, sW p, sW q, .int .u64 b, .int .i64 f]) = true := noPtr_ScU n p q b f
def sS (l : List Sc) : T := .slice (l.map Sc.T)
theorem noPtr_sS (l : List Sc) : noPtr (sS l) = true := by
  have : ∀ l : List Sc, noPtrL (l.map Sc.T) = true := fun l => by
    induction l with
    | nil => rfl
    | cons x r ih => rw [List.map_cons, noPtrL, ih, noPtr_Sc]; rfl
  unfold sS; rw [noPtr, this]
theorem noPtr_sSU (l : List Sc) : noPtr (.slice (l.map Sc.T)) = true := noPtr_sS l
attribute [go_sem] noPtr_Sc noPtr_ScU noPtr_ScW noPtr_sS noPtr_sSU
theorem noPtrL_U (l : List Nat) : noPtrL (l.map U) = true := by have := noPtr_sW l; simpa only [sW, noPtr] using this
theorem noPtrL_I (l : List Int) : noPtrL (l.map I) = true := by have := noPtr_sI l; simpa only [sI, noPtr] using this
theorem noPtr_vT (r : Rat) : noPtr (vT r) = true := noPtr_ScW _ _ _ 0 0
theorem noPtrL_vT (l : List Rat) : noPtrL (l.map vT) = true := by
  induction l with
  | nil => rfl
  | cons x r ih => rw [List.map_cons, noPtrL, ih, noPtr_vT]; rfl
theorem noPtr_sV (l : List Rat) : noPtr (sV l) = true := by unfold sV; rw [noPtr, noPtrL_vT]
def scR (r : Rat) : Sc := ⟨qR r, 0, 0⟩
theorem qR_inj {r s : Rat} (h : qR r = qR s) : r = s := by
  have h1 := congrArg Rt.neg h
  have h2 := congrArg Rt.p h
  have h3 := congrArg Rt.q h
  have e2 := congrArg nv h2
  have e3 := congrArg nv h3
  simp only [qR, nv_wordsOf] at e2 e3
  have e1 : decide (r.num < 0) = decide (s.num < 0) := h1
  have e1 := decide_eq_decide.1 e1
  exact Rat.ext (by omega) e3
theorem scR_inj {r s : Rat} (h : scR r = scR s) : r = s := qR_inj (congrArg Sc.x h)
theorem scR_map {l m : List Rat} : l.map scR = m.map scR ↔ l = m := ⟨fun h => (List.map_inj_right fun _ _ => scR_inj).1 h, fun h => by rw [h]⟩
def ScB (n : Nat) (s : Sc) : Prop := s.x.p.length < n ∧ s.x.q.length < n

theorem rSameV_ok (s t : Sc) (hs : ScB 1000000000 s) (ht : ScB 1000000000 t) : Pure Tryz.prog 49 [s.T, t.T] [.t (.bool (decide (s = t)))] := by
  obtain ⟨x, b, f⟩ := s
  obtain ⟨y, c, g⟩ := t
  have c1 := rSame_ok x y hs.1 hs.2 ht.1 ht.2
  obtain ⟨n, p, q⟩ := x
  obtain ⟨n', p', q'⟩ := y
  simp only [Rt.T, rT] at c1
  have hb : decide ((b : Int) = (c : Int)) = decide (b = c) := decide_eq_decide.2 (by omega)
  refine Pure.intro Tryz.func49 rfl (rt := [4]) rfl (by simp [Tryz.ntmps49]) (by decide) (sites := fun _ => false) ?_
  apply run_sound 200
  simp -implicitDefEqProofs +decide only [go_sem, Sc.T_eq, sW, hb]
  refine selP_dec (fun h1 => ?_) (fun h1 => ?_)
  · subst h1
    simp -implicitDefEqProofs +decide only [go_sem]
    refine selP_dec (fun h2 => ?_) (fun h2 => ?_)
    · subst h2
      simp only [sW] at c1
      simp -implicitDefEqProofs +decide only [go_sem]
      refine CallG.pure _ Tryz.call82 (c1) (by first | rfl | (simp only [go_sem]; done) | (simp only [go_sem]; rfl)) (by first | rfl | (simp only [go_sem]; done) | (simp only [go_sem]; rfl)) ?_
      apply run_sound 200
      simp -implicitDefEqProofs +decide only [go_sem]
      have e : decide ((Sc.mk ⟨n, p, q⟩ b f) = ⟨⟨n', p', q'⟩, b, f⟩) = decide (Rt.mk n p q = ⟨n', p', q'⟩) := decide_eq_decide.2 (by simp)
      rw [e]
      exact endF.vals [(4, .bool (decide (Rt.mk n p q = ⟨n', p', q'⟩)))] (.inr rfl) (vals_t (by simp -implicitDefEqProofs +decide only [go_sem] <;> rfl) rfl vals_nil) (fun l hp => by cases l <;> first | rfl | cases hp) rfl
    · have e : decide ((Sc.mk ⟨n, p, q⟩ b f) = ⟨⟨n', p', q'⟩, b, g⟩) = false := decide_eq_false fun h => h2 (congrArg Sc.f h)
      rw [e]
      simp -implicitDefEqProofs +decide only [go_sem, h2]
      exact endF.vals [(4, .bool false)] (.inr rfl) (vals_t (by simp -implicitDefEqProofs +decide only [go_sem] <;> rfl) rfl vals_nil) (fun l hp => by cases l <;> first | rfl | cases hp) rfl
  · have e : decide ((Sc.mk ⟨n, p, q⟩ b f) = ⟨⟨n', p', q'⟩, c, g⟩) = false := decide_eq_false fun h => h1 (congrArg Sc.b h)
    rw [e]
    simp -implicitDefEqProofs +decide only [go_sem, h1]
    exact endF.vals [(4, .bool false)] (.inr rfl) (vals_t (by simp -implicitDefEqProofs +decide only [go_sem] <;> rfl) rfl vals_nil) (fun l hp => by cases l <;> first | rfl | cases hp) rfl

theorem rAllV_ok (a b : List Sc) (ha : a.length < 1000000000) (hb : b.length < 1000000000) (ha2 : ∀ s ∈ a, ScB 1000000000 s) (hb2 : ∀ s ∈ b, ScB 1000000000 s) : Pure Tryz.prog 20 [sS a, sS b] [.t (.bool (decide (a = b)))] := by
  refine Pure.intro Tryz.func20 rfl (rt := [4]) rfl (by simp [Tryz.ntmps20]) (by decide) (sites := fun _ => false) ?_
  apply run_sound 200
  simp -implicitDefEqProofs +decide only [go_sem, sS, List.length_map]
  refine selP_dec (fun h1 => ?_) (fun h1 => ?_)
  · have : decide (a = b) = false := decide_eq_false (fun e => by subst e; exact h1 rfl)
    rw [this]
    simp -implicitDefEqProofs +decide only [go_sem]
    exact endF.vals [(4, .bool false)] (.inr rfl) (vals_t (by simp -implicitDefEqProofs +decide only [go_sem] <;> rfl) rfl vals_nil) (fun l hp => by cases l <;> first | rfl | cases hp) rfl
  have hl : a.length = b.length := by omega
  simp -implicitDefEqProofs +decide only [go_sem]
  refine Goes.loop (X := Nat) (fun i => ⟨ofL [(0, .t (sS a)), (1, .t (sS b)), (12, .t (.int .i64 a.length)), (13, .t (.int .i64 i))], fun _ => none, 0⟩) (fun i => i ≤ a.length ∧ a.take i = b.take i) (fun i => a.length - i) 0 ?_ (by simp) ?_
  · exact (Wk.slots _ rfl rfl (by simp -implicitDefEqProofs +decide only [go_sem, sS]) (by simp -implicitDefEqProofs +decide only [go_sem, sS]))
  rintro i ⟨hi, he⟩ J hJ
  apply run_sound 200
  simp -implicitDefEqProofs +decide only [go_sem, sS]
  refine selP_dec (fun hc => ?_) (fun hc => ?_)
  · obtain ⟨x, hx⟩ := getI (show i < a.length by omega)
    obtain ⟨y, hy⟩ := getI (show i < b.length by omega)
    have hw := wS (show i < 1000000000000 by omega)
    have c := rSameV_ok x y (ha2 x (List.mem_of_getElem? hx)) (hb2 y (List.mem_of_getElem? hy))
    obtain ⟨⟨xn, xp, xq⟩, xb, xf⟩ := x
    obtain ⟨⟨yn, yp, yq⟩, yb, yf⟩ := y
    simp -implicitDefEqProofs +decide only [go_sem]
    refine Goes.drawN mixed ?_
    simp -implicitDefEqProofs +decide only [go_sem, sS, hx, hy, Sc.T_eq, sW]
    simp only [Sc.T_eq, sW] at c
    refine CallD.pure _ Tryz.call49 c (by first | rfl | (simp only [go_sem]; done) | (simp only [go_sem]; rfl)) (by first | rfl | (simp only [go_sem]; done) | (simp only [go_sem]; rfl)) ?_
    simp -implicitDefEqProofs +decide only [go_sem]
    refine ⟨.mk (by kernel_rfl), ?_⟩
    apply run_sound 200
    simp -implicitDefEqProofs +decide only [go_sem]
    refine selP_ndec (fun h2 => ?_) (fun h2 => ?_)
    · have : decide (a = b) = false := decide_eq_false (fun e => by subst e; rw [hx] at hy; cases hy; exact h2 rfl)
      rw [this]
      simp -implicitDefEqProofs +decide only [go_sem, h2]
      exact endF.vals [(4, .bool false)] (.inr rfl) (vals_t (by simp -implicitDefEqProofs +decide only [go_sem] <;> rfl) rfl vals_nil) (fun l hp => by cases l <;> first | rfl | cases hp) rfl
    · simp -implicitDefEqProofs +decide only [go_sem, h2, hw]
      refine hJ (i + 1) _ ⟨by omega, by rw [List.take_add_one, List.take_add_one, hx, hy, he, h2]⟩ (by omega) (Wk.slots _ rfl rfl (by simp -implicitDefEqProofs +decide only [go_sem, sS, hw]) (by simp -implicitDefEqProofs +decide only [go_sem, sS, hw]))
  · have : decide (a = b) = true := decide_eq_true (by rw [← List.take_of_length_le (l := a) (i := i) (by omega), he, List.take_of_length_le (by omega)])
    rw [this]
    simp -implicitDefEqProofs +decide only [go_sem]
    exact endF.vals [(4, .bool true)] (.inr rfl) (vals_t (by simp -implicitDefEqProofs +decide only [go_sem] <;> rfl) rfl vals_nil) (fun l hp => by cases l <;> first | rfl | cases hp) rfl
theorem rAllR_ok (a b : List Rat) (ha : a.length < 1000000000) (hb : b.length < 1000000000) (ha2 : ∀ r ∈ a, QB r 10000000) (hb2 : ∀ r ∈ b, QB r 10000000) : Pure Tryz.prog 20 [sV a, sV b] [.t (.bool (decide (a = b)))] := by
  have hq : ∀ l : List Rat, (∀ r ∈ l, QB r 10000000) → ∀ s ∈ l.map scR, ScB 1000000000 s := fun l hl s hs => by
    obtain ⟨r, hr, rfl⟩ := List.mem_map.1 hs
    have h1 := (hl r hr).n
    have h2 := (hl r hr).d
    exact ⟨by show (wordsOf r.num.natAbs).length < _; omega, by show (wordsOf r.den).length < _; omega⟩
  have c := rAllV_ok (a.map scR) (b.map scR) (by simpa using ha) (by simpa using hb) (hq a ha2) (hq b hb2)
  have e : ∀ l : List Rat, sS (l.map scR) = sV l := fun l => by unfold sS sV; rw [List.map_map]; rfl
  rw [e, e, decide_eq_decide.2 scR_map] at c
  exact c
end Go.Fm
/- Operands: whether they are short, and right. -/
namespace Go.Fm
open Go.Proofs
set_option maxRecDepth 100000
attribute [local irreducible] tiOf

def longB (k : Nat) (x : Rt) : Bool := decide (k < x.p.length) || decide (k < x.q.length)
theorem plong_ok (x : Rt) (k : Nat) (hk : k < 1000000000) : Pure Tryz.prog 51 [x.T, .int .i64 k] [.t (.bool (longB k x))] := by
  obtain ⟨n, p, q⟩ := x
  have h1 : decide ((p.length : Int) > (k : Int)) = decide (k < p.length) := decide_eq_decide.2 (by omega)
  have h2 : decide ((q.length : Int) > (k : Int)) = decide (k < q.length) := decide_eq_decide.2 (by omega)
  refine Pure.intro Tryz.func51 rfl (rt := [4]) rfl (by simp [Tryz.ntmps51]) (by decide) (sites := fun _ => false) ?_
  apply run_sound 200
  simp -implicitDefEqProofs +decide only [go_sem, Rt.T, rT, sW, h1, h2]
  refine selP_dec (fun h => ?_) (fun h => ?_)
  · have e : longB k ⟨n, p, q⟩ = true := by unfold longB; rw [decide_eq_true h]; rfl
    rw [e]
    simp -implicitDefEqProofs +decide only [go_sem]
    exact endF.vals [(4, .bool true)] (.inr rfl) (vals_t (by simp -implicitDefEqProofs +decide only [go_sem] <;> rfl) rfl vals_nil) (fun l hp => by cases l <;> first | rfl | cases hp) rfl
  · have e : longB k ⟨n, p, q⟩ = decide (k < q.length) := by unfold longB; rw [decide_eq_false h]; rfl
    rw [e]
    simp -implicitDefEqProofs +decide only [go_sem, h2]
    exact endF.vals [(4, .bool (decide (k < q.length)))] (.inr rfl) (vals_t (by simp -implicitDefEqProofs +decide only [go_sem] <;> rfl) rfl vals_nil) (fun l hp => by cases l <;> first | rfl | cases hp) rfl

def wideB (k : Nat) (l : List Sc) : Bool := l.any fun s => longB k s.x
theorem any_take {α : Type} {f : α → Bool} {l : List α} {i : Nat} {x : α} (hx : l[i]? = some x) (h : (l.take i).any f = false) (hf : f x = false) : (l.take (i + 1)).any f = false := by
  rw [List.take_add_one, hx, List.any_append, h]; simp [hf]
theorem any_mem {α : Type} {f : α → Bool} {l : List α} {i : Nat} {x : α} (hx : l[i]? = some x) (hf : f x = true) : l.any f = true := List.any_eq_true.2 ⟨x, List.mem_of_getElem? hx, hf⟩
theorem any_done {α : Type} {f : α → Bool} {l : List α} {i : Nat} (h : (l.take i).any f = false) (hi : l.length ≤ i) : l.any f = false := by rw [← List.take_of_length_le (l := l) (i := i) hi]; exact h
theorem all_take {α : Type} {f : α → Bool} {l : List α} {i : Nat} {x : α} (hx : l[i]? = some x) (h : (l.take i).all f = true) (hf : f x = true) : (l.take (i + 1)).all f = true := by
  rw [List.take_add_one, hx, List.all_append, h]; simp [hf]
theorem all_mem {α : Type} {f : α → Bool} {l : List α} {i : Nat} {x : α} (hx : l[i]? = some x) (hf : f x = false) : l.all f = false := by
  cases h : l.all f with
  | false => rfl
  | true => rw [List.all_eq_true.1 h x (List.mem_of_getElem? hx)] at hf; cases hf
theorem all_done {α : Type} {f : α → Bool} {l : List α} {i : Nat} (h : (l.take i).all f = true) (hi : l.length ≤ i) : l.all f = true := by rw [← List.take_of_length_le (l := l) (i := i) hi]; exact h

theorem wide_ok (l : List Sc) (k : Nat) (hk : k < 1000000000) (hl : l.length < 1000000000) : Pure Tryz.prog 22 [sS l, .int .i64 k] [.t (.bool (wideB k l))] := by
  refine Pure.intro Tryz.func22 rfl (rt := [4]) rfl (by simp [Tryz.ntmps22]) (by decide) (sites := fun _ => false) ?_
  apply run_sound 200
  simp -implicitDefEqProofs +decide only [go_sem, sS, List.length_map]
  refine Goes.loop (X := Nat) (fun i => ⟨ofL [(0, .t (sS l)), (1, .t (.int .i64 k)), (7, .t (.int .i64 l.length)), (8, .t (.int .i64 i))], fun _ => none, 0⟩) (fun i => i ≤ l.length ∧ (l.take i).any (fun s => longB k s.x) = false) (fun i => l.length - i) 0 (Wk.slots _ rfl rfl (by simp -implicitDefEqProofs +decide only [go_sem, sS]) (by simp -implicitDefEqProofs +decide only [go_sem, sS])) (by simp) ?_
  rintro i ⟨hi, he⟩ J hJ
  apply run_sound 200
  simp -implicitDefEqProofs +decide only [go_sem, sS]
  refine selP_dec (fun hc => ?_) (fun hc => ?_)
  · obtain ⟨s, hs⟩ := getI (show i < l.length by omega)
    have c := plong_ok s.x k hk
    obtain ⟨b, hb⟩ : ∃ b, longB k s.x = b := ⟨_, rfl⟩
    have hw := wS (show i < 1000000000000 by omega)
    simp only [Rt.T, rT] at c
    rw [hb] at c
    simp -implicitDefEqProofs +decide only [go_sem, hs, Sc.T, sW]
    simp only [sW] at c
    refine CallG.pure _ Tryz.call51 (c) (by first | rfl | (simp only [go_sem]; done) | (simp only [go_sem]; rfl)) (by first | rfl | (simp only [go_sem]; done) | (simp only [go_sem]; rfl)) ?_
    apply run_sound 200
    simp -implicitDefEqProofs +decide only [go_sem]
    cases b
    · simp -implicitDefEqProofs +decide only [go_sem, hw]
      refine hJ (i + 1) _ ⟨by omega, any_take hs he hb⟩ (by omega) (Wk.slots _ rfl rfl (by simp -implicitDefEqProofs +decide only [go_sem, sS, hw]) (by simp -implicitDefEqProofs +decide only [go_sem, sS, hw]))
    · have e : wideB k l = true := any_mem hs hb
      rw [e]
      simp -implicitDefEqProofs +decide only [go_sem]
      exact endF.vals [(4, .bool true)] (.inr rfl) (vals_t (by simp -implicitDefEqProofs +decide only [go_sem] <;> rfl) rfl vals_nil) (fun l hp => by cases l <;> first | rfl | cases hp) rfl
  · have e : wideB k l = false := any_done he (by omega)
    rw [e]
    simp -implicitDefEqProofs +decide only [go_sem]
    exact endF.vals [(4, .bool false)] (.inr rfl) (vals_t (by simp -implicitDefEqProofs +decide only [go_sem] <;> rfl) rfl vals_nil) (fun l hp => by cases l <;> first | rfl | cases hp) rfl

/-- An operand. -/
structure Ag where
  d : List Int
  v : List Sc
def Ag.T (a : Ag) : T := .agg [sI a.d, sS a.v]
theorem noPtr_Ag (a : Ag) : noPtr a.T = true := by
  simp only [Ag.T, noPtr, noPtrL, Bool.and_true, noPtr_sI, noPtr_sS]
def sA (l : List Ag) : T := .slice (l.map Ag.T)
theorem noPtr_sA (l : List Ag) : noPtr (sA l) = true := by
  have : ∀ l : List Ag, noPtrL (l.map Ag.T) = true := fun l => by
    induction l with
    | nil => rfl
    | cons x r ih => rw [List.map_cons, noPtrL, ih, noPtr_Ag]; rfl
  unfold sA; rw [noPtr, this]
theorem noPtr_sAU (l : List Ag) : noPtr (.slice (l.map Ag.T)) = true := noPtr_sA l
attribute [go_sem] noPtr_Ag noPtr_sA noPtr_sAU
def agB (a : Ag) : Bool := decide (20 < a.d.length) || decide (100 < a.v.length) || wideB 9 a.v
def argsB (l : List Ag) : Bool := l.any agB || decide (6 < l.length)
theorem args_ok (l : List Ag) (hl : l.length < 9000000000000000000) : Pure Tryz.prog 43 [sA l] [.t (.bool (argsB l))] := by
  refine Pure.intro Tryz.func43 rfl (rt := [2]) rfl (by simp [Tryz.ntmps43]) (by decide) (sites := fun _ => false) ?_
  apply run_sound 200
  simp -implicitDefEqProofs +decide only [go_sem, sA, List.length_map]
  refine Goes.loop (X := Nat) (fun i => ⟨ofL [(0, .t (sA l)), (5, .t (.int .i64 l.length)), (6, .t (.int .i64 i))], fun _ => none, 0⟩) (fun i => i ≤ l.length ∧ (l.take i).any agB = false) (fun i => l.length - i) 0 (Wk.slots _ rfl rfl (by simp -implicitDefEqProofs +decide only [go_sem, sA]) (by simp -implicitDefEqProofs +decide only [go_sem, sA])) (by simp) ?_
  rintro i ⟨hi, he⟩ J hJ
  apply run_sound 200
  simp -implicitDefEqProofs +decide only [go_sem, sA]
  refine selP_dec (fun hc => ?_) (fun hc => ?_)
  · obtain ⟨a, ha⟩ := getI (show i < l.length by omega)
    have hw : IntKind.wrap .i64 ((i : Int) + 1) = ((i + 1 : Nat) : Int) := by rw [w64] <;> omega
    have h1 : decide ((a.d.length : Int) > 20) = decide (20 < a.d.length) := decide_eq_decide.2 (by omega)
    have h2 : decide ((a.v.length : Int) > 100) = decide (100 < a.v.length) := decide_eq_decide.2 (by omega)
    have hend : ∀ (h : agB a = true), argsB l = true := fun h => by unfold argsB; rw [any_mem ha h]; rfl
    simp -implicitDefEqProofs +decide only [go_sem, ha, Ag.T, sI, sS, List.length_map, h1, h2]
    refine selP_dec (fun k1 => ?_) (fun k1 => ?_)
    · rw [hend (by unfold agB; rw [decide_eq_true k1]; rfl)]
      simp -implicitDefEqProofs +decide only [go_sem]
      exact endF.vals [(2, .bool true)] (.inr rfl) (vals_t (by simp -implicitDefEqProofs +decide only [go_sem] <;> rfl) rfl vals_nil) (fun l hp => by cases l <;> first | rfl | cases hp) rfl
    · simp -implicitDefEqProofs +decide only [go_sem, ha, Ag.T, sI, sS, List.length_map, h1, h2]
      refine selP_dec (fun k2 => ?_) (fun k2 => ?_)
      · rw [hend (by unfold agB; rw [decide_eq_true k2]; simp)]
        simp -implicitDefEqProofs +decide only [go_sem]
        exact endF.vals [(2, .bool true)] (.inr rfl) (vals_t (by simp -implicitDefEqProofs +decide only [go_sem] <;> rfl) rfl vals_nil) (fun l hp => by cases l <;> first | rfl | cases hp) rfl
      · have c := wide_ok a.v 9 (by decide) (by omega)
        obtain ⟨b, hb⟩ : ∃ b, wideB 9 a.v = b := ⟨_, rfl⟩
        rw [hb] at c
        have c : Pure Tryz.prog 22 [sS a.v, .int .i64 9] [.t (.bool b)] := c
        simp only [sS] at c
        simp -implicitDefEqProofs +decide only [go_sem, ha, Ag.T, sI, sS]
        refine CallG.pure _ Tryz.call22 (c) (by first | rfl | (simp only [go_sem]; done) | (simp only [go_sem]; rfl)) (by first | rfl | (simp only [go_sem]; done) | (simp only [go_sem]; rfl)) ?_
        apply run_sound 200
        simp -implicitDefEqProofs +decide only [go_sem]
        cases b
        · simp -implicitDefEqProofs +decide only [go_sem, hw]
          refine hJ (i + 1) _ ⟨by omega, any_take ha he (by unfold agB; rw [decide_eq_false k1, decide_eq_false k2, hb]; rfl)⟩ (by omega) (Wk.slots _ rfl rfl (by simp -implicitDefEqProofs +decide only [go_sem, sA, hw]) (by simp -implicitDefEqProofs +decide only [go_sem, sA, hw]))
        · rw [hend (by unfold agB; rw [hb]; simp)]
          simp -implicitDefEqProofs +decide only [go_sem]
          exact endF.vals [(2, .bool true)] (.inr rfl) (vals_t (by simp -implicitDefEqProofs +decide only [go_sem] <;> rfl) rfl vals_nil) (fun l hp => by cases l <;> first | rfl | cases hp) rfl
  · have e : argsB l = decide (6 < l.length) := by unfold argsB; rw [any_done he (by omega)]; rfl
    have h1 : decide ((l.length : Int) > 6) = decide (6 < l.length) := decide_eq_decide.2 (by omega)
    rw [e]
    simp -implicitDefEqProofs +decide only [go_sem, h1]
    exact endF.vals [(2, .bool (decide (6 < l.length)))] (.inr rfl) (vals_t (by simp -implicitDefEqProofs +decide only [go_sem] <;> rfl) rfl vals_nil) (fun l hp => by cases l <;> first | rfl | cases hp) rfl
end Go.Fm
/- How often 2 divides the denominators of sums and products. -/
namespace Go.Fm
open Go.Proofs
set_option maxRecDepth 100000

theorem ZB_of {r : Rat} {k : Nat} (h : QB r k) : ZB r (64 * k) := by
  unfold ZB
  have h1 := nv_words_lt r.den
  have := tz_le (k := 64 * k) r.den_nz (by rw [Nat.pow_mul]; exact Nat.lt_of_lt_of_le h1 (Nat.pow_le_pow_right (by decide) h.d))
  omega
theorem ZB.mono {r : Rat} {a b : Nat} (h : ZB r a) (hab : a ≤ b) : ZB r b := Nat.le_trans h hab
end Go.Fm
/- Operands of exact numbers. -/
namespace Go.Fm
open Go.Proofs
set_option maxRecDepth 100000
attribute [local irreducible] tiOf

/-- A scalar that is an exact number. -/
def rightB (s : Sc) : Bool := decide (s.b = 0) && (decide (s.f = 0) && rtR s.x)
structure SOK (s : Sc) (k : Nat) : Prop where
  p : WOK s.x.p
  q : WOK s.x.q
  lp : s.x.p.length ≤ k
  lq : s.x.q.length ≤ k
theorem rRightV_ok (s : Sc) (h : SOK s 1000) : Pure Tryz.prog 80 [.int .i64 0, s.T] [.t (.bool (rightB s))] := by
  have c1 := rSame_ok s.x ⟨false, [], []⟩ (by have := h.lp; omega) (by have := h.lq; omega) (by simp) (by simp)
  have c2 := rRight07_ok s.x h.p h.q h.lp h.lq
  obtain ⟨b1, hb1⟩ : ∃ b, decide (s.x = ⟨false, [], []⟩) = b := ⟨_, rfl⟩
  rw [hb1] at c1
  unfold rightB
  have e : rtR s.x = rightM s.x.neg s.x.p s.x.q := rfl
  rw [e]
  obtain ⟨b2, hb2⟩ : ∃ b, rightM s.x.neg s.x.p s.x.q = b := ⟨_, rfl⟩
  rw [hb2] at c2 ⊢
  obtain ⟨⟨n, p, q⟩, b, f⟩ := s
  simp only [Rt.T, rT] at c1 c2
  have d1 : decide ((b : Int) = 0) = decide (b = 0) := decide_eq_decide.2 (by omega)
  clear hb1 hb2 e h
  dsimp only
  obtain ⟨v, hv⟩ : ∃ v, (decide (b = 0) && (decide (f = 0) && b2)) = v := ⟨_, rfl⟩
  rw [hv]
  refine Pure.intro Tryz.func80 rfl (rt := [4]) rfl (by simp [Tryz.ntmps80]) (by decide) (sites := fun _ => false) ?_
  apply run_sound 200
  simp -implicitDefEqProofs +decide only [go_sem, Sc.T_eq, sW]
  simp only [sW] at c1 c2
  refine CallG.pure _ Tryz.call82 (c1) (by first | rfl | (simp only [go_sem]; done) | (simp only [go_sem]; rfl)) (by first | rfl | (simp only [go_sem]; done) | (simp only [go_sem]; rfl)) ?_
  apply run_sound 200
  simp -implicitDefEqProofs +decide only [go_sem, d1]
  refine selP_dec (fun h1 => ?_) (fun h1 => ?_)
  · subst h1
    simp -implicitDefEqProofs +decide only [go_sem]
    refine selP_dec (fun h2 => ?_) (fun h2 => ?_)
    · subst h2
      simp -implicitDefEqProofs +decide only [go_sem]
      refine CallG.pure _ Tryz.call105 (c2) (by first | rfl | (simp only [go_sem]; done) | (simp only [go_sem]; rfl)) (by first | rfl | (simp only [go_sem]; done) | (simp only [go_sem]; rfl)) ?_
      apply run_sound 200
      obtain rfl : v = b2 := by rw [← hv]; simp
      simp -implicitDefEqProofs +decide only [go_sem]
      exact endF.vals [(4, .bool v)] (.inr rfl) (vals_t (by simp -implicitDefEqProofs +decide only [go_sem] <;> rfl) rfl vals_nil) (fun l hp => by cases l <;> first | rfl | cases hp) rfl
    · obtain rfl : v = false := by rw [← hv, decide_eq_false h2]; rfl
      simp -implicitDefEqProofs +decide only [go_sem, h2]
      exact endF.vals [(4, .bool false)] (.inr rfl) (vals_t (by simp -implicitDefEqProofs +decide only [go_sem] <;> rfl) rfl vals_nil) (fun l hp => by cases l <;> first | rfl | cases hp) rfl
  · obtain rfl : v = false := by rw [← hv, decide_eq_false h1]; rfl
    simp -implicitDefEqProofs +decide only [go_sem, h1]
    exact endF.vals [(4, .bool false)] (.inr rfl) (vals_t (by simp -implicitDefEqProofs +decide only [go_sem] <;> rfl) rfl vals_nil) (fun l hp => by cases l <;> first | rfl | cases hp) rfl

theorem rVals_ok (l : List Sc) (hl : l.length < 1000000000) (h : ∀ s ∈ l, SOK s 1000) : Pure Tryz.prog 44 [.int .i64 0, sS l] [.t (.bool (l.all rightB))] := by
  refine Pure.intro Tryz.func44 rfl (rt := [4]) rfl (by simp [Tryz.ntmps44]) (by decide) (sites := fun _ => false) ?_
  apply run_sound 200
  simp -implicitDefEqProofs +decide only [go_sem, sS, List.length_map]
  refine Goes.loop (X := Nat) (fun i => ⟨ofL [(0, .t (.int .i64 0)), (1, .t (sS l)), (7, .t (.int .i64 l.length)), (8, .t (.int .i64 i))], fun _ => none, 0⟩) (fun i => i ≤ l.length ∧ (l.take i).all rightB = true) (fun i => l.length - i) 0 (Wk.slots _ rfl rfl (by simp -implicitDefEqProofs +decide only [go_sem, sS]) (by simp -implicitDefEqProofs +decide only [go_sem, sS])) (by simp) ?_
  rintro i ⟨hi, he⟩ J hJ
  apply run_sound 200
  simp -implicitDefEqProofs +decide only [go_sem, sS]
  refine selP_dec (fun hc => ?_) (fun hc => ?_)
  · obtain ⟨s, hs⟩ := getI (show i < l.length by omega)
    have c := rRightV_ok s (h s (List.mem_of_getElem? hs))
    obtain ⟨b, hb⟩ : ∃ b, rightB s = b := ⟨_, rfl⟩
    have hw := wS (show i < 1000000000000 by omega)
    rw [hb] at c
    simp only [Sc.T, sW] at c
    simp -implicitDefEqProofs +decide only [go_sem, hs, Sc.T, sW]
    refine CallG.pure _ Tryz.call80 (c) (by first | rfl | (simp only [go_sem]; done) | (simp only [go_sem]; rfl)) (by first | rfl | (simp only [go_sem]; done) | (simp only [go_sem]; rfl)) ?_
    apply run_sound 200
    simp -implicitDefEqProofs +decide only [go_sem]
    cases b
    · have e : l.all rightB = false := all_mem hs hb
      rw [e]
      simp -implicitDefEqProofs +decide only [go_sem]
      exact endF.vals [(4, .bool false)] (.inr rfl) (vals_t (by simp -implicitDefEqProofs +decide only [go_sem] <;> rfl) rfl vals_nil) (fun l hp => by cases l <;> first | rfl | cases hp) rfl
    · simp -implicitDefEqProofs +decide only [go_sem, hw]
      refine hJ (i + 1) _ ⟨by omega, all_take hs he hb⟩ (by omega) (Wk.slots _ rfl rfl (by simp -implicitDefEqProofs +decide only [go_sem, sS, hw]) (by simp -implicitDefEqProofs +decide only [go_sem, sS, hw]))
  · have e : l.all rightB = true := all_done he (by omega)
    rw [e]
    simp -implicitDefEqProofs +decide only [go_sem]
    exact endF.vals [(4, .bool true)] (.inr rfl) (vals_t (by simp -implicitDefEqProofs +decide only [go_sem] <;> rfl) rfl vals_nil) (fun l hp => by cases l <;> first | rfl | cases hp) rfl

theorem argsRight_ok (l : List Ag) (hl : l.length < 9000000000000000000) (h : argsB l = false → ∀ a ∈ l, ∀ s ∈ a.v, SOK s 1000) :
    Pure Tryz.prog 15 [.int .i64 0, sA l] [.t (.bool (!argsB l && l.all fun a => a.v.all rightB))] := by
  have c1 := args_ok l hl
  obtain ⟨b, hb⟩ : ∃ b, argsB l = b := ⟨_, rfl⟩
  rw [hb] at c1 h ⊢
  simp only [sA] at c1
  obtain ⟨v, hv⟩ : ∃ v, (!b && l.all fun a => a.v.all rightB) = v := ⟨_, rfl⟩
  rw [hv]
  refine Pure.intro Tryz.func15 rfl (rt := [4]) rfl (by simp [Tryz.ntmps15]) (by decide) (sites := fun _ => false) ?_
  apply run_sound 200
  simp -implicitDefEqProofs +decide only [go_sem, sA, List.length_map]
  refine CallG.pure _ Tryz.call43 (c1) (by first | rfl | (simp only [go_sem]; done) | (simp only [go_sem]; rfl)) (by first | rfl | (simp only [go_sem]; done) | (simp only [go_sem]; rfl)) ?_
  apply run_sound 200
  simp -implicitDefEqProofs +decide only [go_sem]
  cases b
  · have h := h rfl
    have hla : l.length ≤ 6 ∧ ∀ a ∈ l, a.v.length ≤ 100 := by
      unfold argsB at hb
      rw [Bool.or_eq_false_iff, List.any_eq_false] at hb
      refine ⟨by have := of_decide_eq_false hb.2; omega, fun a ha => ?_⟩
      have := hb.1 a ha
      unfold agB at this
      simp only [Bool.or_eq_true, decide_eq_true_eq, not_or] at this
      omega
    simp -implicitDefEqProofs +decide only [go_sem, List.length_map]
    refine Goes.loop (X := Nat) (fun i => ⟨ofL [(0, .t (.int .i64 0)), (1, .t (sA l)), (17, .t (.int .i64 l.length)), (18, .t (.int .i64 i))], fun _ => none, 0⟩) (fun i => i ≤ l.length ∧ (l.take i).all (fun a => a.v.all rightB) = true) (fun i => l.length - i) 0 (Wk.slots _ rfl rfl (by simp -implicitDefEqProofs +decide only [go_sem, sA]) (by simp -implicitDefEqProofs +decide only [go_sem, sA])) (by simp) ?_
    rintro i ⟨hi, he⟩ J hJ
    apply run_sound 200
    simp -implicitDefEqProofs +decide only [go_sem, sA]
    refine selP_dec (fun hc => ?_) (fun hc => ?_)
    · obtain ⟨a, ha⟩ := getI (show i < l.length by omega)
      have c := rVals_ok a.v (by have := hla.2 a (List.mem_of_getElem? ha); omega) (h a (List.mem_of_getElem? ha))
      obtain ⟨b, hb⟩ : ∃ b, a.v.all rightB = b := ⟨_, rfl⟩
      have hla6 := hla.1
      have hw := wS (show i < 1000000000000 by omega)
      rw [hb] at c
      simp only [sS] at c
      simp -implicitDefEqProofs +decide only [go_sem, ha, Ag.T, sI, sS]
      refine CallG.pure _ Tryz.call44 (c) (by first | rfl | (simp only [go_sem]; done) | (simp only [go_sem]; rfl)) (by first | rfl | (simp only [go_sem]; done) | (simp only [go_sem]; rfl)) ?_
      apply run_sound 200
      simp -implicitDefEqProofs +decide only [go_sem]
      cases b
      · obtain rfl : v = false := by rw [← hv, all_mem ha hb]; rfl
        simp -implicitDefEqProofs +decide only [go_sem]
        exact endF.vals [(4, .bool false)] (.inr rfl) (vals_t (by simp -implicitDefEqProofs +decide only [go_sem] <;> rfl) rfl vals_nil) (fun l hp => by cases l <;> first | rfl | cases hp) rfl
      · simp -implicitDefEqProofs +decide only [go_sem, hw]
        refine hJ (i + 1) _ ⟨by omega, all_take ha he hb⟩ (by omega) (Wk.slots _ rfl rfl (by simp -implicitDefEqProofs +decide only [go_sem, sA, hw]) (by simp -implicitDefEqProofs +decide only [go_sem, sA, hw]))
    · obtain rfl : v = true := by rw [← hv, all_done he (by omega)]; rfl
      simp -implicitDefEqProofs +decide only [go_sem]
      exact endF.vals [(4, .bool true)] (.inr rfl) (vals_t (by simp -implicitDefEqProofs +decide only [go_sem] <;> rfl) rfl vals_nil) (fun l hp => by cases l <;> first | rfl | cases hp) rfl
  · obtain rfl : v = false := by rw [← hv]; rfl
    simp -implicitDefEqProofs +decide only [go_sem]
    exact endF.vals [(4, .bool false)] (.inr rfl) (vals_t (by simp -implicitDefEqProofs +decide only [go_sem] <;> rfl) rfl vals_nil) (fun l hp => by cases l <;> first | rfl | cases hp) rfl

/-- Right scalars are numbers. -/
theorem right_scR {s : Sc} (hp : WOK s.x.p) (hq : WOK s.x.q) (h : rightB s = true) : ∃ r, s = scR r := by
  unfold rightB at h
  simp only [Bool.and_eq_true, decide_eq_true_eq] at h
  obtain ⟨h1, h2, h3⟩ := h
  obtain ⟨r, hr⟩ := right_qR hp hq h3
  obtain ⟨x, b, f⟩ := s
  dsimp only at h1 h2 hr
  subst h1 h2 hr
  exact ⟨r, rfl⟩
theorem right_list : ∀ {l : List Sc}, (∀ s ∈ l, WOK s.x.p ∧ WOK s.x.q) → l.all rightB = true → ∃ xs : List Rat, l = xs.map scR
  | [], _, _ => ⟨[], rfl⟩
  | s :: l, h, ha => by
    simp only [List.all_cons, Bool.and_eq_true] at ha
    obtain ⟨r, hr⟩ := right_scR (h s (by simp)).1 (h s (by simp)).2 ha.1
    obtain ⟨xs, hxs⟩ := right_list (fun t ht => h t (by simp [ht])) ha.2
    exact ⟨r :: xs, by rw [hr, hxs]; rfl⟩
theorem sS_scR (xs : List Rat) : sS (xs.map scR) = sV xs := by unfold sS sV; rw [List.map_map]; rfl
/-- Short ones, too. -/
theorem wide_QB {xs : List Rat} {k : Nat} (h : wideB k (xs.map scR) = false) : ∀ r ∈ xs, QB r k := by
  intro r hr
  unfold wideB at h
  rw [List.any_eq_false] at h
  have := h (scR r) (List.mem_map.2 ⟨r, hr, rfl⟩)
  unfold longB at this
  simp only [Bool.or_eq_true, decide_eq_true_eq, not_or] at this
  exact ⟨by have := this.1; show (wordsOf r.num.natAbs).length ≤ k; exact Nat.le_of_not_lt this, by have := this.2; show (wordsOf r.den).length ≤ k; exact Nat.le_of_not_lt this⟩
theorem wide_SOK {l : List Sc} {k : Nat} (h : wideB k l = false) (hw : ∀ s ∈ l, WOK s.x.p ∧ WOK s.x.q) : ∀ s ∈ l, SOK s k := by
  intro s hs
  unfold wideB at h
  rw [List.any_eq_false] at h
  have := h s hs
  unfold longB at this
  simp only [Bool.or_eq_true, decide_eq_true_eq, not_or] at this
  exact ⟨(hw s hs).1, (hw s hs).2, Nat.le_of_not_lt this.1, Nat.le_of_not_lt this.2⟩
end Go.Fm
/- What laws on operands use besides. -/
namespace Go.Fm
open Go.Proofs
set_option maxRecDepth 100000
attribute [local irreducible] tiOf

theorem qR_nat (n : Nat) : qR (n : Rat) = ⟨false, wordsOf n, [1]⟩ := by
  have h : ¬ (n : Rat).num < 0 := by rw [Rat.num_natCast]; omega
  unfold qR
  rw [decide_eq_false h, Rat.num_natCast, Rat.den_natCast, words_one, Int.natAbs_natCast]
theorem lowQ_nat (n : Nat) : lowQ false n 1 = qR (n : Rat) := by
  rw [qR_nat]
  unfold lowQ
  rw [Nat.gcd_one_right, Nat.div_one, Nat.div_one, words_one]; rfl
theorem rVal_ok (n : Nat) (h : n < 18446744073709551616) : Pure Tryz.prog 76 [.bool false, sW [n], sW [1]] [.t (qR (n : Rat)).T] := by
  have hw : WOK [n] := fun y hy => by rw [List.mem_singleton.1 hy]; exact h
  have c := rMake_ok false [n] [1] hw WOK_one (by simp) (by simp) (by decide) (by rw [nv_one, tz_odd rfl]; decide)
  have e : nv [n] = n := by simp [nv]
  rw [e, nv_one, lowQ_nat] at c
  exact c
theorem QB_nat (n : Nat) (h : n < 18446744073709551616) : QB (n : Rat) 1 := by
  refine ⟨?_, ?_⟩
  · show (wordsOf (n : Rat).num.natAbs).length ≤ 1
    rw [Rat.num_natCast]
    exact len_wordsOf (by simpa using h)
  · show (wordsOf (n : Rat).den).length ≤ 1
    rw [Rat.den_natCast, words_one]; exact Nat.le_refl _
attribute [go_sem] noPtr_sV
theorem Ag_scR (d : List Int) (xs : List Rat) : Ag.T ⟨d, xs.map scR⟩ = argT d xs := by unfold Ag.T argT; rw [sS_scR]
theorem obj_up (h : Heap) (id c c' : Nat) : upd (upd h (.obj id) (some (bankO c))) (.obj id) (some (bankO c')) = upd h (.obj id) (some (bankO c')) := upd_upd _ _ _ _
theorem short_of {l : List Ag} (h : argsB l = false) : l.length ≤ 6 ∧ ∀ a ∈ l, a.d.length ≤ 20 ∧ a.v.length ≤ 100 ∧ wideB 9 a.v = false := by
  unfold argsB at h
  rw [Bool.or_eq_false_iff, List.any_eq_false] at h
  refine ⟨by have := of_decide_eq_false h.2; omega, fun a ha => ?_⟩
  have := h.1 a ha
  unfold agB at this
  simp only [Bool.or_eq_true, decide_eq_true_eq, not_or] at this
  exact ⟨by omega, by omega, by simpa using this.2⟩
theorem argsSOK {l : List Ag} (hw : ∀ a ∈ l, ∀ s ∈ a.v, WOK s.x.p ∧ WOK s.x.q) : argsB l = false → ∀ a ∈ l, ∀ s ∈ a.v, SOK s 1000 := fun h a ha s hs => by
  have := wide_SOK ((short_of h).2 a ha).2.2 (hw a ha) s hs
  exact ⟨this.p, this.q, by have := this.lp; omega, by have := this.lq; omega⟩
/-- What right operands are. -/
theorem rightNum {a : Ag} (hw : ∀ s ∈ a.v, WOK s.x.p ∧ WOK s.x.q) (h : a.v.all rightB = true) (hs : wideB 9 a.v = false) : ∃ xs : List Rat, a.v = xs.map scR ∧ ∀ r ∈ xs, QB r 9 := by
  obtain ⟨xs, hxs⟩ := right_list hw h
  rw [hxs] at hs
  exact ⟨xs, hxs, wide_QB hs⟩

theorem noPtrL_Sc (l : List Sc) : noPtrL (l.map Sc.T) = true := by have := noPtr_sS l; simpa only [sS, noPtr] using this
end Go.Fm
/- Copies; whether scalars are not too long; dims that can be spread. -/
namespace Go.Fm
open Go.Proofs
set_option maxRecDepth 100000
attribute [local irreducible] tiOf

theorem copied_ok (x : Rt) (hp : x.p.length < 1000000000) (hq : x.q.length < 1000000000) : Pure Tryz.prog 94 [x.T] [.t x.T] := by
  obtain ⟨n, p, q⟩ := x
  dsimp only at hp hq
  have b1 : p.length < big := by unfold big; omega
  have b2 : q.length < big := by unfold big; omega
  have t1 : List.take p.length (p.map U) = p.map U := List.take_of_length_le (by simp)
  have t2 : List.take q.length (q.map U) = q.map U := List.take_of_length_le (by simp)
  refine Pure.introC Tryz.func94 rfl (rv := [.c 2 _]) rfl (by simp [Tryz.ntmps94]) (by decide) (sites := fun _ => false) ?_
  apply run_sound 200
  simp -implicitDefEqProofs +decide only [go_sem, Rt.T, rT, sW]
  refine Goes.drawN mixed ?_
  simp -implicitDefEqProofs +decide only [go_sem, b1, b2, t1, t2, List.length_map, Nat.zero_add, List.nil_append]
  refine ⟨.mk (by kernel_rfl), ?_⟩
  apply run_sound 200
  simp -implicitDefEqProofs +decide only [go_sem]
  exact endC.one (.inr rfl) (by first | rfl | (simp -implicitDefEqProofs +decide only [go_sem, valC, Rt.T, rT, sW, t1, t2]; done) | (simp -implicitDefEqProofs +decide only [go_sem, valC, Rt.T, rT, sW, t1, t2]; rfl)) (by first | rfl | (simp -implicitDefEqProofs +decide only [go_sem, Rt.T, rT, sW, t1, t2]; done) | (simp -implicitDefEqProofs +decide only [go_sem, Rt.T, rT, sW, t1, t2]; rfl)) (fun l hp => by cases l <;> first | rfl | cases hp) rfl
theorem copy_ok (s : Sc) (h : ScB 1000000000 s) : Pure Tryz.prog 59 [s.T] [.t s.T] := by
  have c := copied_ok s.x h.1 h.2
  obtain ⟨⟨n, p, q⟩, b, f⟩ := s
  simp only [Rt.T, rT, sW] at c
  refine Pure.introC Tryz.func59 rfl (rv := [.c 2 _]) rfl (by simp [Tryz.ntmps59]) (by decide) (sites := fun _ => false) ?_
  apply run_sound 200
  simp -implicitDefEqProofs +decide only [go_sem, Sc.T_eq, sW]
  refine Goes.drawN mixed ?_
  simp -implicitDefEqProofs +decide only [go_sem]
  refine CallD.pureS _ Tryz.call94 c (by first | rfl | (simp only [go_sem]; done) | (simp only [go_sem]; rfl)) (by first | rfl | (simp only [go_sem]; done) | (simp only [go_sem]; rfl)) ?_
  simp -implicitDefEqProofs +decide only [go_sem]
  refine ⟨.mk (by kernel_rfl), ?_⟩
  apply run_sound 200
  simp -implicitDefEqProofs +decide only [go_sem]
  exact endC.one (.inr rfl) (by first | rfl | (simp -implicitDefEqProofs +decide only [go_sem, valC, Sc.T_eq, sW]; done) | (simp -implicitDefEqProofs +decide only [go_sem, valC, Sc.T_eq, sW]; rfl)) (by first | rfl | (simp -implicitDefEqProofs +decide only [go_sem, Sc.T_eq, sW]; done) | (simp -implicitDefEqProofs +decide only [go_sem, Sc.T_eq, sW]; rfl)) (fun l hp => by cases l <;> first | rfl | cases hp) rfl
theorem copyR_ok (r : Rat) (h : QB r 10000000) : Pure Tryz.prog 59 [vT r] [.t (vT r)] := by
  have h1 := h.n
  have h2 := h.d
  exact copy_ok (scR r) ⟨by show (wordsOf r.num.natAbs).length < _; omega, by show (wordsOf r.den).length < _; omega⟩

/-- How many bits a number has. -/
def bitsR (r : Rat) : Nat := max (bitLen r.num.natAbs) (bitLen r.den)
end Go.Fm
/- Which element is spread to a place. -/
namespace Go.Fm
open Go.Proofs
set_option maxRecDepth 100000
attribute [local irreducible] tiOf

/-- The place, with what stands at dims of 1 set to 0, up to one. -/
def zerosL (f D : List Int) (o k : Nat) : List Int := (List.range D.length).map fun j => if o ≤ j ∧ j - o < k ∧ f.getD (j - o) 0 = 1 then 0 else D.getD j 0
end Go.Fm
/- Writes: what is wrong with one. -/
namespace Go.Fm
open Go.Proofs
set_option maxRecDepth 100000
attribute [local irreducible] tiOf

/-- What a primitive is told. -/
structure Atr where
  n : Int
  a : Int
  b : Int
  c : Int
  p : Int
  q : Int
  r : Int
  s : Int
  keep : Bool
  list : List Int
def Atr.T (x : Atr) : T := .agg [I x.n, I x.a, I x.b, I x.c, I x.p, I x.q, I x.r, I x.s, .bool x.keep, sI x.list]

/-- What is wrong with a write that has a source. -/
noncomputable def wchk (to frm : Ag) : Int := if chk to.d ≠ 0 then chk to.d else if (to.v.length : Int) ≠ cnt to.d then 1 else if chk frm.d ≠ 0 then chk frm.d else if (frm.v.length : Int) ≠ cnt frm.d then 1 else if twoS frm.d to.d ≠ (to.d, 0) then 8 else 0
end Go.Fm
/- Writes of exact numbers. -/
namespace Go.Fm
open Go.Proofs
set_option maxRecDepth 100000
attribute [local irreducible] tiOf

def markT (k : Nat) : T := .agg [.int .i64 0, .int .i64 0, .int .i64 0, .int .i64 k, .int .i64 0, .bool false, .int .i64 0]
/-- A write's elements. -/
def wrL (g : Rat → Rat → Rat) (f t : List Int) (xs ys : List Rat) (n : Nat) : List Rat := (List.range n).map fun (i : Nat) => g (xs.getD i 0) (ys.getD (srcN f t (i : Int)).toNat 0)
end Go.Fm
/- The law on writes: what it asks for besides. -/
namespace Go.Fm
open Go.Proofs
set_option maxRecDepth 100000
attribute [local irreducible] tiOf

theorem bitLen_lt {n k : Nat} (h : n < 2 ^ k) : bitLen n ≤ k := by
  rcases Nat.lt_or_ge k (bitLen n) with h1 | h1
  · have hn : n ≠ 0 := fun e => by subst e; simp [bitLen] at h1
    obtain ⟨b1, _, b3⟩ := bitLen_bounds hn
    have : 2 ^ k ≤ 2 ^ (bitLen n - 1) := Nat.pow_le_pow_right (by decide) (by omega)
    omega
  · exact h1
theorem lt_wordsOf {n k : Nat} (h : (wordsOf n).length ≤ k) : n < 2 ^ (64 * k) := by
  have h1 := nv_lt (WOK_wordsOf n)
  rw [nv_wordsOf] at h1
  rw [Nat.pow_mul]
  exact Nat.lt_of_lt_of_le h1 (Nat.pow_le_pow_right (by decide) h)
theorem QB.bits {r : Rat} {k : Nat} (h : QB r k) : bitsR r ≤ 64 * k := Nat.max_le.2 ⟨bitLen_lt (lt_wordsOf h.n), bitLen_lt (lt_wordsOf h.d)⟩

end Go.Fm
/- Scalars and operands read as data. -/
namespace Go.Fm
open Go.Proofs
set_option maxRecDepth 100000
attribute [local irreducible] tiOf

theorem wfU {z : Int} (h : (Lit.int .u64 z).wf = true) : ∃ n : Nat, n < 18446744073709551616 ∧ z = n := by
  simp [Lit.wf, IntKind.min, IntKind.max, IntKind.signed, IntKind.bits] at h
  exact ⟨z.toNat, by omega, by omega⟩
theorem dat1 {n : Nat} {t : TypeId} {a : T} (hm : mkT Tryz.prog t [a] = a) (h : Typed Tryz.prog n t [a]) : Dat Tryz.prog n t a := ⟨[a], h, hm.symm⟩
theorem dat_int {n : Nat} {x : T} (h : Dat Tryz.prog (n + 1) 3 x) : ∃ z : Int, (-9223372036854775808 ≤ z ∧ z ≤ 9223372036854775807) ∧ x = I z := by
  obtain ⟨z, hz, rfl⟩ := Dat.int Tryz.underlying3 h
  exact ⟨z, wf64 hz, rfl⟩
theorem dat_ints {n : Nat} {x : T} (h : Dat Tryz.prog (n + 2) 22 x) : ∃ l : List Int, (l.length * 8 ≤ reachBytes ∧ ∀ z ∈ l, -9223372036854775808 ≤ z ∧ z ≤ 9223372036854775807) ∧ x = sI l := by
  obtain ⟨l, hl, rfl⟩ := Dat.slice (f := I) (Q := fun z => -9223372036854775808 ≤ z ∧ z ≤ 9223372036854775807) Tryz.underlying22 (fun x hx => dat_int hx) h
  rw [show (Tryz.prog).bytesOf 3 = 8 by kernel_rfl] at hl
  exact ⟨l, hl, rfl⟩
theorem dat_words {n : Nat} {x : T} (h : Dat Tryz.prog (n + 2) 68 x) : ∃ p : List Nat, WOK p ∧ x = sW p := by
  obtain ⟨l, ⟨_, hl⟩, rfl⟩ := Dat.slice (f := U) (Q := fun k => k < 18446744073709551616) Tryz.underlying68 (fun x hx => by
    obtain ⟨z, hz, rfl⟩ := Dat.int Tryz.underlying71 hx
    obtain ⟨k, hk, rfl⟩ := wfU hz
    exact ⟨k, hk, rfl⟩) h
  exact ⟨l, hl, rfl⟩
theorem dat_rat {n : Nat} {a b c : T} (h : Typed Tryz.prog (n + 3) 70 [a, b, c]) : ∃ r : Rt, (WOK r.p ∧ WOK r.q) ∧ a = .bool r.neg ∧ b = sW r.p ∧ c = sW r.q := by
  simp only [Typed, Tryz.underlying70] at h
  obtain ⟨_, hf⟩ := h
  simp only [List.forall_mem_cons] at hf
  obtain ⟨h0, h1, h2, _⟩ := hf
  have c4 : (Tryz.prog).cellsOf 4 = 1 := by kernel_rfl
  have c43 : (Tryz.prog).cellsOf 68 = 1 := by kernel_rfl
  rw [c4] at h0
  rw [c43] at h1 h2
  obtain ⟨z, hz⟩ := Dat.bool Tryz.underlying4 (dat1 (n := n + 2) (t := 4) (a := a) (by simp [mkT, Tryz.underlying4]) h0)
  obtain ⟨p, hp, hpe⟩ := dat_words (dat1 (n := n + 2) (t := 68) (a := b) (by simp [mkT, Tryz.underlying68]) h1)
  obtain ⟨q, hq, hqe⟩ := dat_words (dat1 (n := n + 2) (t := 68) (a := c) (by simp [mkT, Tryz.underlying68]) h2)
  exact ⟨⟨z, p, q⟩, ⟨hp, hq⟩, hz, hpe, hqe⟩
def ScW (s : Sc) : Prop := WOK s.x.p ∧ WOK s.x.q
theorem dat_val {n : Nat} {x : T} (h : Dat Tryz.prog (n + 4) 73 x) : ∃ s : Sc, (ScW s ∧ s.b < 18446744073709551616) ∧ x = s.T := by
  obtain ⟨ts, h, rfl⟩ := h
  simp only [Typed, Tryz.underlying73] at h
  obtain ⟨hl, hf⟩ := h
  rw [show (Tryz.prog).cellsOf 73 = 5 by kernel_rfl] at hl
  match ts, hl with
  | [a, b, c, d, e], _ =>
    simp only [List.forall_mem_cons] at hf
    obtain ⟨h0, h1, h2, _⟩ := hf
    rw [show (Tryz.prog).cellsOf 70 = 3 by kernel_rfl] at h0
    rw [show (Tryz.prog).cellsOf 71 = 1 by kernel_rfl] at h1
    rw [show (Tryz.prog).cellsOf 3 = 1 by kernel_rfl] at h2
    obtain ⟨r, hr, rfl, rfl, rfl⟩ := dat_rat (n := n) (a := a) (b := b) (c := c) h0
    obtain ⟨z, hz, rfl⟩ := Dat.int Tryz.underlying71 (dat1 (n := n + 3) (t := 71) (a := d) (by simp [mkT, Tryz.underlying71]) h1)
    obtain ⟨k, hk, rfl⟩ := wfU hz
    obtain ⟨f, _, rfl⟩ := Dat.int Tryz.underlying3 (dat1 (n := n + 3) (t := 3) (a := e) (by simp [mkT, Tryz.underlying3]) h2)
    exact ⟨⟨r, k, f⟩, ⟨hr, hk⟩, by simp [mkT, Tryz.underlying73, Sc.T]⟩
theorem dat_vals {n : Nat} {x : T} (h : Dat Tryz.prog (n + 5) 36 x) : ∃ l : List Sc, (l.length * 72 ≤ reachBytes ∧ ∀ s ∈ l, ScW s ∧ s.b < 18446744073709551616) ∧ x = sS l := by
  obtain ⟨l, hl, rfl⟩ := Dat.slice (f := Sc.T) (Q := fun s => ScW s ∧ s.b < 18446744073709551616) Tryz.underlying36 (fun x hx => dat_val hx) h
  rw [show (Tryz.prog).bytesOf 73 = 72 by kernel_rfl] at hl
  exact ⟨l, hl, rfl⟩
theorem dat_argL {n : Nat} {a b : T} (h : Typed Tryz.prog (n + 6) 38 [a, b]) : ∃ g : Ag, (∀ s ∈ g.v, ScW s ∧ s.b < 18446744073709551616) ∧ a = sI g.d ∧ b = sS g.v := by
  simp only [Typed, Tryz.underlying38] at h
  obtain ⟨_, hf⟩ := h
  simp only [List.forall_mem_cons] at hf
  obtain ⟨h0, h1, _⟩ := hf
  rw [show (Tryz.prog).cellsOf 22 = 1 by kernel_rfl] at h0
  rw [show (Tryz.prog).cellsOf 36 = 1 by kernel_rfl] at h1
  obtain ⟨d, _, rfl⟩ := dat_ints (dat1 (n := n + 5) (t := 22) (a := a) (by simp [mkT, Tryz.underlying22]) h0)
  obtain ⟨v, hv, rfl⟩ := dat_vals (n := n) (dat1 (n := n + 5) (t := 36) (a := b) (by simp [mkT, Tryz.underlying36]) h1)
  exact ⟨⟨d, v⟩, hv.2, rfl, rfl⟩
theorem dat_arg {n : Nat} {x : T} (h : Dat Tryz.prog (n + 6) 38 x) : ∃ g : Ag, (∀ s ∈ g.v, ScW s ∧ s.b < 18446744073709551616) ∧ x = g.T := by
  obtain ⟨ts, h, rfl⟩ := h
  have hl : ts.length = 2 := by
    simp only [Typed, Tryz.underlying38] at h
    have := h.1
    rwa [show (Tryz.prog).cellsOf 38 = 2 by kernel_rfl] at this
  match ts, hl with
  | [a, b], _ =>
    obtain ⟨g, hg, rfl, rfl⟩ := dat_argL (n := n) h
    exact ⟨g, hg, by simp [mkT, Tryz.underlying38, Ag.T]⟩
end Go.Fm
