/- Lines: Arity; exact numbers of the reference. -/
import Derived.Test.YtlhdkpmmankooaaDoorNumC
set_option linter.unusedVariables false
set_option linter.unusedSimpArgs false
namespace Go.Fm
open Go.Proofs
set_option maxRecDepth 100000

structure Rt where
  mk ::
  neg : Bool
  p : List Nat
  q : List Nat
  deriving DecidableEq
def Rt.T (x : Rt) : T := rT x.neg x.p x.q
def arM (op : Int) : Int := if op = 1 ∨ op = 2 then 0 else if op = 3 ∨ (8 ≤ op ∧ op ≤ 10) then 1 else if 4 ≤ op ∧ op ≤ 7 then 2 else -1
theorem arM_cases (op : Int) : (arM op = 0 ∧ (op = 1 ∨ op = 2)) ∨ (arM op = 1 ∧ (op = 3 ∨ (8 ≤ op ∧ op ≤ 10))) ∨ (arM op = 2 ∧ 4 ≤ op ∧ op ≤ 7) ∨ (arM op = -1 ∧ (op ≤ 0 ∨ 11 ≤ op)) := by
  unfold arM; split <;> (try split) <;> (try split) <;> omega

theorem arity_ok (op : Int) : Pure Tryd.prog 27 [.int .i64 op] [.t (.int .i64 (arM op))] := by
  have hc := arM_cases op
  generalize arM op = r at hc ⊢
  refine Pure.intro Tryd.func27 rfl (rt := [2]) rfl (by simp [Tryd.ntmps27]) (by decide) (sites := fun _ => false) ?_
  apply run_sound 200
  simp -implicitDefEqProofs +decide only [go_sem]
  repeat' (refine selP_dec (fun _ => ?_) (fun _ => ?_) <;> simp -implicitDefEqProofs +decide only [go_sem, *])
  all_goals exact endF.vals [(2, .int .i64 r)] (.inr rfl) (vals_t (by first | (simp -implicitDefEqProofs +decide only [go_sem] <;> rfl) | rfl) (by first | rfl | exact T_true (by omega) | exact T_false (by omega) | exact T_dec (by omega) | exact T_ndec (by omega) | exact T_int (by omega)) vals_nil) (fun l hp => by cases l <;> first | rfl | cases hp) rfl

theorem rArity_ok (op : Int) : Pure Tryd.prog 28 [.int .i64 op] [.t (.int .i64 (arM op))] := by
  have hc := arM_cases op
  generalize arM op = r at hc ⊢
  refine Pure.intro Tryd.func28 rfl (rt := [2]) rfl (by simp [Tryd.ntmps28]) (by decide) (sites := fun _ => false) ?_
  apply run_sound 200
  simp -implicitDefEqProofs +decide only [go_sem]
  repeat' (refine selP_dec (fun _ => ?_) (fun _ => ?_) <;> simp -implicitDefEqProofs +decide only [go_sem, *])
  all_goals exact endF.vals [(2, .int .i64 r)] (.inr rfl) (vals_t (by first | (simp -implicitDefEqProofs +decide only [go_sem] <;> rfl) | rfl) (by first | rfl | exact T_true (by omega) | exact T_false (by omega) | exact T_dec (by omega) | exact T_ndec (by omega) | exact T_int (by omega)) vals_nil) (fun l hp => by cases l <;> first | rfl | cases hp) rfl

def noneM (x : Rt) : Bool := decide (x.neg.toNat = 0 ∧ x.p.length = 0 ∧ x.q.length = 0)

theorem none_ok (x : Rt) : Pure Tryd.prog 59 [x.T] [.t (.bool (noneM x))] := by
  obtain ⟨neg, p, q⟩ := x
  refine Pure.intro Tryd.func59 rfl (rt := [2]) rfl (by simp [Tryd.ntmps59]) (by decide) (sites := fun _ => false) ?_
  apply run_sound 200
  simp -implicitDefEqProofs +decide only [go_sem, Rt.T, rT, sW, noneM]
  cases neg
  · simp -implicitDefEqProofs +decide only [go_sem, Bool.toNat_false]
    repeat' (refine selP_dec (fun _ => ?_) (fun _ => ?_) <;> simp -implicitDefEqProofs +decide only [go_sem, *])
    all_goals exact endF.vals [(2, _)] (.inr rfl) (vals_t (by first | (simp -implicitDefEqProofs +decide only [go_sem] <;> rfl) | rfl) (by first | rfl | exact T_true (by omega) | exact T_false (by omega) | exact T_dec (by omega) | exact T_ndec (by omega) | exact T_int (by omega)) vals_nil) (fun l hp => by cases l <;> first | rfl | cases hp) rfl
  · simp -implicitDefEqProofs +decide only [go_sem, Bool.toNat_true]
    exact endF.vals [(2, _)] (.inr rfl) (vals_t (by first | (simp -implicitDefEqProofs +decide only [go_sem] <;> rfl) | rfl) (by first | rfl | exact T_true (by omega) | exact T_false (by omega) | exact T_dec (by omega) | exact T_ndec (by omega) | exact T_int (by omega)) vals_nil) (fun l hp => by cases l <;> first | rfl | cases hp) rfl

theorem rWords_ok (a b : List Nat) (ha : a.length < 1000000000) (hb : b.length < 1000000000) : Pure Tryd.prog 58 [sW a, sW b] [.t (.bool (decide (a = b)))] := by
  refine Pure.intro Tryd.func58 rfl (rt := [4]) rfl (by simp [Tryd.ntmps58]) (by decide) (sites := fun _ => false) ?_
  apply run_sound 200
  simp -implicitDefEqProofs +decide only [go_sem, sW]
  refine selP_dec (fun h1 => ?_) (fun h1 => ?_)
  · have : decide (a = b) = false := decide_eq_false (fun e => by subst e; exact h1 rfl)
    rw [this]
    simp -implicitDefEqProofs +decide only [go_sem]
    exact endF.vals [(4, .bool false)] (.inr rfl) (vals_t (by simp -implicitDefEqProofs +decide only [go_sem] <;> rfl) rfl vals_nil) (fun l hp => by cases l <;> first | rfl | cases hp) rfl
  have hl : a.length = b.length := by omega
  simp -implicitDefEqProofs +decide only [go_sem]
  refine Goes.loop (X := Nat) (fun i => ⟨ofL [(0, tW a), (1, tW b), (12, .t (.int .i64 a.length)), (13, .t (.int .i64 i))], fun _ => none, 0⟩) (fun i => i ≤ a.length ∧ a.take i = b.take i) (fun i => a.length - i) 0 ?_ (by simp) ?_
  · exact (Wk.slots _ rfl rfl (by simp -implicitDefEqProofs +decide only [go_sem, tW, sW]) (by simp -implicitDefEqProofs +decide only [go_sem, tW, sW]))
  rintro i ⟨hi, he⟩ J hJ
  apply run_sound 200
  simp -implicitDefEqProofs +decide only [go_sem, tW, sW]
  refine selP_dec (fun hc => ?_) (fun hc => ?_)
  · obtain ⟨x, hx⟩ := getI (show i < a.length by omega)
    obtain ⟨y, hy⟩ := getI (show i < b.length by omega)
    have hw := wS (show i < 1000000000000 by omega)
    simp -implicitDefEqProofs +decide only [go_sem]
    refine Goes.drawN mixed ?_
    simp -implicitDefEqProofs +decide only [go_sem, tW, sW, hx, hy]
    refine ⟨.mk (by kernel_rfl), ?_⟩
    apply run_sound 200
    simp -implicitDefEqProofs +decide only [go_sem]
    refine selP_dec (fun h2 => ?_) (fun h2 => ?_)
    · have : decide (a = b) = false := decide_eq_false (fun e => by subst e; rw [hx] at hy; cases hy; exact h2 rfl)
      rw [this]
      simp -implicitDefEqProofs +decide only [go_sem]
      exact endF.vals [(4, .bool false)] (.inr rfl) (vals_t (by simp -implicitDefEqProofs +decide only [go_sem] <;> rfl) rfl vals_nil) (fun l hp => by cases l <;> first | rfl | cases hp) rfl
    · have : x = y := by omega
      subst this
      simp -implicitDefEqProofs +decide only [go_sem, hw]
      refine hJ (i + 1) _ ⟨by omega, by rw [take_snoc hx, take_snoc hy, he]⟩ (by omega) (Wk.slots _ rfl rfl (by simp -implicitDefEqProofs +decide only [go_sem, tW, sW, hw]) (by simp -implicitDefEqProofs +decide only [go_sem, tW, sW, hw]))
  · have : decide (a = b) = true := decide_eq_true (by rw [← List.take_of_length_le (l := a) (i := i) (by omega), he, List.take_of_length_le (by omega)])
    rw [this]
    simp -implicitDefEqProofs +decide only [go_sem]
    exact endF.vals [(4, .bool true)] (.inr rfl) (vals_t (by simp -implicitDefEqProofs +decide only [go_sem] <;> rfl) rfl vals_nil) (fun l hp => by cases l <;> first | rfl | cases hp) rfl
end Go.Fm
/- Lines: exact numbers, alike and right. -/
namespace Go.Fm
open Go.Proofs
set_option maxRecDepth 100000

theorem noPtr_Rt (x : Rt) : noPtr x.T = true := by
  simp only [Rt.T, rT, noPtr, noPtrL, Bool.and_true, Bool.true_and]
  rw [noPtr_sW, noPtr_sW]; rfl
theorem noPtr_RtU (n : Bool) (p q : List Nat) : noPtr (.agg [.bool n, .slice (p.map U), .slice (q.map U)]) = true := noPtr_Rt ⟨n, p, q⟩
theorem noPtr_Rt0 (n : Bool) : noPtr (.agg [.bool n, .slice [], .slice []]) = true := rfl
attribute [go_sem] noPtr_Rt noPtr_RtU noPtr_Rt0

theorem rSame_ok (x y : Rt) (hx : x.p.length < 1000000000) (hx2 : x.q.length < 1000000000) (hy : y.p.length < 1000000000) (hy2 : y.q.length < 1000000000) : Pure Tryd.prog 45 [x.T, y.T] [.t (.bool (decide (x = y)))] := by
  obtain ⟨n1, p1, q1⟩ := x
  obtain ⟨n2, p2, q2⟩ := y
  dsimp only at hx hx2 hy hy2
  have c1 := rWords_ok p1 p2 hx hy
  have c2 := rWords_ok q1 q2 hx2 hy2
  refine Pure.intro Tryd.func45 rfl (rt := [4]) rfl (by simp [Tryd.ntmps45]) (by decide) (sites := fun _ => false) ?_
  apply run_sound 200
  simp -implicitDefEqProofs +decide only [go_sem, Rt.T, rT, sW]
  by_cases h0 : n1 = n2
  · subst h0
    have hb : decide (n1 = n1) = true := decide_eq_true rfl
    have hbb : (n1 == n1) = true := by simp
    simp -implicitDefEqProofs +decide only [go_sem, hb, hbb]
    refine CallG.pure _ Tryd.call58 (c1) (by first | rfl | (simp only [go_sem]; done) | (simp only [go_sem]; rfl)) (by first | rfl | (simp only [go_sem]; done) | (simp only [go_sem]; rfl)) ?_
    apply run_sound 200
    simp -implicitDefEqProofs +decide only [go_sem, sW]
    refine selP_dec (fun h1 => ?_) (fun h1 => ?_)
    · subst h1
      simp -implicitDefEqProofs +decide only [go_sem]
      refine CallG.pure _ Tryd.call58 (c2) (by first | rfl | (simp only [go_sem]; done) | (simp only [go_sem]; rfl)) (by first | rfl | (simp only [go_sem]; done) | (simp only [go_sem]; rfl)) ?_
      apply run_sound 200
      simp -implicitDefEqProofs +decide only [go_sem, sW]
      have e : decide (Rt.mk n1 p1 q1 = Rt.mk n1 p1 q2) = decide (q1 = q2) := decide_eq_decide.2 (by simp)
      rw [e]
      exact endF.vals [(4, .bool (decide (q1 = q2)))] (.inr rfl) (vals_t (by simp -implicitDefEqProofs +decide only [go_sem] <;> rfl) rfl vals_nil) (fun l hp => by cases l <;> first | rfl | cases hp) rfl
    · have e : decide (Rt.mk n1 p1 q1 = Rt.mk n1 p2 q2) = false := decide_eq_false (fun e => by cases e; exact h1 rfl)
      rw [e]
      simp -implicitDefEqProofs +decide only [go_sem, h1]
      exact endF.vals [(4, .bool false)] (.inr rfl) (vals_t (by simp -implicitDefEqProofs +decide only [go_sem] <;> rfl) rfl vals_nil) (fun l hp => by cases l <;> first | rfl | cases hp) rfl
  · have e : decide (Rt.mk n1 p1 q1 = Rt.mk n2 p2 q2) = false := decide_eq_false (fun e => by cases e; exact h0 rfl)
    rw [e]
    have hb : (n1 == n2) = false := by simpa using h0
    simp -implicitDefEqProofs +decide only [go_sem, h0, hb]
    exact endF.vals [(4, .bool false)] (.inr rfl) (vals_t (by simp -implicitDefEqProofs +decide only [go_sem] <;> rfl) rfl vals_nil) (fun l hp => by cases l <;> first | rfl | cases hp) rfl

theorem rNone_ok (x : Rt) (hx : x.p.length < 1000000000) (hx2 : x.q.length < 1000000000) : Pure Tryd.prog 57 [x.T] [.t (.bool (noneM x))] := by
  have c1 := rSame_ok x ⟨false, [], []⟩ hx hx2 (by simp) (by simp)
  have e : decide (x = ⟨false, [], []⟩) = noneM x := by
    unfold noneM
    refine decide_eq_decide.2 ?_
    obtain ⟨n, p, q⟩ := x
    cases n <;> simp
  rw [e] at c1
  refine Pure.intro Tryd.func57 rfl (rt := [2]) rfl (by simp [Tryd.ntmps57]) (by decide) (sites := fun _ => false) ?_
  apply run_sound 200
  simp -implicitDefEqProofs +decide only [go_sem, Rt.T, rT, sW]
  refine CallG.pure _ Tryd.call45 (c1) (by first | rfl | (simp only [go_sem]; done) | (simp only [go_sem]; rfl)) (by first | rfl | (simp only [go_sem]; done) | (simp only [go_sem]; rfl)) ?_
  apply run_sound 200
  simp -implicitDefEqProofs +decide only [go_sem]
  exact endF.vals [(2, .bool (noneM x))] (.inr rfl) (vals_t (by simp -implicitDefEqProofs +decide only [go_sem] <;> rfl) rfl vals_nil) (fun l hp => by cases l <;> first | rfl | cases hp) rfl

theorem rRight07_ok (x : Rt) (hp : WOK x.p) (hq : WOK x.q) (hlp : x.p.length ≤ 1000) (hlq : x.q.length ≤ 1000) :
    Pure Tryd.prog 56 [x.T] [.t (.bool (rightM x.neg x.p x.q))] := by
  obtain ⟨neg, p, q⟩ := x
  dsimp only at hp hq hlp hlq ⊢
  have c1 := rRight_ok p (by omega)
  have c2 := rRight_ok q (by omega)
  have c3 := rGcd_ok p q hp hq hlp hlq
  refine Pure.intro Tryd.func56 rfl (rt := [2]) rfl (by simp [Tryd.ntmps56]) (by decide) (sites := fun _ => false) ?_
  apply run_sound 200
  simp -implicitDefEqProofs +decide only [go_sem, Rt.T, rT, sW]
  refine CallG.pure _ Tryd.call73 (c1) (by first | rfl | (simp only [go_sem]; done) | (simp only [go_sem]; rfl)) (by first | rfl | (simp only [go_sem]; done) | (simp only [go_sem]; rfl)) ?_
  apply run_sound 200
  simp -implicitDefEqProofs +decide only [go_sem, sW]
  refine selP_ndec (fun h1 => ?_) (fun h1 => ?_)
  · have e : rightM neg p q = false := by simp [rightM, h1]
    rw [e]
    simp -implicitDefEqProofs +decide only [go_sem, h1]
    exact endF.vals [(2, .bool false)] (.inr rfl) (vals_t (by simp -implicitDefEqProofs +decide only [go_sem] <;> rfl) rfl vals_nil) (fun l hp => by cases l <;> first | rfl | cases hp) rfl
  simp -implicitDefEqProofs +decide only [go_sem, h1]
  refine CallG.pure _ Tryd.call73 (c2) (by first | rfl | (simp only [go_sem]; done) | (simp only [go_sem]; rfl)) (by first | rfl | (simp only [go_sem]; done) | (simp only [go_sem]; rfl)) ?_
  apply run_sound 200
  simp -implicitDefEqProofs +decide only [go_sem, sW]
  refine selP_ndec (fun h2 => ?_) (fun h2 => ?_)
  · have e : rightM neg p q = false := by simp [rightM, h2]
    rw [e]
    simp -implicitDefEqProofs +decide only [go_sem, h1, h2]
    exact endF.vals [(2, .bool false)] (.inr rfl) (vals_t (by simp -implicitDefEqProofs +decide only [go_sem] <;> rfl) rfl vals_nil) (fun l hp => by cases l <;> first | rfl | cases hp) rfl
  simp -implicitDefEqProofs +decide only [go_sem, h1, h2]
  refine selP_dec (fun h3 => ?_) (fun h3 => ?_)
  · have e : rightM neg p q = false := by unfold rightM; rw [show decide (0 < q.length) = false from decide_eq_false (by omega)]; simp
    rw [e]
    simp -implicitDefEqProofs +decide only [go_sem, h1, h2, h3]
    exact endF.vals [(2, .bool false)] (.inr rfl) (vals_t (by simp -implicitDefEqProofs +decide only [go_sem] <;> rfl) rfl vals_nil) (fun l hp => by cases l <;> first | rfl | cases hp) rfl
  have h3' : (q.length = 0) = False := eq_false (by omega)
  simp -implicitDefEqProofs +decide only [go_sem, h1, h2, h3]
  have hmain : rightM neg p q = (decide (Nat.gcd (nv p) (nv q) = 1) && !(neg && decide (p.length = 0))) := by
    unfold rightM; rw [show decide (0 < q.length) = true from decide_eq_true (by omega)]; simp [h1, h2]
  have cc := rCmp_ok (wordsOf (Nat.gcd (nv p) (nv q))) [1] (WOK_wordsOf _) (fun x hx => by rw [List.mem_singleton.1 hx]; decide) (by
    have h1 := wordsOf_len_le hp
    have h2 := wordsOf_len_le hq
    rcases Nat.eq_zero_or_pos (nv p) with h | h
    · rw [h, Nat.gcd_zero_left]; omega
    · have := wordsOf_len_mono (Nat.gcd_le_left (nv q) h); omega) (by decide)
  rw [nv_wordsOf, show nv [1] = 1 from rfl] at cc
  have hd : decide (Nat.gcd (nv p) (nv q) = 1) = decide (cmpI (Nat.gcd (nv p) (nv q)) 1 = 0) := by
    congr 1; unfold cmpI; apply propext; constructor
    · intro h; rw [h]; rfl
    · intro h; split at h
      · cases h
      · split at h
        · cases h
        · omega
  have fin : ∀ f0 : Nat → AV, True := fun _ => trivial
  cases neg
  · rw [hmain, Bool.false_and, Bool.not_false, Bool.and_true, hd]
    simp -implicitDefEqProofs +decide only [go_sem]
    refine CallG.pureS _ Tryd.call74 (c3) (by first | rfl | (simp only [go_sem]; done) | (simp only [go_sem]; rfl)) (by first | rfl | (simp only [go_sem]; done) | (simp only [go_sem]; rfl)) ?_
    apply run_sound 200
    simp -implicitDefEqProofs +decide only [go_sem, sW]
    refine CallG.pure _ Tryd.call65 (cc) (by first | rfl | (simp only [go_sem]; done) | (simp only [go_sem]; rfl)) (by first | rfl | (simp only [go_sem]; done) | (simp only [go_sem]; rfl)) ?_
    apply run_sound 200
    simp -implicitDefEqProofs +decide only [go_sem]
    exact endF.vals [(2, .bool (decide (cmpI (Nat.gcd (nv p) (nv q)) 1 = 0)))] (.inr rfl) (vals_t (by simp -implicitDefEqProofs +decide only [go_sem] <;> rfl) rfl vals_nil) (fun l hp => by cases l <;> first | rfl | cases hp) rfl
  · simp -implicitDefEqProofs +decide only [go_sem]
    refine selP_dec (fun h4 => ?_) (fun h4 => ?_)
    · have e : rightM true p q = false := by rw [hmain]; simp; intro _; exact List.length_eq_zero_iff.1 (by omega)
      rw [e]
      simp -implicitDefEqProofs +decide only [go_sem, h4]
      exact endF.vals [(2, .bool false)] (.inr rfl) (vals_t (by simp -implicitDefEqProofs +decide only [go_sem] <;> rfl) rfl vals_nil) (fun l hp => by cases l <;> first | rfl | cases hp) rfl
    · have h4' : decide (p.length = 0) = false := decide_eq_false (by omega)
      rw [hmain, h4', Bool.and_false, Bool.not_false, Bool.and_true, hd]
      simp -implicitDefEqProofs +decide only [go_sem]
      refine CallG.pureS _ Tryd.call74 (c3) (by first | rfl | (simp only [go_sem]; done) | (simp only [go_sem]; rfl)) (by first | rfl | (simp only [go_sem]; done) | (simp only [go_sem]; rfl)) ?_
      apply run_sound 200
      simp -implicitDefEqProofs +decide only [go_sem, sW]
      refine CallG.pure _ Tryd.call65 (cc) (by first | rfl | (simp only [go_sem]; done) | (simp only [go_sem]; rfl)) (by first | rfl | (simp only [go_sem]; done) | (simp only [go_sem]; rfl)) ?_
      apply run_sound 200
      simp -implicitDefEqProofs +decide only [go_sem]
      exact endF.vals [(2, .bool (decide (cmpI (Nat.gcd (nv p) (nv q)) 1 = 0)))] (.inr rfl) (vals_t (by simp -implicitDefEqProofs +decide only [go_sem] <;> rfl) rfl vals_nil) (fun l hp => by cases l <;> first | rfl | cases hp) rfl
end Go.Fm
/- Lines: fits. -/
namespace Go.Fm
open Go.Proofs
set_option maxRecDepth 100000

structure In where
  op : Int
  a : Int
  b : Int
  x : Rt
  deriving DecidableEq
def In.T (i : In) : T := .agg [.int .i64 i.op, .int .i64 i.a, .int .i64 i.b, .bool i.x.neg, sW i.x.p, sW i.x.q]
theorem noPtr_In (i : In) : noPtr i.T = true := by
  simp only [In.T, noPtr, noPtrL, Bool.and_true, Bool.true_and]
  rw [noPtr_sW, noPtr_sW]; rfl
theorem noPtr_InU (op a b : Int) (n : Bool) (p q : List Nat) : noPtr (.agg [.int .i64 op, .int .i64 a, .int .i64 b, .bool n, .slice (p.map U), .slice (q.map U)]) = true := noPtr_In ⟨op, a, b, ⟨n, p, q⟩⟩
attribute [go_sem] noPtr_In noPtr_InU
structure Rt.OK (x : Rt) : Prop where
  wp : WOK x.p
  wq : WOK x.q
  lp : x.p.length ≤ 1000
  lq : x.q.length ≤ 1000
def Rt.right (x : Rt) : Bool := rightM x.neg x.p x.q

def fitsQ (op a b : Int) (n zn zr : Nat) : Prop := (op = 2 ∧ a = 0 ∧ b = 0 ∧ zr = 1) ∨ (op = 1 ∧ 0 ≤ a ∧ a < 65536 ∧ b = 0 ∧ zn = 1) ∨ ((op = 3 ∨ (8 ≤ op ∧ op ≤ 10)) ∧ 0 ≤ a ∧ a < n ∧ b = 0 ∧ zn = 1) ∨ (4 ≤ op ∧ op ≤ 7 ∧ 0 ≤ a ∧ a < n ∧ 0 ≤ b ∧ b < n ∧ zn = 1)
instance (op a b : Int) (n zn zr : Nat) : Decidable (fitsQ op a b n zn zr) := by unfold fitsQ; infer_instance
def fitsM (i : In) (n : Nat) : Bool := decide (fitsQ i.op i.a i.b n (noneM i.x).toNat i.x.right.toNat)

theorem fits_aux0 (op a b : Int) (neg : Bool) (p q : List Nat) (n : Nat) (bn br : Bool) (zn zr : Nat) (hzn : bn.toNat = zn) (hzr : br.toNat = zr)
    (ca : Pure Tryd.prog 27 [.int .i64 op] [.t (.int .i64 (0))]) (cn : Pure Tryd.prog 59 [Rt.T ⟨neg, p, q⟩] [.t (.bool bn)]) (cr : Pure Tryd.prog 60 [rT neg p q] [.t (.bool br)])
    (hc : op = 1 ∨ op = 2) :
    Pure Tryd.prog 46 [In.T ⟨op, a, b, ⟨neg, p, q⟩⟩, .int .i64 n] [.t (.bool (decide (fitsQ op a b n zn zr)))] := by
  refine Pure.intro Tryd.func46 rfl (rt := [4]) rfl (by simp [Tryd.ntmps46]) (by decide) (sites := fun _ => false) ?_
  apply run_sound 200
  simp -implicitDefEqProofs +decide only [go_sem, In.T, sW]
  refine CallG.pure _ Tryd.call27 (ca) (by first | rfl | (simp only [go_sem]; done) | (simp only [go_sem]; rfl)) (by first | rfl | (simp only [go_sem]; done) | (simp only [go_sem]; rfl)) ?_
  apply run_sound 200
  simp -implicitDefEqProofs +decide only [go_sem]
  repeat' (refine selP_dec (fun _ => ?_) (fun _ => ?_) <;> simp -implicitDefEqProofs +decide only [go_sem, *])
  all_goals cases bn <;> cases br <;> simp only [Bool.toNat_true, Bool.toNat_false] at hzn hzr <;> subst hzn <;> subst hzr
  all_goals first
    | exact endF.vals [(4, _)] (.inr rfl) (vals_t (by first | (simp -implicitDefEqProofs +decide only [go_sem] <;> rfl) | rfl) (by unfold fitsQ; first | rfl | exact T_true (by omega) | exact T_false (by omega) | exact T_dec (by omega) | exact T_ndec (by omega) | exact T_int (by omega)) vals_nil) (fun l hp => by cases l <;> first | rfl | cases hp) rfl
    | (refine CallG.pure _ Tryd.call59 cn (by first | rfl | (simp only [go_sem]; done) | (simp only [go_sem]; rfl)) (by first | rfl | (simp only [go_sem]; done) | (simp only [go_sem]; rfl)) ?_; apply run_sound 200; simp -implicitDefEqProofs +decide only [go_sem]; exact endF.vals [(4, _)] (.inr rfl) (vals_t (by first | (simp -implicitDefEqProofs +decide only [go_sem] <;> rfl) | rfl) (by unfold fitsQ; first | rfl | exact T_true (by omega) | exact T_false (by omega) | exact T_dec (by omega) | exact T_ndec (by omega) | exact T_int (by omega)) vals_nil) (fun l hp => by cases l <;> first | rfl | cases hp) rfl)
    | (refine CallG.pure _ Tryd.call60 cr (by first | rfl | (simp only [go_sem]; done) | (simp only [go_sem]; rfl)) (by first | rfl | (simp only [go_sem]; done) | (simp only [go_sem]; rfl)) ?_; apply run_sound 200; simp -implicitDefEqProofs +decide only [go_sem]; exact endF.vals [(4, _)] (.inr rfl) (vals_t (by first | (simp -implicitDefEqProofs +decide only [go_sem] <;> rfl) | rfl) (by unfold fitsQ; first | rfl | exact T_true (by omega) | exact T_false (by omega) | exact T_dec (by omega) | exact T_ndec (by omega) | exact T_int (by omega)) vals_nil) (fun l hp => by cases l <;> first | rfl | cases hp) rfl)

theorem fits_aux1 (op a b : Int) (neg : Bool) (p q : List Nat) (n : Nat) (bn br : Bool) (zn zr : Nat) (hzn : bn.toNat = zn) (hzr : br.toNat = zr)
    (ca : Pure Tryd.prog 27 [.int .i64 op] [.t (.int .i64 (1))]) (cn : Pure Tryd.prog 59 [Rt.T ⟨neg, p, q⟩] [.t (.bool bn)]) (cr : Pure Tryd.prog 60 [rT neg p q] [.t (.bool br)])
    (hc : op = 3 ∨ (8 ≤ op ∧ op ≤ 10)) :
    Pure Tryd.prog 46 [In.T ⟨op, a, b, ⟨neg, p, q⟩⟩, .int .i64 n] [.t (.bool (decide (fitsQ op a b n zn zr)))] := by
  refine Pure.intro Tryd.func46 rfl (rt := [4]) rfl (by simp [Tryd.ntmps46]) (by decide) (sites := fun _ => false) ?_
  apply run_sound 200
  simp -implicitDefEqProofs +decide only [go_sem, In.T, sW]
  refine CallG.pure _ Tryd.call27 (ca) (by first | rfl | (simp only [go_sem]; done) | (simp only [go_sem]; rfl)) (by first | rfl | (simp only [go_sem]; done) | (simp only [go_sem]; rfl)) ?_
  apply run_sound 200
  simp -implicitDefEqProofs +decide only [go_sem]
  repeat' (refine selP_dec (fun _ => ?_) (fun _ => ?_) <;> simp -implicitDefEqProofs +decide only [go_sem, *])
  all_goals cases bn <;> cases br <;> simp only [Bool.toNat_true, Bool.toNat_false] at hzn hzr <;> subst hzn <;> subst hzr
  all_goals first
    | exact endF.vals [(4, _)] (.inr rfl) (vals_t (by first | (simp -implicitDefEqProofs +decide only [go_sem] <;> rfl) | rfl) (by unfold fitsQ; first | rfl | exact T_true (by omega) | exact T_false (by omega) | exact T_dec (by omega) | exact T_ndec (by omega) | exact T_int (by omega)) vals_nil) (fun l hp => by cases l <;> first | rfl | cases hp) rfl
    | (refine CallG.pure _ Tryd.call59 cn (by first | rfl | (simp only [go_sem]; done) | (simp only [go_sem]; rfl)) (by first | rfl | (simp only [go_sem]; done) | (simp only [go_sem]; rfl)) ?_; apply run_sound 200; simp -implicitDefEqProofs +decide only [go_sem]; exact endF.vals [(4, _)] (.inr rfl) (vals_t (by first | (simp -implicitDefEqProofs +decide only [go_sem] <;> rfl) | rfl) (by unfold fitsQ; first | rfl | exact T_true (by omega) | exact T_false (by omega) | exact T_dec (by omega) | exact T_ndec (by omega) | exact T_int (by omega)) vals_nil) (fun l hp => by cases l <;> first | rfl | cases hp) rfl)
    | (refine CallG.pure _ Tryd.call60 cr (by first | rfl | (simp only [go_sem]; done) | (simp only [go_sem]; rfl)) (by first | rfl | (simp only [go_sem]; done) | (simp only [go_sem]; rfl)) ?_; apply run_sound 200; simp -implicitDefEqProofs +decide only [go_sem]; exact endF.vals [(4, _)] (.inr rfl) (vals_t (by first | (simp -implicitDefEqProofs +decide only [go_sem] <;> rfl) | rfl) (by unfold fitsQ; first | rfl | exact T_true (by omega) | exact T_false (by omega) | exact T_dec (by omega) | exact T_ndec (by omega) | exact T_int (by omega)) vals_nil) (fun l hp => by cases l <;> first | rfl | cases hp) rfl)

theorem fits_aux2 (op a b : Int) (neg : Bool) (p q : List Nat) (n : Nat) (bn br : Bool) (zn zr : Nat) (hzn : bn.toNat = zn) (hzr : br.toNat = zr)
    (ca : Pure Tryd.prog 27 [.int .i64 op] [.t (.int .i64 (2))]) (cn : Pure Tryd.prog 59 [Rt.T ⟨neg, p, q⟩] [.t (.bool bn)]) (cr : Pure Tryd.prog 60 [rT neg p q] [.t (.bool br)])
    (hc : 4 ≤ op ∧ op ≤ 7) :
    Pure Tryd.prog 46 [In.T ⟨op, a, b, ⟨neg, p, q⟩⟩, .int .i64 n] [.t (.bool (decide (fitsQ op a b n zn zr)))] := by
  refine Pure.intro Tryd.func46 rfl (rt := [4]) rfl (by simp [Tryd.ntmps46]) (by decide) (sites := fun _ => false) ?_
  apply run_sound 200
  simp -implicitDefEqProofs +decide only [go_sem, In.T, sW]
  refine CallG.pure _ Tryd.call27 (ca) (by first | rfl | (simp only [go_sem]; done) | (simp only [go_sem]; rfl)) (by first | rfl | (simp only [go_sem]; done) | (simp only [go_sem]; rfl)) ?_
  apply run_sound 200
  simp -implicitDefEqProofs +decide only [go_sem]
  repeat' (refine selP_dec (fun _ => ?_) (fun _ => ?_) <;> simp -implicitDefEqProofs +decide only [go_sem, *])
  all_goals cases bn <;> cases br <;> simp only [Bool.toNat_true, Bool.toNat_false] at hzn hzr <;> subst hzn <;> subst hzr
  all_goals first
    | exact endF.vals [(4, _)] (.inr rfl) (vals_t (by first | (simp -implicitDefEqProofs +decide only [go_sem] <;> rfl) | rfl) (by unfold fitsQ; first | rfl | exact T_true (by omega) | exact T_false (by omega) | exact T_dec (by omega) | exact T_ndec (by omega) | exact T_int (by omega)) vals_nil) (fun l hp => by cases l <;> first | rfl | cases hp) rfl
    | (refine CallG.pure _ Tryd.call59 cn (by first | rfl | (simp only [go_sem]; done) | (simp only [go_sem]; rfl)) (by first | rfl | (simp only [go_sem]; done) | (simp only [go_sem]; rfl)) ?_; apply run_sound 200; simp -implicitDefEqProofs +decide only [go_sem]; exact endF.vals [(4, _)] (.inr rfl) (vals_t (by first | (simp -implicitDefEqProofs +decide only [go_sem] <;> rfl) | rfl) (by unfold fitsQ; first | rfl | exact T_true (by omega) | exact T_false (by omega) | exact T_dec (by omega) | exact T_ndec (by omega) | exact T_int (by omega)) vals_nil) (fun l hp => by cases l <;> first | rfl | cases hp) rfl)
    | (refine CallG.pure _ Tryd.call60 cr (by first | rfl | (simp only [go_sem]; done) | (simp only [go_sem]; rfl)) (by first | rfl | (simp only [go_sem]; done) | (simp only [go_sem]; rfl)) ?_; apply run_sound 200; simp -implicitDefEqProofs +decide only [go_sem]; exact endF.vals [(4, _)] (.inr rfl) (vals_t (by first | (simp -implicitDefEqProofs +decide only [go_sem] <;> rfl) | rfl) (by unfold fitsQ; first | rfl | exact T_true (by omega) | exact T_false (by omega) | exact T_dec (by omega) | exact T_ndec (by omega) | exact T_int (by omega)) vals_nil) (fun l hp => by cases l <;> first | rfl | cases hp) rfl)

theorem fits_aux3 (op a b : Int) (neg : Bool) (p q : List Nat) (n : Nat) (bn br : Bool) (zn zr : Nat) (hzn : bn.toNat = zn) (hzr : br.toNat = zr)
    (ca : Pure Tryd.prog 27 [.int .i64 op] [.t (.int .i64 (-1))]) (cn : Pure Tryd.prog 59 [Rt.T ⟨neg, p, q⟩] [.t (.bool bn)]) (cr : Pure Tryd.prog 60 [rT neg p q] [.t (.bool br)])
    (hc : op ≤ 0 ∨ 11 ≤ op) :
    Pure Tryd.prog 46 [In.T ⟨op, a, b, ⟨neg, p, q⟩⟩, .int .i64 n] [.t (.bool (decide (fitsQ op a b n zn zr)))] := by
  refine Pure.intro Tryd.func46 rfl (rt := [4]) rfl (by simp [Tryd.ntmps46]) (by decide) (sites := fun _ => false) ?_
  apply run_sound 200
  simp -implicitDefEqProofs +decide only [go_sem, In.T, sW]
  refine CallG.pure _ Tryd.call27 (ca) (by first | rfl | (simp only [go_sem]; done) | (simp only [go_sem]; rfl)) (by first | rfl | (simp only [go_sem]; done) | (simp only [go_sem]; rfl)) ?_
  apply run_sound 200
  simp -implicitDefEqProofs +decide only [go_sem]
  repeat' (refine selP_dec (fun _ => ?_) (fun _ => ?_) <;> simp -implicitDefEqProofs +decide only [go_sem, *])
  all_goals cases bn <;> cases br <;> simp only [Bool.toNat_true, Bool.toNat_false] at hzn hzr <;> subst hzn <;> subst hzr
  all_goals first
    | exact endF.vals [(4, _)] (.inr rfl) (vals_t (by first | (simp -implicitDefEqProofs +decide only [go_sem] <;> rfl) | rfl) (by unfold fitsQ; first | rfl | exact T_true (by omega) | exact T_false (by omega) | exact T_dec (by omega) | exact T_ndec (by omega) | exact T_int (by omega)) vals_nil) (fun l hp => by cases l <;> first | rfl | cases hp) rfl
    | (refine CallG.pure _ Tryd.call59 cn (by first | rfl | (simp only [go_sem]; done) | (simp only [go_sem]; rfl)) (by first | rfl | (simp only [go_sem]; done) | (simp only [go_sem]; rfl)) ?_; apply run_sound 200; simp -implicitDefEqProofs +decide only [go_sem]; exact endF.vals [(4, _)] (.inr rfl) (vals_t (by first | (simp -implicitDefEqProofs +decide only [go_sem] <;> rfl) | rfl) (by unfold fitsQ; first | rfl | exact T_true (by omega) | exact T_false (by omega) | exact T_dec (by omega) | exact T_ndec (by omega) | exact T_int (by omega)) vals_nil) (fun l hp => by cases l <;> first | rfl | cases hp) rfl)
    | (refine CallG.pure _ Tryd.call60 cr (by first | rfl | (simp only [go_sem]; done) | (simp only [go_sem]; rfl)) (by first | rfl | (simp only [go_sem]; done) | (simp only [go_sem]; rfl)) ?_; apply run_sound 200; simp -implicitDefEqProofs +decide only [go_sem]; exact endF.vals [(4, _)] (.inr rfl) (vals_t (by first | (simp -implicitDefEqProofs +decide only [go_sem] <;> rfl) | rfl) (by unfold fitsQ; first | rfl | exact T_true (by omega) | exact T_false (by omega) | exact T_dec (by omega) | exact T_ndec (by omega) | exact T_int (by omega)) vals_nil) (fun l hp => by cases l <;> first | rfl | cases hp) rfl)

theorem fits_ok (i : In) (n : Nat) (h : i.x.OK) : Pure Tryd.prog 46 [i.T, .int .i64 n] [.t (.bool (fitsM i n))] := by
  have ca := arity_ok i.op
  have cn := none_ok i.x
  have cr := ratRight_ok i.x.neg i.x.p i.x.q h.wp h.wq (by have := h.lp; omega) (by have := h.lq; omega)
  rcases arM_cases i.op with ⟨hr, hc⟩ | ⟨hr, hc⟩ | ⟨hr, hc⟩ | ⟨hr, hc⟩ <;> rw [hr] at ca
  · exact fits_aux0 i.op i.a i.b i.x.neg i.x.p i.x.q n _ _ _ _ rfl rfl ca cn cr hc
  · exact fits_aux1 i.op i.a i.b i.x.neg i.x.p i.x.q n _ _ _ _ rfl rfl ca cn cr hc
  · exact fits_aux2 i.op i.a i.b i.x.neg i.x.p i.x.q n _ _ _ _ rfl rfl ca cn cr hc
  · exact fits_aux3 i.op i.a i.b i.x.neg i.x.p i.x.q n _ _ _ _ rfl rfl ca cn cr hc
end Go.Fm
/- Lines: Fits of the reference; Right. -/
namespace Go.Fm
open Go.Proofs
set_option maxRecDepth 100000

theorem rfits_aux0 (op a b : Int) (neg : Bool) (p q : List Nat) (n : Nat) (bn br : Bool) (zn zr : Nat) (hzn : bn.toNat = zn) (hzr : br.toNat = zr)
    (ca : Pure Tryd.prog 28 [.int .i64 op] [.t (.int .i64 (0))]) (cn : Pure Tryd.prog 57 [Rt.T ⟨neg, p, q⟩] [.t (.bool bn)]) (cr : Pure Tryd.prog 56 [Rt.T ⟨neg, p, q⟩] [.t (.bool br)])
    (hc : op = 2) :
    Pure Tryd.prog 43 [In.T ⟨op, a, b, ⟨neg, p, q⟩⟩, .int .i64 n] [.t (.bool (decide (fitsQ op a b n zn zr)))] := by
  subst hc
  refine Pure.intro Tryd.func43 rfl (rt := [4]) rfl (by simp [Tryd.ntmps43]) (by decide) (sites := fun _ => false) ?_
  apply run_sound 200
  simp -implicitDefEqProofs +decide only [go_sem, In.T, sW]
  cases bn <;> cases br <;> simp only [Bool.toNat_true, Bool.toNat_false] at hzn hzr <;> subst hzn <;> subst hzr
  all_goals repeat' (refine selP_dec (fun _ => ?_) (fun _ => ?_) <;> simp -implicitDefEqProofs +decide only [go_sem, *])
  all_goals try (exfalso; omega)
  all_goals try (refine CallG.pure _ Tryd.call57 cn (by first | rfl | (simp only [go_sem]; done) | (simp only [go_sem]; rfl)) (by first | rfl | (simp only [go_sem]; done) | (simp only [go_sem]; rfl)) ?_; apply run_sound 200; simp -implicitDefEqProofs +decide only [go_sem, *])
  all_goals repeat' (refine selP_dec (fun _ => ?_) (fun _ => ?_) <;> simp -implicitDefEqProofs +decide only [go_sem, *])
  all_goals try (exfalso; omega)
  all_goals try (refine CallG.pure _ Tryd.call28 ca (by first | rfl | (simp only [go_sem]; done) | (simp only [go_sem]; rfl)) (by first | rfl | (simp only [go_sem]; done) | (simp only [go_sem]; rfl)) ?_; apply run_sound 200; simp -implicitDefEqProofs +decide only [go_sem, *])
  all_goals repeat' (refine selP_dec (fun _ => ?_) (fun _ => ?_) <;> simp -implicitDefEqProofs +decide only [go_sem, *])
  all_goals try (exfalso; omega)
  all_goals try (refine CallG.pure _ Tryd.call28 ca (by first | rfl | (simp only [go_sem]; done) | (simp only [go_sem]; rfl)) (by first | rfl | (simp only [go_sem]; done) | (simp only [go_sem]; rfl)) ?_; apply run_sound 200; simp -implicitDefEqProofs +decide only [go_sem, *])
  all_goals repeat' (refine selP_dec (fun _ => ?_) (fun _ => ?_) <;> simp -implicitDefEqProofs +decide only [go_sem, *])
  all_goals try (exfalso; omega)
  all_goals first
    | exact endF.vals [(4, _)] (.inr rfl) (vals_t (by first | (simp -implicitDefEqProofs +decide only [go_sem] <;> rfl) | rfl) (by unfold fitsQ; first | rfl | exact T_true (by omega) | exact T_false (by omega) | exact T_dec (by omega) | exact T_ndec (by omega) | exact T_int (by omega)) vals_nil) (fun l hp => by cases l <;> first | rfl | cases hp) rfl
    | (refine CallG.pure _ Tryd.call56 cr (by first | rfl | (simp only [go_sem]; done) | (simp only [go_sem]; rfl)) (by first | rfl | (simp only [go_sem]; done) | (simp only [go_sem]; rfl)) ?_; apply run_sound 200; simp -implicitDefEqProofs +decide only [go_sem]; exact endF.vals [(4, _)] (.inr rfl) (vals_t (by first | (simp -implicitDefEqProofs +decide only [go_sem] <;> rfl) | rfl) (by unfold fitsQ; first | rfl | exact T_true (by omega) | exact T_false (by omega) | exact T_dec (by omega) | exact T_ndec (by omega) | exact T_int (by omega)) vals_nil) (fun l hp => by cases l <;> first | rfl | cases hp) rfl)

theorem rfits_aux1 (op a b : Int) (neg : Bool) (p q : List Nat) (n : Nat) (bn br : Bool) (zn zr : Nat) (hzn : bn.toNat = zn) (hzr : br.toNat = zr)
    (ca : Pure Tryd.prog 28 [.int .i64 op] [.t (.int .i64 (0))]) (cn : Pure Tryd.prog 57 [Rt.T ⟨neg, p, q⟩] [.t (.bool bn)]) (cr : Pure Tryd.prog 56 [Rt.T ⟨neg, p, q⟩] [.t (.bool br)])
    (hc : op = 1) :
    Pure Tryd.prog 43 [In.T ⟨op, a, b, ⟨neg, p, q⟩⟩, .int .i64 n] [.t (.bool (decide (fitsQ op a b n zn zr)))] := by
  subst hc
  refine Pure.intro Tryd.func43 rfl (rt := [4]) rfl (by simp [Tryd.ntmps43]) (by decide) (sites := fun _ => false) ?_
  apply run_sound 200
  simp -implicitDefEqProofs +decide only [go_sem, In.T, sW]
  cases bn <;> cases br <;> simp only [Bool.toNat_true, Bool.toNat_false] at hzn hzr <;> subst hzn <;> subst hzr
  all_goals repeat' (refine selP_dec (fun _ => ?_) (fun _ => ?_) <;> simp -implicitDefEqProofs +decide only [go_sem, *])
  all_goals try (exfalso; omega)
  all_goals try (refine CallG.pure _ Tryd.call57 cn (by first | rfl | (simp only [go_sem]; done) | (simp only [go_sem]; rfl)) (by first | rfl | (simp only [go_sem]; done) | (simp only [go_sem]; rfl)) ?_; apply run_sound 200; simp -implicitDefEqProofs +decide only [go_sem, *])
  all_goals repeat' (refine selP_dec (fun _ => ?_) (fun _ => ?_) <;> simp -implicitDefEqProofs +decide only [go_sem, *])
  all_goals try (exfalso; omega)
  all_goals try (refine CallG.pure _ Tryd.call28 ca (by first | rfl | (simp only [go_sem]; done) | (simp only [go_sem]; rfl)) (by first | rfl | (simp only [go_sem]; done) | (simp only [go_sem]; rfl)) ?_; apply run_sound 200; simp -implicitDefEqProofs +decide only [go_sem, *])
  all_goals repeat' (refine selP_dec (fun _ => ?_) (fun _ => ?_) <;> simp -implicitDefEqProofs +decide only [go_sem, *])
  all_goals try (exfalso; omega)
  all_goals try (refine CallG.pure _ Tryd.call28 ca (by first | rfl | (simp only [go_sem]; done) | (simp only [go_sem]; rfl)) (by first | rfl | (simp only [go_sem]; done) | (simp only [go_sem]; rfl)) ?_; apply run_sound 200; simp -implicitDefEqProofs +decide only [go_sem, *])
  all_goals repeat' (refine selP_dec (fun _ => ?_) (fun _ => ?_) <;> simp -implicitDefEqProofs +decide only [go_sem, *])
  all_goals try (exfalso; omega)
  all_goals first
    | exact endF.vals [(4, _)] (.inr rfl) (vals_t (by first | (simp -implicitDefEqProofs +decide only [go_sem] <;> rfl) | rfl) (by unfold fitsQ; first | rfl | exact T_true (by omega) | exact T_false (by omega) | exact T_dec (by omega) | exact T_ndec (by omega) | exact T_int (by omega)) vals_nil) (fun l hp => by cases l <;> first | rfl | cases hp) rfl
    | (refine CallG.pure _ Tryd.call56 cr (by first | rfl | (simp only [go_sem]; done) | (simp only [go_sem]; rfl)) (by first | rfl | (simp only [go_sem]; done) | (simp only [go_sem]; rfl)) ?_; apply run_sound 200; simp -implicitDefEqProofs +decide only [go_sem]; exact endF.vals [(4, _)] (.inr rfl) (vals_t (by first | (simp -implicitDefEqProofs +decide only [go_sem] <;> rfl) | rfl) (by unfold fitsQ; first | rfl | exact T_true (by omega) | exact T_false (by omega) | exact T_dec (by omega) | exact T_ndec (by omega) | exact T_int (by omega)) vals_nil) (fun l hp => by cases l <;> first | rfl | cases hp) rfl)

theorem rfits_aux2 (op a b : Int) (neg : Bool) (p q : List Nat) (n : Nat) (bn br : Bool) (zn zr : Nat) (hzn : bn.toNat = zn) (hzr : br.toNat = zr)
    (ca : Pure Tryd.prog 28 [.int .i64 op] [.t (.int .i64 (1))]) (cn : Pure Tryd.prog 57 [Rt.T ⟨neg, p, q⟩] [.t (.bool bn)]) (cr : Pure Tryd.prog 56 [Rt.T ⟨neg, p, q⟩] [.t (.bool br)])
    (hc : op = 3 ∨ (8 ≤ op ∧ op ≤ 10)) :
    Pure Tryd.prog 43 [In.T ⟨op, a, b, ⟨neg, p, q⟩⟩, .int .i64 n] [.t (.bool (decide (fitsQ op a b n zn zr)))] := by
  refine Pure.intro Tryd.func43 rfl (rt := [4]) rfl (by simp [Tryd.ntmps43]) (by decide) (sites := fun _ => false) ?_
  apply run_sound 200
  simp -implicitDefEqProofs +decide only [go_sem, In.T, sW]
  cases bn <;> cases br <;> simp only [Bool.toNat_true, Bool.toNat_false] at hzn hzr <;> subst hzn <;> subst hzr
  all_goals repeat' (refine selP_dec (fun _ => ?_) (fun _ => ?_) <;> simp -implicitDefEqProofs +decide only [go_sem, *])
  all_goals try (exfalso; omega)
  all_goals try (refine CallG.pure _ Tryd.call57 cn (by first | rfl | (simp only [go_sem]; done) | (simp only [go_sem]; rfl)) (by first | rfl | (simp only [go_sem]; done) | (simp only [go_sem]; rfl)) ?_; apply run_sound 200; simp -implicitDefEqProofs +decide only [go_sem, *])
  all_goals repeat' (refine selP_dec (fun _ => ?_) (fun _ => ?_) <;> simp -implicitDefEqProofs +decide only [go_sem, *])
  all_goals try (exfalso; omega)
  all_goals try (refine CallG.pure _ Tryd.call28 ca (by first | rfl | (simp only [go_sem]; done) | (simp only [go_sem]; rfl)) (by first | rfl | (simp only [go_sem]; done) | (simp only [go_sem]; rfl)) ?_; apply run_sound 200; simp -implicitDefEqProofs +decide only [go_sem, *])
  all_goals repeat' (refine selP_dec (fun _ => ?_) (fun _ => ?_) <;> simp -implicitDefEqProofs +decide only [go_sem, *])
  all_goals try (exfalso; omega)
  all_goals try (refine CallG.pure _ Tryd.call28 ca (by first | rfl | (simp only [go_sem]; done) | (simp only [go_sem]; rfl)) (by first | rfl | (simp only [go_sem]; done) | (simp only [go_sem]; rfl)) ?_; apply run_sound 200; simp -implicitDefEqProofs +decide only [go_sem, *])
  all_goals repeat' (refine selP_dec (fun _ => ?_) (fun _ => ?_) <;> simp -implicitDefEqProofs +decide only [go_sem, *])
  all_goals try (exfalso; omega)
  all_goals first
    | exact endF.vals [(4, _)] (.inr rfl) (vals_t (by first | (simp -implicitDefEqProofs +decide only [go_sem] <;> rfl) | rfl) (by unfold fitsQ; first | rfl | exact T_true (by omega) | exact T_false (by omega) | exact T_dec (by omega) | exact T_ndec (by omega) | exact T_int (by omega)) vals_nil) (fun l hp => by cases l <;> first | rfl | cases hp) rfl
    | (refine CallG.pure _ Tryd.call56 cr (by first | rfl | (simp only [go_sem]; done) | (simp only [go_sem]; rfl)) (by first | rfl | (simp only [go_sem]; done) | (simp only [go_sem]; rfl)) ?_; apply run_sound 200; simp -implicitDefEqProofs +decide only [go_sem]; exact endF.vals [(4, _)] (.inr rfl) (vals_t (by first | (simp -implicitDefEqProofs +decide only [go_sem] <;> rfl) | rfl) (by unfold fitsQ; first | rfl | exact T_true (by omega) | exact T_false (by omega) | exact T_dec (by omega) | exact T_ndec (by omega) | exact T_int (by omega)) vals_nil) (fun l hp => by cases l <;> first | rfl | cases hp) rfl)

theorem rfits_aux3 (op a b : Int) (neg : Bool) (p q : List Nat) (n : Nat) (bn br : Bool) (zn zr : Nat) (hzn : bn.toNat = zn) (hzr : br.toNat = zr)
    (ca : Pure Tryd.prog 28 [.int .i64 op] [.t (.int .i64 (2))]) (cn : Pure Tryd.prog 57 [Rt.T ⟨neg, p, q⟩] [.t (.bool bn)]) (cr : Pure Tryd.prog 56 [Rt.T ⟨neg, p, q⟩] [.t (.bool br)])
    (hc : 4 ≤ op ∧ op ≤ 7) :
    Pure Tryd.prog 43 [In.T ⟨op, a, b, ⟨neg, p, q⟩⟩, .int .i64 n] [.t (.bool (decide (fitsQ op a b n zn zr)))] := by
  refine Pure.intro Tryd.func43 rfl (rt := [4]) rfl (by simp [Tryd.ntmps43]) (by decide) (sites := fun _ => false) ?_
  apply run_sound 200
  simp -implicitDefEqProofs +decide only [go_sem, In.T, sW]
  cases bn <;> cases br <;> simp only [Bool.toNat_true, Bool.toNat_false] at hzn hzr <;> subst hzn <;> subst hzr
  all_goals repeat' (refine selP_dec (fun _ => ?_) (fun _ => ?_) <;> simp -implicitDefEqProofs +decide only [go_sem, *])
  all_goals try (exfalso; omega)
  all_goals try (refine CallG.pure _ Tryd.call57 cn (by first | rfl | (simp only [go_sem]; done) | (simp only [go_sem]; rfl)) (by first | rfl | (simp only [go_sem]; done) | (simp only [go_sem]; rfl)) ?_; apply run_sound 200; simp -implicitDefEqProofs +decide only [go_sem, *])
  all_goals repeat' (refine selP_dec (fun _ => ?_) (fun _ => ?_) <;> simp -implicitDefEqProofs +decide only [go_sem, *])
  all_goals try (exfalso; omega)
  all_goals try (refine CallG.pure _ Tryd.call28 ca (by first | rfl | (simp only [go_sem]; done) | (simp only [go_sem]; rfl)) (by first | rfl | (simp only [go_sem]; done) | (simp only [go_sem]; rfl)) ?_; apply run_sound 200; simp -implicitDefEqProofs +decide only [go_sem, *])
  all_goals repeat' (refine selP_dec (fun _ => ?_) (fun _ => ?_) <;> simp -implicitDefEqProofs +decide only [go_sem, *])
  all_goals try (exfalso; omega)
  all_goals try (refine CallG.pure _ Tryd.call28 ca (by first | rfl | (simp only [go_sem]; done) | (simp only [go_sem]; rfl)) (by first | rfl | (simp only [go_sem]; done) | (simp only [go_sem]; rfl)) ?_; apply run_sound 200; simp -implicitDefEqProofs +decide only [go_sem, *])
  all_goals repeat' (refine selP_dec (fun _ => ?_) (fun _ => ?_) <;> simp -implicitDefEqProofs +decide only [go_sem, *])
  all_goals try (exfalso; omega)
  all_goals first
    | exact endF.vals [(4, _)] (.inr rfl) (vals_t (by first | (simp -implicitDefEqProofs +decide only [go_sem] <;> rfl) | rfl) (by unfold fitsQ; first | rfl | exact T_true (by omega) | exact T_false (by omega) | exact T_dec (by omega) | exact T_ndec (by omega) | exact T_int (by omega)) vals_nil) (fun l hp => by cases l <;> first | rfl | cases hp) rfl
    | (refine CallG.pure _ Tryd.call56 cr (by first | rfl | (simp only [go_sem]; done) | (simp only [go_sem]; rfl)) (by first | rfl | (simp only [go_sem]; done) | (simp only [go_sem]; rfl)) ?_; apply run_sound 200; simp -implicitDefEqProofs +decide only [go_sem]; exact endF.vals [(4, _)] (.inr rfl) (vals_t (by first | (simp -implicitDefEqProofs +decide only [go_sem] <;> rfl) | rfl) (by unfold fitsQ; first | rfl | exact T_true (by omega) | exact T_false (by omega) | exact T_dec (by omega) | exact T_ndec (by omega) | exact T_int (by omega)) vals_nil) (fun l hp => by cases l <;> first | rfl | cases hp) rfl)

theorem rfits_aux4 (op a b : Int) (neg : Bool) (p q : List Nat) (n : Nat) (bn br : Bool) (zn zr : Nat) (hzn : bn.toNat = zn) (hzr : br.toNat = zr)
    (ca : Pure Tryd.prog 28 [.int .i64 op] [.t (.int .i64 (-1))]) (cn : Pure Tryd.prog 57 [Rt.T ⟨neg, p, q⟩] [.t (.bool bn)]) (cr : Pure Tryd.prog 56 [Rt.T ⟨neg, p, q⟩] [.t (.bool br)])
    (hc : op ≤ 0 ∨ 11 ≤ op) :
    Pure Tryd.prog 43 [In.T ⟨op, a, b, ⟨neg, p, q⟩⟩, .int .i64 n] [.t (.bool (decide (fitsQ op a b n zn zr)))] := by
  refine Pure.intro Tryd.func43 rfl (rt := [4]) rfl (by simp [Tryd.ntmps43]) (by decide) (sites := fun _ => false) ?_
  apply run_sound 200
  simp -implicitDefEqProofs +decide only [go_sem, In.T, sW]
  cases bn <;> cases br <;> simp only [Bool.toNat_true, Bool.toNat_false] at hzn hzr <;> subst hzn <;> subst hzr
  all_goals repeat' (refine selP_dec (fun _ => ?_) (fun _ => ?_) <;> simp -implicitDefEqProofs +decide only [go_sem, *])
  all_goals try (exfalso; omega)
  all_goals try (refine CallG.pure _ Tryd.call57 cn (by first | rfl | (simp only [go_sem]; done) | (simp only [go_sem]; rfl)) (by first | rfl | (simp only [go_sem]; done) | (simp only [go_sem]; rfl)) ?_; apply run_sound 200; simp -implicitDefEqProofs +decide only [go_sem, *])
  all_goals repeat' (refine selP_dec (fun _ => ?_) (fun _ => ?_) <;> simp -implicitDefEqProofs +decide only [go_sem, *])
  all_goals try (exfalso; omega)
  all_goals try (refine CallG.pure _ Tryd.call28 ca (by first | rfl | (simp only [go_sem]; done) | (simp only [go_sem]; rfl)) (by first | rfl | (simp only [go_sem]; done) | (simp only [go_sem]; rfl)) ?_; apply run_sound 200; simp -implicitDefEqProofs +decide only [go_sem, *])
  all_goals repeat' (refine selP_dec (fun _ => ?_) (fun _ => ?_) <;> simp -implicitDefEqProofs +decide only [go_sem, *])
  all_goals try (exfalso; omega)
  all_goals try (refine CallG.pure _ Tryd.call28 ca (by first | rfl | (simp only [go_sem]; done) | (simp only [go_sem]; rfl)) (by first | rfl | (simp only [go_sem]; done) | (simp only [go_sem]; rfl)) ?_; apply run_sound 200; simp -implicitDefEqProofs +decide only [go_sem, *])
  all_goals repeat' (refine selP_dec (fun _ => ?_) (fun _ => ?_) <;> simp -implicitDefEqProofs +decide only [go_sem, *])
  all_goals try (exfalso; omega)
  all_goals first
    | exact endF.vals [(4, _)] (.inr rfl) (vals_t (by first | (simp -implicitDefEqProofs +decide only [go_sem] <;> rfl) | rfl) (by unfold fitsQ; first | rfl | exact T_true (by omega) | exact T_false (by omega) | exact T_dec (by omega) | exact T_ndec (by omega) | exact T_int (by omega)) vals_nil) (fun l hp => by cases l <;> first | rfl | cases hp) rfl
    | (refine CallG.pure _ Tryd.call56 cr (by first | rfl | (simp only [go_sem]; done) | (simp only [go_sem]; rfl)) (by first | rfl | (simp only [go_sem]; done) | (simp only [go_sem]; rfl)) ?_; apply run_sound 200; simp -implicitDefEqProofs +decide only [go_sem]; exact endF.vals [(4, _)] (.inr rfl) (vals_t (by first | (simp -implicitDefEqProofs +decide only [go_sem] <;> rfl) | rfl) (by unfold fitsQ; first | rfl | exact T_true (by omega) | exact T_false (by omega) | exact T_dec (by omega) | exact T_ndec (by omega) | exact T_int (by omega)) vals_nil) (fun l hp => by cases l <;> first | rfl | cases hp) rfl)

theorem rFits_ok (i : In) (n : Nat) (h : i.x.OK) : Pure Tryd.prog 43 [i.T, .int .i64 n] [.t (.bool (fitsM i n))] := by
  have ca := rArity_ok i.op
  have cn := rNone_ok i.x (by have := h.lp; omega) (by have := h.lq; omega)
  have cr := rRight07_ok i.x h.wp h.wq h.lp h.lq
  rcases arM_cases i.op with ⟨hr, hc | hc⟩ | ⟨hr, hc⟩ | ⟨hr, hc⟩ | ⟨hr, hc⟩ <;> rw [hr] at ca
  · exact rfits_aux1 i.op i.a i.b i.x.neg i.x.p i.x.q n _ _ _ _ rfl rfl ca cn cr hc
  · exact rfits_aux0 i.op i.a i.b i.x.neg i.x.p i.x.q n _ _ _ _ rfl rfl ca cn cr hc
  · exact rfits_aux2 i.op i.a i.b i.x.neg i.x.p i.x.q n _ _ _ _ rfl rfl ca cn cr hc
  · exact rfits_aux3 i.op i.a i.b i.x.neg i.x.p i.x.q n _ _ _ _ rfl rfl ca cn cr hc
  · exact rfits_aux4 i.op i.a i.b i.x.neg i.x.p i.x.q n _ _ _ _ rfl rfl ca cn cr hc
end Go.Fm
/- Lines: which instructions are a program. -/
namespace Go.Fm
open Go.Proofs
set_option maxRecDepth 100000

def sL (l : List In) : T := .slice (l.map In.T)
def tL (l : List In) : AV := .t (sL l)
def LOK (l : List In) : Prop := ∀ i ∈ l, i.x.OK
theorem noPtr_InF (op a b : Int) (n : Bool) (p q : List Nat) : noPtr (.agg [.int .i64 op, .int .i64 a, .int .i64 b, .bool n, sW p, sW q]) = true := noPtr_In ⟨op, a, b, ⟨n, p, q⟩⟩
theorem noPtr_sL (l : List In) : noPtr (sL l) = true := by
  have : ∀ l : List In, noPtrL (l.map In.T) = true := fun l => by
    induction l with
    | nil => rfl
    | cons x r ih => simp only [List.map_cons, noPtrL, noPtr_In, ih, Bool.and_self]
  simp only [sL, noPtr, this]
attribute [go_sem] noPtr_InF noPtr_sL

def fitsAll : Nat → List In → Bool
  | _, [] => true
  | i, x :: r => fitsM x i && fitsAll (i + 1) r
def rightL (l : List In) : Bool := decide (l.length ≤ 65536) && fitsAll 0 l
theorem fitsAll_step {l : List In} {i : Nat} {x : In} (h : l[i]? = some x) : fitsAll i (l.drop i) = (fitsM x i && fitsAll (i + 1) (l.drop (i + 1))) := by
  obtain ⟨h1, h2⟩ := List.getElem?_eq_some_iff.1 h
  rw [List.drop_eq_getElem_cons h1, h2]; rfl
theorem fitsAll_end {l : List In} {i : Nat} (h : l.length ≤ i) : fitsAll i (l.drop i) = true := by
  rw [List.drop_eq_nil_of_le h]; rfl
theorem not_sel {b : Bool} {p q : HP} (h1 : b = false → p.p) (h2 : b = true → q.p) : @selP (!b) p q := ⟨fun h => h1 (by simpa using h), fun h => h2 (by simpa using h)⟩

theorem lRight_ok (l : List In) (hl : LOK l) (hn : l.length < 1000000000000) : Pure Tryd.prog 21 [sL l] [.t (.bool (rightL l))] := by
  refine Pure.intro Tryd.func21 rfl (rt := [2]) rfl (by simp [Tryd.ntmps21]) (by decide) (sites := fun _ => false) ?_
  apply run_sound 200
  simp -implicitDefEqProofs +decide only [go_sem, sL]
  refine selP_dec (fun h1 => ?_) (fun h1 => ?_)
  · have : rightL l = false := by simp [rightL]; omega
    rw [this]
    simp -implicitDefEqProofs +decide only [go_sem]
    exact endF.vals [(2, .bool false)] (.inr rfl) (vals_t (by simp -implicitDefEqProofs +decide only [go_sem] <;> rfl) rfl vals_nil) (fun l hp => by cases l <;> first | rfl | cases hp) rfl
  have hr : rightL l = fitsAll 0 l := by
    unfold rightL; rw [decide_eq_true (show l.length ≤ 65536 by omega), Bool.true_and]
  rw [hr]
  simp -implicitDefEqProofs +decide only [go_sem]
  refine Goes.loop (X := Nat) (fun i => ⟨ofL [(8, tL l), (9, .t (.int .i64 l.length)), (10, .t (.int .i64 i))], fun _ => none, 0⟩) (fun i => i ≤ l.length ∧ fitsAll i (l.drop i) = fitsAll 0 l) (fun i => l.length - i) 0 ?_ (by simp) ?_
  · exact (Wk.slots _ rfl rfl (by simp -implicitDefEqProofs +decide only [go_sem, tL, sL]) (by simp -implicitDefEqProofs +decide only [go_sem, tL, sL]))
  rintro i ⟨hi, he⟩ J hJ
  apply run_sound 200
  simp -implicitDefEqProofs +decide only [go_sem, tL, sL]
  refine selP_dec (fun hc => ?_) (fun hc => ?_)
  · obtain ⟨x, hx⟩ := getI (show i < l.length by omega)
    have hw := wS (show i < 1000000000000 by omega)
    rw [fitsAll_step hx] at he
    simp -implicitDefEqProofs +decide only [go_sem, tL, sL, hx, In.T]
    refine CallG.pure _ Tryd.call46 (fits_ok x i (hl x (List.mem_of_getElem? hx))) (by first | rfl | (simp only [go_sem]; done) | (simp only [go_sem]; rfl)) (by first | rfl | (simp only [go_sem]; done) | (simp only [go_sem]; rfl)) ?_
    apply run_sound 200
    simp -implicitDefEqProofs +decide only [go_sem]
    refine not_sel (fun h => ?_) (fun h => ?_)
    · rw [h, Bool.false_and] at he
      rw [← he]
      simp -implicitDefEqProofs +decide only [go_sem]
      exact endF.vals [(2, .bool false)] (.inr rfl) (vals_t (by simp -implicitDefEqProofs +decide only [go_sem] <;> rfl) rfl vals_nil) (fun l hp => by cases l <;> first | rfl | cases hp) rfl
    · rw [h, Bool.true_and] at he
      simp -implicitDefEqProofs +decide only [go_sem, hw]
      refine hJ (i + 1) _ ⟨by omega, he⟩ (by omega) (Wk.mixed _ (fun _ _ => rfl) rfl (fun l hp => by cases l <;> first | rfl | cases hp) (by simp -implicitDefEqProofs +decide only [go_sem, tL, sL, hw]) (by simp -implicitDefEqProofs +decide only [go_sem, tL, sL, hw]))
  · rw [fitsAll_end (by omega)] at he
    rw [← he]
    simp -implicitDefEqProofs +decide only [go_sem]
    exact endF.vals [(2, .bool true)] (.inr rfl) (vals_t (by simp -implicitDefEqProofs +decide only [go_sem] <;> rfl) rfl vals_nil) (fun l hp => by cases l <;> first | rfl | cases hp) rfl

theorem rRight_ok15 (l : List In) (hl : LOK l) (hn : l.length < 1000000000000) : Pure Tryd.prog 15 [sL l] [.t (.bool (rightL l))] := by
  refine Pure.intro Tryd.func15 rfl (rt := [2]) rfl (by simp [Tryd.ntmps15]) (by decide) (sites := fun _ => false) ?_
  apply run_sound 200
  simp -implicitDefEqProofs +decide only [go_sem, sL]
  refine Goes.loop (X := Nat) (fun i => ⟨ofL [(0, tL l), (5, .t (.int .i64 l.length)), (6, .t (.int .i64 i))], fun _ => none, 0⟩) (fun i => i ≤ l.length ∧ fitsAll i (l.drop i) = fitsAll 0 l) (fun i => l.length - i) 0 ?_ (by simp) ?_
  · exact (Wk.slots _ rfl rfl (by simp -implicitDefEqProofs +decide only [go_sem, tL, sL]) (by simp -implicitDefEqProofs +decide only [go_sem, tL, sL]))
  rintro i ⟨hi, he⟩ J hJ
  apply run_sound 200
  simp -implicitDefEqProofs +decide only [go_sem, tL, sL]
  refine selP_dec (fun hc => ?_) (fun hc => ?_)
  · obtain ⟨x, hx⟩ := getI (show i < l.length by omega)
    have hw := wS (show i < 1000000000000 by omega)
    rw [fitsAll_step hx] at he
    simp -implicitDefEqProofs +decide only [go_sem, tL, sL, hx, In.T]
    refine CallG.pure _ Tryd.call43 (rFits_ok x i (hl x (List.mem_of_getElem? hx))) (by first | rfl | (simp only [go_sem]; done) | (simp only [go_sem]; rfl)) (by first | rfl | (simp only [go_sem]; done) | (simp only [go_sem]; rfl)) ?_
    apply run_sound 200
    simp -implicitDefEqProofs +decide only [go_sem]
    refine not_sel (fun h => ?_) (fun h => ?_)
    · rw [h, Bool.false_and] at he
      have : rightL l = false := by unfold rightL; rw [← he, Bool.and_false]
      rw [this]
      simp -implicitDefEqProofs +decide only [go_sem]
      exact endF.vals [(2, .bool false)] (.inr rfl) (vals_t (by simp -implicitDefEqProofs +decide only [go_sem] <;> rfl) rfl vals_nil) (fun l hp => by cases l <;> first | rfl | cases hp) rfl
    · rw [h, Bool.true_and] at he
      simp -implicitDefEqProofs +decide only [go_sem, hw]
      refine hJ (i + 1) _ ⟨by omega, he⟩ (by omega) (Wk.slots _ rfl rfl (by simp -implicitDefEqProofs +decide only [go_sem, tL, sL, hw]) (by simp -implicitDefEqProofs +decide only [go_sem, tL, sL, hw]))
  · rw [fitsAll_end (by omega)] at he
    have hr : rightL l = decide (l.length ≤ 65536) := by unfold rightL; rw [← he, Bool.and_true]
    rw [hr]
    simp -implicitDefEqProofs +decide only [go_sem]
    exact endF.vals [(2, .bool (decide (l.length ≤ 65536)))] (.inr rfl) (vals_t (by first | (simp -implicitDefEqProofs +decide only [go_sem] <;> rfl) | rfl) (by first | rfl | exact T_true (by omega) | exact T_false (by omega) | exact T_dec (by omega) | exact T_ndec (by omega) | exact T_int (by omega)) vals_nil) (fun l hp => by cases l <;> first | rfl | cases hp) rfl
end Go.Fm
/- Lines: lists held against each other; long numbers; counts. -/
namespace Go.Fm
open Go.Proofs
set_option maxRecDepth 100000

def I (x : Int) : T := .int .i64 x
def sI (l : List Int) : T := .slice (l.map I)
def tI (l : List Int) : AV := .t (sI l)
def sB (l : List Bool) : T := .slice (l.map T.bool)
def tB (l : List Bool) : AV := .t (sB l)
theorem noPtr_sI (l : List Int) : noPtr (sI l) = true := by
  have : ∀ l : List Int, noPtrL (l.map I) = true := fun l => by
    induction l with
    | nil => rfl
    | cons x r ih => simp only [List.map_cons, noPtrL, ih, I, noPtr, Bool.and_self]
  simp only [sI, noPtr, this]
theorem noPtr_sB (l : List Bool) : noPtr (sB l) = true := by
  have : ∀ l : List Bool, noPtrL (l.map T.bool) = true := fun l => by
    induction l with
    | nil => rfl
    | cons x r ih => simp only [List.map_cons, noPtrL, ih, noPtr, Bool.and_self]
  simp only [sB, noPtr, this]
attribute [go_sem] noPtr_sI noPtr_sB

def longM (x : Rt) (n : Nat) : Bool := decide (n < x.p.length ∨ n < x.q.length)
theorem long_ok15 (x : Rt) (n : Nat) : Pure Tryd.prog 42 [x.T, .int .i64 n] [.t (.bool (longM x n))] := by
  obtain ⟨neg, p, q⟩ := x
  refine Pure.intro Tryd.func42 rfl (rt := [4]) rfl (by simp [Tryd.ntmps42]) (by decide) (sites := fun _ => false) ?_
  apply run_sound 200
  simp -implicitDefEqProofs +decide only [go_sem, Rt.T, rT, sW, longM]
  refine selP_dec (fun h1 => ?_) (fun h1 => ?_)
  · rw [decide_eq_true (show n < p.length ∨ n < q.length by omega)]
    simp -implicitDefEqProofs +decide only [go_sem, h1]
    exact endF.vals [(4, .bool true)] (.inr rfl) (vals_t (by simp -implicitDefEqProofs +decide only [go_sem] <;> rfl) rfl vals_nil) (fun l hp => by cases l <;> first | rfl | cases hp) rfl
  · rw [decide_eq_decide.2 (show (n < p.length ∨ n < q.length) ↔ n < q.length by omega)]
    simp -implicitDefEqProofs +decide only [go_sem, h1]
    exact endF.vals [(4, .bool (decide (n < q.length)))] (.inr rfl) (vals_t (by simp -implicitDefEqProofs +decide only [go_sem] <;> rfl) rfl vals_nil) (fun l hp => by cases l <;> first | rfl | cases hp) rfl

theorem noPtr_RtF (n : Bool) (p q : List Nat) : noPtr (.agg [.bool n, sW p, sW q]) = true := noPtr_Rt ⟨n, p, q⟩
attribute [go_sem] noPtr_RtF
def manyL (l : List In) : Bool := l.any (fun i => longM i.x 8) || decide (300 < l.length)
theorem any_step {α : Type} {f : α → Bool} {l : List α} {i : Nat} {x : α} (h : l[i]? = some x) (hx : f x = true) : l.any f = true :=
  List.any_eq_true.2 ⟨x, List.mem_of_getElem? h, hx⟩
theorem many_ok (l : List In) (hn : l.length < 4000000000000000000) : Pure Tryd.prog 11 [sL l] [.t (.bool (manyL l))] := by
  refine Pure.intro Tryd.func11 rfl (rt := [2]) rfl (by simp [Tryd.ntmps11]) (by decide) (sites := fun _ => false) ?_
  apply run_sound 200
  simp -implicitDefEqProofs +decide only [go_sem, sL]
  refine Goes.loop (X := Nat) (fun i => ⟨ofL [(0, tL l), (5, .t (.int .i64 l.length)), (6, .t (.int .i64 i))], fun _ => none, 0⟩) (fun i => i ≤ l.length ∧ (l.take i).any (fun i => longM i.x 8) = false) (fun i => l.length - i) 0 ?_ (by simp) ?_
  · exact (Wk.slots _ rfl rfl (by simp -implicitDefEqProofs +decide only [go_sem, tL, sL]) (by simp -implicitDefEqProofs +decide only [go_sem, tL, sL]))
  rintro i ⟨hi, he⟩ J hJ
  apply run_sound 200
  simp -implicitDefEqProofs +decide only [go_sem, tL, sL]
  refine selP_dec (fun hc => ?_) (fun hc => ?_)
  · obtain ⟨x, hx⟩ := getI (show i < l.length by omega)
    have hw := wS' (show i < 4000000000000000000 by omega)
    simp -implicitDefEqProofs +decide only [go_sem, tL, sL, hx, In.T]
    have c := long_ok15 x.x 8
    generalize hb : longM x.x 8 = b at c
    refine CallG.pure _ Tryd.call42 (c) (by first | rfl | (simp only [go_sem]; done) | (simp only [go_sem]; rfl)) (by first | rfl | (simp only [go_sem]; done) | (simp only [go_sem]; rfl)) ?_
    apply run_sound 200
    cases b
    · simp -implicitDefEqProofs +decide only [go_sem, hw]
      refine hJ (i + 1) _ ⟨by omega, by rw [take_snoc hx, List.any_append, he, List.any_cons, hb]; rfl⟩ (by omega) (Wk.slots _ rfl rfl (by simp -implicitDefEqProofs +decide only [go_sem, tL, sL, hw]) (by simp -implicitDefEqProofs +decide only [go_sem, tL, sL, hw]))
    · have : manyL l = true := by unfold manyL; rw [any_step (f := fun i => longM i.x 8) hx hb, Bool.true_or]
      rw [this]
      simp -implicitDefEqProofs +decide only [go_sem]
      exact endF.vals [(2, .bool true)] (.inr rfl) (vals_t (by simp -implicitDefEqProofs +decide only [go_sem] <;> rfl) rfl vals_nil) (fun l hp => by cases l <;> first | rfl | cases hp) rfl
  · rw [List.take_of_length_le (by omega)] at he
    have hr : manyL l = decide (300 < l.length) := by unfold manyL; rw [he, Bool.false_or]
    rw [hr]
    simp -implicitDefEqProofs +decide only [go_sem]
    exact endF.vals [(2, .bool (decide (300 < l.length)))] (.inr rfl) (vals_t (by first | (simp -implicitDefEqProofs +decide only [go_sem] <;> rfl) | rfl) (by first | rfl | exact T_true (by omega) | exact T_false (by omega) | exact T_dec (by omega) | exact T_ndec (by omega) | exact T_int (by omega)) vals_nil) (fun l hp => by cases l <;> first | rfl | cases hp) rfl

theorem eq_take {α : Type} {a b : List α} {i : Nat} (hl : a.length = b.length) (he : a.take i = b.take i) (hi : a.length ≤ i) : a = b := by
  rw [← List.take_of_length_le (l := a) (i := i) hi, he, List.take_of_length_le (by omega)]

theorem ints_ok (a b : List Int) (ha : a.length < 1000000000) : Pure Tryd.prog 20 [sI a, sI b] [.t (.bool (decide (a = b)))] := by
  refine Pure.intro Tryd.func20 rfl (rt := [4]) rfl (by simp [Tryd.ntmps20]) (by decide) (sites := fun _ => false) ?_
  apply run_sound 200
  simp -implicitDefEqProofs +decide only [go_sem, sI]
  refine selP_dec (fun h1 => ?_) (fun h1 => ?_)
  · have : decide (a = b) = false := decide_eq_false (fun e => by subst e; exact h1 rfl)
    rw [this]
    simp -implicitDefEqProofs +decide only [go_sem]
    exact endF.vals [(4, .bool false)] (.inr rfl) (vals_t (by simp -implicitDefEqProofs +decide only [go_sem] <;> rfl) rfl vals_nil) (fun l hp => by cases l <;> first | rfl | cases hp) rfl
  have hl : a.length = b.length := by omega
  simp -implicitDefEqProofs +decide only [go_sem]
  refine Goes.loop (X := Nat) (fun i => ⟨ofL [(0, tI a), (1, tI b), (12, .t (.int .i64 a.length)), (13, .t (.int .i64 i))], fun _ => none, 0⟩) (fun i => i ≤ a.length ∧ a.take i = b.take i) (fun i => a.length - i) 0 ?_ (by simp) ?_
  · exact (Wk.slots _ rfl rfl (by simp -implicitDefEqProofs +decide only [go_sem, tI, sI]) (by simp -implicitDefEqProofs +decide only [go_sem, tI, sI]))
  rintro i ⟨hi, he⟩ J hJ
  apply run_sound 200
  simp -implicitDefEqProofs +decide only [go_sem, tI, sI]
  refine selP_dec (fun hc => ?_) (fun hc => ?_)
  · obtain ⟨x, hx⟩ := getI (show i < a.length by omega)
    obtain ⟨y, hy⟩ := getI (show i < b.length by omega)
    have hw := wS (show i < 1000000000000 by omega)
    simp -implicitDefEqProofs +decide only [go_sem]
    refine Goes.drawN mixed ?_
    simp -implicitDefEqProofs +decide only [go_sem, tI, sI, I, hx, hy]
    refine ⟨.mk (by kernel_rfl), ?_⟩
    apply run_sound 200
    simp -implicitDefEqProofs +decide only [go_sem]
    refine selP_dec (fun h2 => ?_) (fun h2 => ?_)
    · have : decide (a = b) = false := decide_eq_false (fun e => by subst e; rw [hx] at hy; cases hy; exact h2 rfl)
      rw [this]
      simp -implicitDefEqProofs +decide only [go_sem]
      exact endF.vals [(4, .bool false)] (.inr rfl) (vals_t (by simp -implicitDefEqProofs +decide only [go_sem] <;> rfl) rfl vals_nil) (fun l hp => by cases l <;> first | rfl | cases hp) rfl
    · obtain rfl : x = y := by simpa using h2
      simp -implicitDefEqProofs +decide only [go_sem, hw]
      refine hJ (i + 1) _ ⟨by omega, by rw [take_snoc hx, take_snoc hy, he]⟩ (by omega) (Wk.slots _ rfl rfl (by simp -implicitDefEqProofs +decide only [go_sem, tI, sI, hw]) (by simp -implicitDefEqProofs +decide only [go_sem, tI, sI, hw]))
  · have : decide (a = b) = true := decide_eq_true (eq_take hl he (by omega))
    rw [this]
    simp -implicitDefEqProofs +decide only [go_sem]
    exact endF.vals [(4, .bool true)] (.inr rfl) (vals_t (by simp -implicitDefEqProofs +decide only [go_sem] <;> rfl) rfl vals_nil) (fun l hp => by cases l <;> first | rfl | cases hp) rfl

theorem bools_ok (a b : List Bool) (ha : a.length < 1000000000) : Pure Tryd.prog 17 [sB a, sB b] [.t (.bool (decide (a = b)))] := by
  refine Pure.intro Tryd.func17 rfl (rt := [4]) rfl (by simp [Tryd.ntmps17]) (by decide) (sites := fun _ => false) ?_
  apply run_sound 200
  simp -implicitDefEqProofs +decide only [go_sem, sB]
  refine selP_dec (fun h1 => ?_) (fun h1 => ?_)
  · have : decide (a = b) = false := decide_eq_false (fun e => by subst e; exact h1 rfl)
    rw [this]
    simp -implicitDefEqProofs +decide only [go_sem]
    exact endF.vals [(4, .bool false)] (.inr rfl) (vals_t (by simp -implicitDefEqProofs +decide only [go_sem] <;> rfl) rfl vals_nil) (fun l hp => by cases l <;> first | rfl | cases hp) rfl
  have hl : a.length = b.length := by omega
  simp -implicitDefEqProofs +decide only [go_sem]
  refine Goes.loop (X := Nat) (fun i => ⟨ofL [(0, tB a), (1, tB b), (12, .t (.int .i64 a.length)), (13, .t (.int .i64 i))], fun _ => none, 0⟩) (fun i => i ≤ a.length ∧ a.take i = b.take i) (fun i => a.length - i) 0 ?_ (by simp) ?_
  · exact (Wk.slots _ rfl rfl (by simp -implicitDefEqProofs +decide only [go_sem, tB, sB]) (by simp -implicitDefEqProofs +decide only [go_sem, tB, sB]))
  rintro i ⟨hi, he⟩ J hJ
  apply run_sound 200
  simp -implicitDefEqProofs +decide only [go_sem, tB, sB]
  refine selP_dec (fun hc => ?_) (fun hc => ?_)
  · obtain ⟨x, hx⟩ := getI (show i < a.length by omega)
    obtain ⟨y, hy⟩ := getI (show i < b.length by omega)
    have hw := wS (show i < 1000000000000 by omega)
    simp -implicitDefEqProofs +decide only [go_sem]
    refine Goes.drawN mixed ?_
    simp -implicitDefEqProofs +decide only [go_sem, tB, sB, hx, hy]
    refine ⟨.mk (by kernel_rfl), ?_⟩
    apply run_sound 200
    simp -implicitDefEqProofs +decide only [go_sem]
    refine selP_ndec (fun h2 => ?_) (fun h2 => ?_)
    · have : decide (a = b) = false := decide_eq_false (fun e => by subst e; rw [hx] at hy; cases hy; exact h2 rfl)
      rw [this]
      simp -implicitDefEqProofs +decide only [go_sem]
      exact endF.vals [(4, .bool false)] (.inr rfl) (vals_t (by simp -implicitDefEqProofs +decide only [go_sem] <;> rfl) rfl vals_nil) (fun l hp => by cases l <;> first | rfl | cases hp) rfl
    · subst h2
      simp -implicitDefEqProofs +decide only [go_sem, hw]
      refine hJ (i + 1) _ ⟨by omega, by rw [take_snoc hx, take_snoc hy, he]⟩ (by omega) (Wk.slots _ rfl rfl (by simp -implicitDefEqProofs +decide only [go_sem, tB, sB, hw]) (by simp -implicitDefEqProofs +decide only [go_sem, tB, sB, hw]))
  · have : decide (a = b) = true := decide_eq_true (eq_take hl he (by omega))
    rw [this]
    simp -implicitDefEqProofs +decide only [go_sem]
    exact endF.vals [(4, .bool true)] (.inr rfl) (vals_t (by simp -implicitDefEqProofs +decide only [go_sem] <;> rfl) rfl vals_nil) (fun l hp => by cases l <;> first | rfl | cases hp) rfl
end Go.Fm
/- Lines: how many instructions reckon, how many inputs; the same program. -/
namespace Go.Fm
open Go.Proofs
set_option maxRecDepth 100000

def countsL (l : List In) : Nat := l.countP fun i => decide (0 < arM i.op)
theorem countsL_step {l : List In} {i : Nat} {x : In} (h : l[i]? = some x) : countsL (l.take (i + 1)) = countsL (l.take i) + (if 0 < arM x.op then 1 else 0) := by
  unfold countsL
  rw [take_snoc h, List.countP_append]
  by_cases hx : 0 < arM x.op <;> simp [hx]
theorem countsL_le (l : List In) : countsL l ≤ l.length := List.countP_le_length

theorem lCounts_ok (l : List In) (hn : l.length < 1000000000) : Pure Tryd.prog 22 [sL l] [.t (.int .i64 (countsL l))] := by
  refine Pure.intro Tryd.func22 rfl (rt := [2]) rfl (by simp [Tryd.ntmps22]) (by decide) (sites := fun _ => false) ?_
  apply run_sound 200
  simp -implicitDefEqProofs +decide only [go_sem, sL]
  refine Goes.loop (X := Nat) (fun i => ⟨ofL [(3, .t (.int .i64 (countsL (l.take i)))), (6, tL l), (7, .t (.int .i64 l.length)), (8, .t (.int .i64 i))], fun _ => none, 0⟩) (fun i => i ≤ l.length) (fun i => l.length - i) 0 ?_ (by simp) ?_
  · exact (Wk.slots _ rfl rfl (by simp -implicitDefEqProofs +decide only [go_sem, tL, sL, List.take_zero, show countsL [] = 0 from rfl, Int.natCast_zero]) (by simp -implicitDefEqProofs +decide only [go_sem, tL, sL, List.take_zero, show countsL [] = 0 from rfl, Int.natCast_zero]))
  rintro i hi J hJ
  apply run_sound 200
  simp -implicitDefEqProofs +decide only [go_sem, tL, sL]
  refine selP_dec (fun hc => ?_) (fun hc => ?_)
  · obtain ⟨x, hx⟩ := getI (show i < l.length by omega)
    have hw := wS (show i < 1000000000000 by omega)
    have hst := countsL_step hx
    have hw2 := wS (show countsL (l.take i) < 1000000000000 by have := countsL_le (l.take i); simp at this; omega)
    have ca := arity_ok x.op
    generalize arM x.op = r at ca hst
    simp -implicitDefEqProofs +decide only [go_sem, tL, sL, hx, In.T]
    refine CallG.pure _ Tryd.call27 (ca) (by first | rfl | (simp only [go_sem]; done) | (simp only [go_sem]; rfl)) (by first | rfl | (simp only [go_sem]; done) | (simp only [go_sem]; rfl)) ?_
    apply run_sound 200
    simp -implicitDefEqProofs +decide only [go_sem]
    refine selP_dec (fun h1 => ?_) (fun h1 => ?_)
    · rw [if_pos h1] at hst
      simp -implicitDefEqProofs +decide only [go_sem, hw, hw2]
      refine hJ (i + 1) _ (by omega) (by omega) (Wk.mixed _ (fun _ _ => rfl) rfl (fun l hp => by cases l <;> first | rfl | cases hp) (by simp -implicitDefEqProofs +decide only [go_sem, tL, sL, hw, hst, hw2]) (by simp -implicitDefEqProofs +decide only [go_sem, tL, sL, hw, hst, hw2]))
    · rw [if_neg h1, Nat.add_zero] at hst
      simp -implicitDefEqProofs +decide only [go_sem, hw]
      refine hJ (i + 1) _ (by omega) (by omega) (Wk.mixed _ (fun _ _ => rfl) rfl (fun l hp => by cases l <;> first | rfl | cases hp) (by simp -implicitDefEqProofs +decide only [go_sem, tL, sL, hw, hst]) (by simp -implicitDefEqProofs +decide only [go_sem, tL, sL, hw, hst]))
  · have e : l.take i = l := List.take_of_length_le (by omega)
    rw [e]
    simp -implicitDefEqProofs +decide only [go_sem]
    exact endF.vals [(2, .int .i64 (countsL l))] (.inr rfl) (vals_t (by simp -implicitDefEqProofs +decide only [go_sem] <;> rfl) rfl vals_nil) (fun l hp => by cases l <;> first | rfl | cases hp) rfl

def inputsL (l : List In) : Nat := l.foldl (fun n x => if x.op = 1 ∧ (n : Int) ≤ x.a ∧ x.a < 65536 then x.a.toNat + 1 else n) 0
theorem inputsL_step {l : List In} {i : Nat} {x : In} (h : l[i]? = some x) : inputsL (l.take (i + 1)) = if x.op = 1 ∧ (inputsL (l.take i) : Int) ≤ x.a ∧ x.a < 65536 then x.a.toNat + 1 else inputsL (l.take i) := by
  unfold inputsL
  rw [take_snoc h, List.foldl_append]; rfl

theorem lInputs_ok (l : List In) (hn : l.length < 1000000000) : Pure Tryd.prog 23 [sL l] [.t (.int .i64 (inputsL l))] := by
  refine Pure.intro Tryd.func23 rfl (rt := [2]) rfl (by simp [Tryd.ntmps23]) (by decide) (sites := fun _ => false) ?_
  apply run_sound 200
  simp -implicitDefEqProofs +decide only [go_sem, sL]
  refine Goes.loop (X := Nat) (fun i => ⟨ofL [(3, .t (.int .i64 (inputsL (l.take i)))), (6, tL l), (7, .t (.int .i64 l.length)), (8, .t (.int .i64 i))], fun _ => none, 0⟩) (fun i => i ≤ l.length) (fun i => l.length - i) 0 ?_ (by simp) ?_
  · exact (Wk.slots _ rfl rfl (by simp -implicitDefEqProofs +decide only [go_sem, tL, sL, List.take_zero, show inputsL [] = 0 from rfl, Int.natCast_zero]) (by simp -implicitDefEqProofs +decide only [go_sem, tL, sL, List.take_zero, show inputsL [] = 0 from rfl, Int.natCast_zero]))
  rintro i hi J hJ
  apply run_sound 200
  simp -implicitDefEqProofs +decide only [go_sem, tL, sL]
  refine selP_dec (fun hc => ?_) (fun hc => ?_)
  · obtain ⟨x, hx⟩ := getI (show i < l.length by omega)
    have hw := wS (show i < 1000000000000 by omega)
    have hst := inputsL_step hx
    generalize hm : inputsL (l.take i) = m at hst
    obtain ⟨op, a, b, y⟩ := x
    dsimp only at hst
    have go : ∀ (P : Prop) [Decidable P], (op = 1 ∧ (m : Int) ≤ a ∧ a < 65536) = P → True := fun _ _ _ => trivial
    simp -implicitDefEqProofs +decide only [go_sem, tL, sL, hx, In.T]
    refine selP_dec (fun h1 => ?_) (fun h1 => ?_)
    · simp -implicitDefEqProofs +decide only [go_sem, h1]
      refine selP_dec (fun h2 => ?_) (fun h2 => ?_)
      · simp -implicitDefEqProofs +decide only [go_sem, h1, h2]
        refine selP_dec (fun h3 => ?_) (fun h3 => ?_)
        · rw [if_pos ⟨h1, h2, h3⟩] at hst
          have hw3 : IntKind.wrap .i64 (a + 1) = ((a.toNat + 1 : Nat) : Int) := by rw [w64] <;> omega
          simp -implicitDefEqProofs +decide only [go_sem, hw, hw3]
          refine hJ (i + 1) _ (by omega) (by omega) (Wk.mixed _ (fun _ _ => rfl) rfl (fun l hp => by cases l <;> first | rfl | cases hp) (by simp -implicitDefEqProofs +decide only [go_sem, tL, sL, hw, hst, hw3]) (by simp -implicitDefEqProofs +decide only [go_sem, tL, sL, hw, hst, hw3]))
        · rw [if_neg (by omega)] at hst
          simp -implicitDefEqProofs +decide only [go_sem, hw]
          refine hJ (i + 1) _ (by omega) (by omega) (Wk.mixed _ (fun _ _ => rfl) rfl (fun l hp => by cases l <;> first | rfl | cases hp) (by simp -implicitDefEqProofs +decide only [go_sem, tL, sL, hw, hst, hm]) (by simp -implicitDefEqProofs +decide only [go_sem, tL, sL, hw, hst, hm]))
      · rw [if_neg (by omega)] at hst
        simp -implicitDefEqProofs +decide only [go_sem, hw, h1, h2]
        refine hJ (i + 1) _ (by omega) (by omega) (Wk.mixed _ (fun _ _ => rfl) rfl (fun l hp => by cases l <;> first | rfl | cases hp) (by simp -implicitDefEqProofs +decide only [go_sem, tL, sL, hw, hst, hm]) (by simp -implicitDefEqProofs +decide only [go_sem, tL, sL, hw, hst, hm]))
    · rw [if_neg (by omega)] at hst
      simp -implicitDefEqProofs +decide only [go_sem, hw, h1]
      refine hJ (i + 1) _ (by omega) (by omega) (Wk.mixed _ (fun _ _ => rfl) rfl (fun l hp => by cases l <;> first | rfl | cases hp) (by simp -implicitDefEqProofs +decide only [go_sem, tL, sL, hw, hst, hm]) (by simp -implicitDefEqProofs +decide only [go_sem, tL, sL, hw, hst, hm]))
  · have e : l.take i = l := List.take_of_length_le (by omega)
    rw [e]
    simp -implicitDefEqProofs +decide only [go_sem]
    exact endF.vals [(2, .int .i64 (inputsL l))] (.inr rfl) (vals_t (by simp -implicitDefEqProofs +decide only [go_sem] <;> rfl) rfl vals_nil) (fun l hp => by cases l <;> first | rfl | cases hp) rfl
end Go.Fm
/- Lines: the same program. -/
namespace Go.Fm
open Go.Proofs
set_option maxRecDepth 100000

theorem noPtr_Rt2 (x : Rt) : noPtr (.agg [.bool x.neg, sW x.p, sW x.q]) = true := noPtr_Rt x
theorem same_ok15 (a b : List In) (hla : LOK a) (hlb : LOK b) (ha : a.length < 1000000000) : Pure Tryd.prog 19 [sL a, sL b] [.t (.bool (decide (a = b)))] := by
  refine Pure.intro Tryd.func19 rfl (rt := [4]) rfl (by simp [Tryd.ntmps19]) (by decide) (sites := fun _ => false) ?_
  apply run_sound 200
  simp -implicitDefEqProofs +decide only [go_sem, sL]
  refine selP_dec (fun h1 => ?_) (fun h1 => ?_)
  · have : decide (a = b) = false := decide_eq_false (fun e => by subst e; exact h1 rfl)
    rw [this]
    simp -implicitDefEqProofs +decide only [go_sem]
    exact endF.vals [(4, .bool false)] (.inr rfl) (vals_t (by simp -implicitDefEqProofs +decide only [go_sem] <;> rfl) rfl vals_nil) (fun l hp => by cases l <;> first | rfl | cases hp) rfl
  have hl : a.length = b.length := by omega
  simp -implicitDefEqProofs +decide only [go_sem]
  refine Goes.loop (X := Nat) (fun i => ⟨ofL [(0, tL a), (1, tL b), (12, .t (.int .i64 a.length)), (13, .t (.int .i64 i))], fun _ => none, 0⟩) (fun i => i ≤ a.length ∧ a.take i = b.take i) (fun i => a.length - i) 0 ?_ (by simp) ?_
  · exact (Wk.slots _ rfl rfl (by simp -implicitDefEqProofs +decide only [go_sem, tL, sL]) (by simp -implicitDefEqProofs +decide only [go_sem, tL, sL]))
  rintro i ⟨hi, he⟩ J hJ
  apply run_sound 200
  simp -implicitDefEqProofs +decide only [go_sem, tL, sL]
  refine selP_dec (fun hc => ?_) (fun hc => ?_)
  · obtain ⟨x, hx⟩ := getI (show i < a.length by omega)
    obtain ⟨y, hy⟩ := getI (show i < b.length by omega)
    have hw := wS (show i < 1000000000000 by omega)
    have hxo := hla x (List.mem_of_getElem? hx)
    have hyo := hlb y (List.mem_of_getElem? hy)
    have c := rSame_ok x.x y.x (by have := hxo.lp; omega) (by have := hxo.lq; omega) (by have := hyo.lp; omega) (by have := hyo.lq; omega)
    have hne : x ≠ y → decide (a = b) = false := fun h => decide_eq_false (fun e => by subst e; rw [hx] at hy; cases hy; exact h rfl)
    simp -implicitDefEqProofs +decide only [go_sem]
    refine Goes.drawN mixed ?_
    by_cases h2 : x.op = y.op
    · by_cases h3 : x.a = y.a
      · by_cases h4 : x.b = y.b
        · simp -implicitDefEqProofs +decide only [go_sem, tL, sL, hx, hy, In.T, h2, h3, h4, ne_eq, not_true_eq_false, not_false_eq_true, decide_true, decide_false]
          refine CallD.pure _ Tryd.call45 c (by first | rfl | (simp only [go_sem]; done) | (simp only [go_sem]; rfl)) (by first | rfl | (simp only [go_sem]; done) | (simp only [go_sem]; rfl)) ?_
          simp -implicitDefEqProofs +decide only [go_sem, h2, h3, h4, ne_eq, not_true_eq_false, not_false_eq_true, decide_true, decide_false]
          refine ⟨.mk (by kernel_rfl), ?_⟩
          apply run_sound 200
          simp -implicitDefEqProofs +decide only [go_sem]
          refine selP_ndec (fun h5 => ?_) (fun h5 => ?_)
          · rw [hne (fun e => h5 (by rw [e]))]
            simp -implicitDefEqProofs +decide only [go_sem]
            exact endF.vals [(4, .bool false)] (.inr rfl) (vals_t (by simp -implicitDefEqProofs +decide only [go_sem] <;> rfl) rfl vals_nil) (fun l hp => by cases l <;> first | rfl | cases hp) rfl
          · obtain rfl : x = y := by cases x; cases y; simp_all
            simp -implicitDefEqProofs +decide only [go_sem, hw]
            refine hJ (i + 1) _ ⟨by omega, by rw [take_snoc hx, take_snoc hy, he]⟩ (by omega) (Wk.slots _ rfl rfl (by simp -implicitDefEqProofs +decide only [go_sem, tL, sL, hw]) (by simp -implicitDefEqProofs +decide only [go_sem, tL, sL, hw]))
        · rw [hne (fun e => h4 (by rw [e]))]
          simp -implicitDefEqProofs +decide only [go_sem, tL, sL, hx, hy, In.T, h2, h3, h4, ne_eq, not_true_eq_false, not_false_eq_true, decide_true, decide_false]
          refine ⟨.mk (by kernel_rfl), ?_⟩
          apply run_sound 200
          simp -implicitDefEqProofs +decide only [go_sem]
          exact endF.vals [(4, .bool false)] (.inr rfl) (vals_t (by simp -implicitDefEqProofs +decide only [go_sem] <;> rfl) rfl vals_nil) (fun l hp => by cases l <;> first | rfl | cases hp) rfl
      · rw [hne (fun e => h3 (by rw [e]))]
        simp -implicitDefEqProofs +decide only [go_sem, tL, sL, hx, hy, In.T, h2, h3, ne_eq, not_true_eq_false, not_false_eq_true, decide_true, decide_false]
        refine ⟨.mk (by kernel_rfl), ?_⟩
        apply run_sound 200
        simp -implicitDefEqProofs +decide only [go_sem]
        exact endF.vals [(4, .bool false)] (.inr rfl) (vals_t (by simp -implicitDefEqProofs +decide only [go_sem] <;> rfl) rfl vals_nil) (fun l hp => by cases l <;> first | rfl | cases hp) rfl
    · rw [hne (fun e => h2 (by rw [e]))]
      simp -implicitDefEqProofs +decide only [go_sem, tL, sL, hx, hy, In.T, h2, ne_eq, not_true_eq_false, not_false_eq_true, decide_true, decide_false]
      refine ⟨.mk (by kernel_rfl), ?_⟩
      apply run_sound 200
      simp -implicitDefEqProofs +decide only [go_sem]
      exact endF.vals [(4, .bool false)] (.inr rfl) (vals_t (by simp -implicitDefEqProofs +decide only [go_sem] <;> rfl) rfl vals_nil) (fun l hp => by cases l <;> first | rfl | cases hp) rfl
  · have : decide (a = b) = true := decide_eq_true (eq_take hl he (by omega))
    rw [this]
    simp -implicitDefEqProofs +decide only [go_sem]
    exact endF.vals [(4, .bool true)] (.inr rfl) (vals_t (by simp -implicitDefEqProofs +decide only [go_sem] <;> rfl) rfl vals_nil) (fun l hp => by cases l <;> first | rfl | cases hp) rfl
end Go.Fm
/- Lines: what an instruction needs, marked from behind by calls of itself. -/
namespace Go.Fm
open Go.Proofs
set_option maxRecDepth 100000

/-- The end of a function that gives one row of its own, told as plain data. -/
theorem endF.row1 {t : Nat} {lab : Lab} {v len size frz : Nat} {es : List T} {h' : Heap} {m' : Nat} {e : Exit} {s : St} (he : e = .normal ∨ e = .ret)
    (hy : s.f t = .sl lab v 0 len) (hl : s.h lab = some (.arr size es v frz)) (hlen : len = es.length)
    (hh : ∀ l, Lab.pool l = true → h' l = upd s.h lab (some (.arr size es v es.length)) l) (hn : s.nxt = m') : endF [t] [.t (.slice es)] h' m' e s := by
  refine endF.mk (ws := [(lab, .arr size es v es.length)]) (os := [none]) (acc := [lab]) [false] he rfl ?_ rfl hh hn
  have : finL (([t].map s.f).zip [false]) = finL [(.sl lab v 0 len, false)] := by rw [List.map_cons, hy]; rfl
  rw [this]
  have h2 : es.take len = es := List.take_of_length_le (by omega)
  simp [finL, fin1, Rd.bind]
  simp [reify, reify1, Rd.bind, Rd.run, hl, h2]

def GoodL (l : List In) : Prop := ∀ (i : Nat) (x : In), l[i]? = some x → (0 < arM x.op → 0 ≤ x.a ∧ x.a < i) ∧ (1 < arM x.op → 0 ≤ x.b ∧ x.b < i)

def needsR (l : List In) : Nat → List Bool → Nat → List Bool
  | 0, nd, _ => nd
  | f + 1, nd, i =>
    if nd.getD i false = true then nd else
    let x := l.getD i ⟨0, 0, 0, ⟨false, [], []⟩⟩
    let n1 := nd.set i true
    let n2 := if 0 < arM x.op then needsR l f n1 x.a.toNat else n1
    if 1 < arM x.op then needsR l f n2 x.b.toNat else n2
theorem needsR_length (l : List In) : ∀ (f : Nat) (nd : List Bool) (i : Nat), (needsR l f nd i).length = nd.length
  | 0, nd, i => rfl
  | f + 1, nd, i => by
    unfold needsR
    split
    · rfl
    · dsimp only
      split <;> split <;> simp [needsR_length l f]

theorem setB (l : List Bool) (i : Nat) (b : Bool) : (l.map T.bool).set i (.bool b) = (l.set i b).map T.bool := List.map_set.symm

theorem needs_ok15 (l : List In) (hg : GoodL l) (hn : l.length < 1000000000) : ∀ (f : Nat) (h : Heap) (m ver : Nat) (nd : List Bool) (i : Nat), (∀ l, Lab.pool l = false → h l = none) → h (.arg 0) = some (.arr 1 (nd.map T.bool) ver 0) →
    nd.length = l.length → i < f → i < l.length →
    RetA Tryd.prog 44 [.t (sL l), .sl (.arg 0) ver 0 nd.length, .t (.int .i64 i)] h m [] (upd h (.arg 0) (some (.arr 1 ((needsR l f nd i).map T.bool) ver 0))) m
  | 0, h, m, ver, nd, i, hb, h1, hnd, hf, hi => absurd hf (Nat.not_lt_zero _)
  | f + 1, h, m, ver, nd, i, hb, h1, hnd, hf, hi => by
    obtain ⟨x, hx⟩ := getI hi
    obtain ⟨b, hbi⟩ := getI (show i < nd.length by omega)
    have hpos : 0 < nd.length := by omega
    obtain ⟨ga, gb⟩ := hg i x hx
    have hlt : i < nd.length := by omega
    have e0 : needsR l (f + 1) nd i = if b = true then nd else (if 1 < arM x.op then needsR l f (if 0 < arM x.op then needsR l f (nd.set i true) x.a.toNat else nd.set i true) x.b.toNat else (if 0 < arM x.op then needsR l f (nd.set i true) x.a.toNat else nd.set i true)) := by
      rw [needsR]
      simp only [List.getD_eq_getElem?_getD, hbi, hx, Option.getD_some]
    have ca := rArity_ok x.op
    refine RetA.intro Tryd.func44 rfl (rt := []) rfl (by simp [Tryd.ntmps44]) (by decide) (sites := fun _ => false) (upd_pool hb) (Keeps.row h1 (by simp [needsR_length])) ?_
    apply run_sound 200
    rw [e0]
    generalize arM x.op = r at ca ga gb
    simp -implicitDefEqProofs +decide only [go_sem, sL, h1, hbi, hlt]
    cases b
    · rw [if_neg (by decide)]
      simp -implicitDefEqProofs +decide only [go_sem, h1, hlt, hbi]
      simp -implicitDefEqProofs +decide only [go_sem, hx, In.T]
      refine CallG.pure _ Tryd.call28 (ca) (by first | rfl | (simp only [go_sem]; done) | (simp only [go_sem]; rfl)) (by first | rfl | (simp only [go_sem]; done) | (simp only [go_sem]; rfl)) ?_
      apply run_sound 200
      simp -implicitDefEqProofs +decide only [go_sem]
      refine selP_dec (fun hr => ?_) (fun hr => ?_)
      · obtain ⟨a0, a1⟩ := ga hr
        obtain ⟨a, ha⟩ : ∃ a : Nat, x.a = a := ⟨x.a.toNat, by omega⟩
        have ih := needs_ok15 l hg hn f (upd h (.arg 0) (some (.arr 1 ((nd.set i true).map T.bool) ver 0))) m ver (nd.set i true) a (upd_pool hb) (upd_same _ _ _) (by simpa using hnd) (by omega) (by omega)
        rw [upd_upd, List.length_set] at ih
        rw [if_pos hr, ha, Int.toNat_natCast]
        have hl2 := needsR_length l f (nd.set i true) a
        rw [List.length_set] at hl2
        simp -implicitDefEqProofs +decide only [go_sem, hx, In.T, ha]
        refine CallG.lend (h := upd h (.arg 0) (some (.arr 1 ((nd.set i true).map T.bool) ver 0))) [.t (sL l), .sl (.arg 0) ver 0 nd.length, .t (.int .i64 a)] [] _ Tryd.call44 rfl ih (upd_pool hb) ?_ ?_
        · intro l hp
          rw [← setB]; rfl
        generalize needsR l f (nd.set i true) a = n2 at hl2
        refine Goes.wk (Wk.mixed (base := upd h (.arg 0) (some (.arr 1 (n2.map T.bool) ver 0))) (m := m) [(0, tL l), (1, .sl (.arg 0) ver 0 nd.length), (2, .t (.int .i64 i))] (upd_pool hb) rfl ?_ ?_ ?_) ?_
        · exact fun l hp => by cases l <;> first | rfl | cases hp
        · simp -implicitDefEqProofs +decide only [go_sem, killP_arg hpos, tL, sL]
        · simp -implicitDefEqProofs +decide only [go_sem, tL, sL]
        apply run_sound 200
        simp -implicitDefEqProofs +decide only [go_sem, tL, sL, hx, In.T]
        refine CallG.pure _ Tryd.call28 (ca) (by first | rfl | (simp only [go_sem]; done) | (simp only [go_sem]; rfl)) (by first | rfl | (simp only [go_sem]; done) | (simp only [go_sem]; rfl)) ?_
        apply run_sound 200
        simp -implicitDefEqProofs +decide only [go_sem]
        refine selP_dec (fun hr2 => ?_) (fun hr2 => ?_)
        · obtain ⟨b0, b1⟩ := gb hr2
          obtain ⟨b, hb'⟩ : ∃ b : Nat, x.b = b := ⟨x.b.toNat, by omega⟩
          have ih := needs_ok15 l hg hn f (upd h (.arg 0) (some (.arr 1 (n2.map T.bool) ver 0))) m ver n2 b (upd_pool hb) (upd_same _ _ _) (by omega) (by omega) (by omega)
          rw [upd_upd, hl2] at ih
          rw [if_pos hr2, hb', Int.toNat_natCast]
          simp -implicitDefEqProofs +decide only [go_sem, tL, sL, hx, In.T, hb']
          refine CallG.lend (h := upd h (.arg 0) (some (.arr 1 (n2.map T.bool) ver 0))) [.t (sL l), .sl (.arg 0) ver 0 nd.length, .t (.int .i64 b)] [] _ Tryd.call44 rfl ih (upd_pool hb) (fun _ _ => rfl) ?_
          refine Goes.wk (Wk.mixed (base := upd h (.arg 0) (some (.arr 1 ((needsR l f n2 b).map T.bool) ver 0))) (m := m) [] (upd_pool hb) rfl (fun l hp => by cases l <;> first | rfl | cases hp) (fun _ h => by cases h) (fun _ h => by cases h)) ?_
          apply run_sound 200
          simp -implicitDefEqProofs +decide only [go_sem]
          exact endF.zero (.inl rfl) (fun _ _ => rfl) rfl
        · rw [if_neg hr2]
          simp -implicitDefEqProofs +decide only [go_sem]
          exact endF.zero (.inl rfl) (fun _ _ => rfl) rfl
      · rw [if_neg hr]
        obtain ⟨n2, hn2⟩ : ∃ n2, nd.set i true = n2 := ⟨_, rfl⟩
        have hl2 : n2.length = nd.length := by rw [← hn2]; simp
        simp -implicitDefEqProofs +decide only [go_sem, sL, hx, In.T, setB, hn2]
        refine CallG.pure _ Tryd.call28 (ca) (by first | rfl | (simp only [go_sem]; done) | (simp only [go_sem]; rfl)) (by first | rfl | (simp only [go_sem]; done) | (simp only [go_sem]; rfl)) ?_
        apply run_sound 200
        simp -implicitDefEqProofs +decide only [go_sem]
        refine selP_dec (fun hr2 => ?_) (fun hr2 => ?_)
        · obtain ⟨b0, b1⟩ := gb hr2
          obtain ⟨b, hb'⟩ : ∃ b : Nat, x.b = b := ⟨x.b.toNat, by omega⟩
          have ih := needs_ok15 l hg hn f (upd h (.arg 0) (some (.arr 1 (n2.map T.bool) ver 0))) m ver n2 b (upd_pool hb) (upd_same _ _ _) (by omega) (by omega) (by omega)
          rw [upd_upd, hl2] at ih
          rw [if_pos hr2, hb', Int.toNat_natCast]
          simp -implicitDefEqProofs +decide only [go_sem, tL, sL, hx, In.T, hb']
          refine CallG.lend (h := upd h (.arg 0) (some (.arr 1 (n2.map T.bool) ver 0))) [.t (sL l), .sl (.arg 0) ver 0 nd.length, .t (.int .i64 b)] [] _ Tryd.call44 rfl ih (upd_pool hb) (fun _ _ => rfl) ?_
          refine Goes.wk (Wk.mixed (base := upd h (.arg 0) (some (.arr 1 ((needsR l f n2 b).map T.bool) ver 0))) (m := m) [] (upd_pool hb) rfl (fun l hp => by cases l <;> first | rfl | cases hp) (fun _ h => by cases h) (fun _ h => by cases h)) ?_
          apply run_sound 200
          simp -implicitDefEqProofs +decide only [go_sem]
          exact endF.zero (.inl rfl) (fun _ _ => rfl) rfl
        · rw [if_neg hr2]
          simp -implicitDefEqProofs +decide only [go_sem]
          exact endF.zero (.inl rfl) (fun _ _ => rfl) rfl
    · rw [if_pos rfl]
      simp -implicitDefEqProofs +decide only [go_sem]
      refine endF.zero (.inr rfl) ?_ rfl
      intro l hp
      exact congrFun (upd_self h1) l
end Go.Fm
