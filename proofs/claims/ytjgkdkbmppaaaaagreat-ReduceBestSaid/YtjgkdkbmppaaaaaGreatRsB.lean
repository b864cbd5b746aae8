/- The bank's comparisons, in the exact mode. -/
import Derived.Test.YtjgkdkbmppaaaaaGreatRsA
import Derived.Test.YtjgkdkbmppaaaaaGreatLsA
set_option linter.unusedVariables false
set_option linter.unusedSimpArgs false
namespace Go.Fm
open Go.Proofs
set_option maxRecDepth 100000
attribute [local irreducible] tiOf

theorem sign_okQ (r : Rat) (h : QB r 30000000) : Pure Tryz.prog 119 [(qR r).T] [.t (.int .i64 (sgnI r))] := by
  have h1 := h.n
  have c := natBits_ok (wordsOf r.num.natAbs) (WOK_wordsOf _) (by omega)
  rw [nv_wordsOf] at c
  rw [qT]
  have hl : decide (bitLen r.num.natAbs = 0) = decide (r.num = 0) := decide_eq_decide.2 (by
    unfold bitLen
    constructor
    · intro h; split at h <;> omega
    · intro h; rw [if_pos (by omega)])
  have hl2 : decide (((bitLen r.num.natAbs : Nat) : Int) = 0) = decide (r.num = 0) := by rw [← hl]; exact decide_eq_decide.2 (by omega)
  unfold sgnI
  obtain ⟨p, hp⟩ : ∃ p, wordsOf r.num.natAbs = p := ⟨_, rfl⟩
  obtain ⟨q, hq⟩ : ∃ q, wordsOf r.den = q := ⟨_, rfl⟩
  rw [hp] at c
  rw [hp, hq]
  generalize bitLen r.num.natAbs = b at *
  refine Pure.intro Tryz.func119 rfl (rt := [2]) rfl (by simp [Tryz.ntmps119]) (by decide) (sites := fun _ => false) ?_
  apply run_sound 200
  simp -implicitDefEqProofs +decide only [go_sem]
  refine CallG.pure _ Tryz.call118 (c) (by first | rfl | (simp only [go_sem]; done) | (simp only [go_sem]; rfl)) (by first | rfl | (simp only [go_sem]; done) | (simp only [go_sem]; rfl)) ?_
  apply run_sound 200
  simp -implicitDefEqProofs +decide only [go_sem, hl, hl2]
  refine selP_dec (fun h => ?_) (fun h => ?_)
  · rw [if_pos h]
    simp -implicitDefEqProofs +decide only [go_sem]
    exact endF.vals [(2, .int .i64 0)] (.inr rfl) (vals_t (by simp -implicitDefEqProofs +decide only [go_sem] <;> rfl) rfl vals_nil) (fun l hp => by cases l <;> first | rfl | cases hp) rfl
  · rw [if_neg h]
    simp -implicitDefEqProofs +decide only [go_sem, neg1]
    refine selP_dec (fun h2 => ?_) (fun h2 => ?_)
    · rw [if_pos h2]
      simp -implicitDefEqProofs +decide only [go_sem]
      exact endF.vals [(2, .int .i64 (-1))] (.inr rfl) (vals_t (by simp -implicitDefEqProofs +decide only [go_sem] <;> rfl) rfl vals_nil) (fun l hp => by cases l <;> first | rfl | cases hp) rfl
    · rw [if_neg h2]
      simp -implicitDefEqProofs +decide only [go_sem]
      exact endF.vals [(2, .int .i64 1)] (.inr rfl) (vals_t (by simp -implicitDefEqProofs +decide only [go_sem] <;> rfl) rfl vals_nil) (fun l hp => by cases l <;> first | rfl | cases hp) rfl
theorem QB_sub {r s : Rat} {a b : Nat} (hr : QB r a) (hs : QB s b) : QB (r - s) (a + b + 1) := by
  rw [Rat.sub_eq_add_neg]
  exact QB_add hr ⟨by rw [show (-s).num = -s.num from rfl, Int.natAbs_neg]; exact hs.n, hs.d⟩
theorem cmp_okQ (r s : Rat) (hr : QB r 10000000) (hs : QB s 10000000) : Pure Tryz.prog 126 [(qR r).T, (qR s).T] [.t (.int .i64 (sgnI (r - s)))] := by
  have c1 := sub_okQ r s hr hs
  have c2 := sign_okQ (r - s) ((QB_sub hr hs).mono (by decide))
  generalize r - s = t at c1 c2 ⊢
  rw [qT] at c2
  rw [qT, qT, qT] at c1
  rw [qT, qT]
  refine Pure.intro Tryz.func126 rfl (rt := [4]) rfl (by simp [Tryz.ntmps126]) (by decide) (sites := fun _ => false) ?_
  apply run_sound 200
  simp -implicitDefEqProofs +decide only [go_sem]
  refine CallG.pureS _ Tryz.call139 (c1) (by first | rfl | (simp only [go_sem]; done) | (simp only [go_sem]; rfl)) (by first | rfl | (simp only [go_sem]; done) | (simp only [go_sem]; rfl)) ?_
  apply run_sound 200
  simp -implicitDefEqProofs +decide only [go_sem]
  refine CallG.pure _ Tryz.call119 (c2) (by first | rfl | (simp only [go_sem]; done) | (simp only [go_sem]; rfl)) (by first | rfl | (simp only [go_sem]; done) | (simp only [go_sem]; rfl)) ?_
  apply run_sound 200
  simp -implicitDefEqProofs +decide only [go_sem]
  exact endF.vals [(4, .int .i64 (sgnI t))] (.inr rfl) (vals_t (by simp -implicitDefEqProofs +decide only [go_sem] <;> rfl) rfl vals_nil) (fun l hp => by cases l <;> first | rfl | cases hp) rfl
theorem sgnI_neg (r s : Rat) : decide (sgnI (r - s) < 0) = decide (r < s) := by
  refine decide_eq_decide.2 ?_
  have h : (r - s).num < 0 ↔ r < s := by
    have h0 : 0 ≤ (r - s).num ↔ s ≤ r := by rw [Rat.num_nonneg, ← Rat.le_iff_sub_nonneg]
    rw [← Rat.not_le, ← h0]; omega
  rw [← h]
  unfold sgnI
  split
  · omega
  · split <;> omega
theorem sgnI_zero (r s : Rat) : decide (sgnI (r - s) = 0) = decide (r = s) := by
  refine decide_eq_decide.2 ?_
  have h : (r - s).num = 0 ↔ r = s := by
    rw [Rat.num_eq_zero]
    constructor
    · intro h
      have : r - s + s = 0 + s := by rw [h]
      rwa [Rat.sub_add_cancel, Rat.zero_add] at this
    · intro h; rw [h, Rat.sub_self]
  rw [← h]
  unfold sgnI
  split
  · omega
  · split <;> omega

/-- A bank of exact numbers, after k operations and some comparisons. -/
def metC (id : Nat) : List Bool → AV
  | [] => .nil
  | b :: l => .sl (.fld id 4) l.length 0 (l.length + 1)
def metR : List Bool → Option Obj
  | [] => none
  | b :: l => some (.arr 1 ((b :: l).map T.bool) l.length 0)
def bankS (id k : Nat) (met : List Bool) (tie : Bool) : Obj := .box [.t (.int .i64 0), .t (.int .i64 0), .nil, .t (.slice []), metC id met, .t (.int .i64 0), .t (.int .i64 k), .t (.bool tie), .t (.int .i64 0)]
structure BankM (h : Heap) (id k : Nat) (met : List Bool) (tie : Bool) : Prop where
  hb : ∀ l, Lab.pool l = false → h l = none
  o : h (.obj id) = some (bankS id k met tie)
  f : h (.fld id 4) = metR met
def bankU (h : Heap) (id k : Nat) (met : List Bool) (tie : Bool) : Heap := upd (upd h (.obj id) (some (bankS id k met tie))) (.fld id 4) (metR met)
theorem failsS_ok (h : Heap) (m id k : Nat) (met : List Bool) (tie : Bool) (hb : ∀ l, Lab.pool l = false → h l = none) (hk : h (.obj id) = some (bankS id k met tie)) :
    Ret Tryz.prog 90 [.ptr id] h m [.t (.bool false)] h m := by
  have hl : ∀ d j, h (.loc d j) = none := fun d j => hb _ rfl
  unfold bankS at hk
  refine Ret.intro Tryz.func90 rfl (rt := [2]) rfl (by simp [Tryz.ntmps90]) (by decide) (sites := fun _ => false) hb (Keeps.refl _) ?_
  apply run_sound 200
  simp -implicitDefEqProofs +decide only [go_sem, hk, hl]
  exact endF.oneH (.inr rfl) (by simp -implicitDefEqProofs +decide only [go_sem, hk, hl]) rfl (fun _ _ => rfl) rfl
theorem bankU_hb {h : Heap} {id k : Nat} {met : List Bool} {tie : Bool} (hb : ∀ l, Lab.pool l = false → h l = none) : ∀ l, Lab.pool l = false → bankU h id k met tie l = none := fun l hp => by
  unfold bankU
  rw [upd_ne _ _ _ _ (fun e => by subst e; cases hp), upd_ne _ _ _ _ (fun e => by subst e; cases hp)]
  exact hb l hp
theorem bankU_M {h : Heap} {id k : Nat} {met : List Bool} {tie : Bool} (hb : ∀ l, Lab.pool l = false → h l = none) : BankM (bankU h id k met tie) id k met tie :=
  ⟨bankU_hb hb, by unfold bankU; rw [upd_ne _ _ _ _ (fun e => by cases e), upd_same], by unfold bankU; rw [upd_same]⟩
theorem bankU_U (h : Heap) (id k k' : Nat) (met met' : List Bool) (tie tie' : Bool) : bankU (bankU h id k met tie) id k' met' tie' = bankU h id k' met' tie' := by
  funext l
  unfold bankU
  by_cases e1 : l = .fld id 4
  · subst e1; rw [upd_same, upd_same]
  · rw [upd_ne _ _ _ _ e1, upd_ne _ _ _ _ e1]
    by_cases e2 : l = .obj id
    · subst e2; rw [upd_same, upd_same]
    · rw [upd_ne _ _ _ _ e2, upd_ne _ _ _ _ e1, upd_ne _ _ _ _ e2, upd_ne _ _ _ _ e2]
theorem bankU_self {h : Heap} {id k : Nat} {met : List Bool} {tie : Bool} (B : BankM h id k met tie) : bankU h id k met tie = h := by
  funext l
  unfold bankU
  by_cases e1 : l = .fld id 4
  · subst e1; rw [upd_same, B.f]
  · rw [upd_ne _ _ _ _ e1]
    by_cases e2 : l = .obj id
    · subst e2; rw [upd_same, B.o]
    · rw [upd_ne _ _ _ _ e2]
theorem bankU_keeps {h : Heap} {id k k' : Nat} {met met' : List Bool} {tie tie' : Bool} (B : BankM h id k met tie) : Keeps h (bankU h id k' met' tie') := by
  refine ⟨fun id' cs hc => ?_, fun i o hc => ?_⟩
  · unfold bankU
    rw [upd_ne _ _ _ _ (fun e => by cases e)]
    by_cases e : Lab.obj id' = .obj id
    · rw [e, upd_same]; exact ⟨_, rfl⟩
    · rw [upd_ne _ _ _ _ e]; exact ⟨_, hc⟩
  · unfold bankU
    rw [upd_ne _ _ _ _ (fun e => by cases e), upd_ne _ _ _ _ (fun e => by cases e)]
    exact ⟨_, hc, ArgStep.refl _⟩
theorem less_ok (h : Heap) (m id k : Nat) (met : List Bool) (tie : Bool) (x y : Rat) (B : BankM h id k met tie) (hml : met.length < 60000) (hx : QB x 10000000) (hy : QB y 10000000) :
    Ret Tryz.prog 99 [.ptr id, vT x, vT y] h m [.t (.bool (decide (x < y)))] (bankU h id k (met ++ [decide (x < y)]) (tie || decide (x = y))) m := by
  have hl : ∀ d j, h (.loc d j) = none := fun d j => B.hb _ rfl
  have c1 := failsS_ok h m id k met tie B.hb B.o
  have c2 := cmp_okQ x y hx hy
  have s1 := sgnI_neg x y
  have s2 := sgnI_zero x y
  rw [qT, qT] at c2
  generalize sgnI (x - y) = sg at c2 s1 s2
  generalize decide (x < y) = b at *
  generalize decide (x = y) = z at *
  have ho := B.o
  have hf := B.f
  refine Ret.intro Tryz.func99 rfl (rt := [6]) rfl (by simp [Tryz.ntmps99]) (by decide) (sites := fun _ => false) (bankU_hb B.hb) (bankU_keeps B) ?_
  simp only [vT_eq]
  unfold bankS at ho
  cases met with
  | nil =>
    simp only [metC, metR] at ho hf
    apply run_sound 200
    simp -implicitDefEqProofs +decide only [go_sem, hl]
    refine CallG.pool _ Tryz.call90 c1 B.hb (by rintro (_ | _ | _ | _ | _) hp <;> first | (cases hp; done) | simp -implicitDefEqProofs +decide only [go_sem, hl]) ?_
    apply run_sound 200
    simp -implicitDefEqProofs +decide only [go_sem, ho, hl]
    refine CallG.pure _ Tryz.call126 (c2) (by first | rfl | (simp only [go_sem]; done) | (simp only [go_sem]; rfl)) (by first | rfl | (simp only [go_sem]; done) | (simp only [go_sem]; rfl)) ?_
    apply run_sound 200
    cases tie
    · simp -implicitDefEqProofs +decide only [go_sem, ho, hf, hl, s1, s2]
      exact endF.oneH (.inr rfl) (by simp -implicitDefEqProofs +decide only [go_sem]) rfl (by rintro (_ | _ | _ | _ | _) hp <;> first | (cases hp; done) | simp -implicitDefEqProofs +decide only [go_sem, bankU, bankS, metC, metR, Bool.false_or, List.map_cons, List.map_nil, List.length_nil]) rfl
    · simp -implicitDefEqProofs +decide only [go_sem, ho, hf, hl, s1, s2]
      exact endF.oneH (.inr rfl) (by simp -implicitDefEqProofs +decide only [go_sem]) rfl (by rintro (_ | _ | _ | _ | _) hp <;> first | (cases hp; done) | simp -implicitDefEqProofs +decide only [go_sem, bankU, bankS, metC, metR, Bool.true_or, List.map_cons, List.map_nil, List.length_nil]) rfl
  | cons a l =>
    have e1 : (a :: l) ++ [b] = a :: (l ++ [b]) := rfl
    have e2 : (l ++ [b]).length = l.length + 1 := by simp
    have e4 : ((a :: l).map T.bool).length = l.length + 1 := by simp
    have hn : decide ((65536 : Int) ≤ ((l.length + 1 : Nat) : Int)) = false := decide_eq_false (by simp at hml; omega)
    have hnb : l.length + 1 + 1 < big := by unfold big; simp at hml; omega
    rw [e1]
    simp only [metC, metR] at ho hf
    apply run_sound 200
    simp -implicitDefEqProofs +decide only [go_sem, hl]
    refine CallG.pool _ Tryz.call90 c1 B.hb (by rintro (_ | _ | _ | _ | _) hp <;> first | (cases hp; done) | simp -implicitDefEqProofs +decide only [go_sem, hl]) ?_
    apply run_sound 200
    simp -implicitDefEqProofs +decide only [go_sem, ho, hf, hl, hn]
    refine CallG.pure _ Tryz.call126 (c2) (by first | rfl | (simp only [go_sem]; done) | (simp only [go_sem]; rfl)) (by first | rfl | (simp only [go_sem]; done) | (simp only [go_sem]; rfl)) ?_
    apply run_sound 200
    cases tie
    · simp -implicitDefEqProofs +decide only [go_sem, ho, hf, hl, s1, s2, e4, hnb]
      exact endF.oneH (.inr rfl) (by simp -implicitDefEqProofs +decide only [go_sem]) rfl (by rintro (_ | _ | _ | _ | _) hp <;> first | (cases hp; done) | simp -implicitDefEqProofs +decide only [go_sem, bankU, bankS, metC, metR, Bool.false_or, List.map_cons, List.map_append, List.map_nil, e2]) rfl
    · simp -implicitDefEqProofs +decide only [go_sem, ho, hf, hl, s1, s2, e4, hnb]
      exact endF.oneH (.inr rfl) (by simp -implicitDefEqProofs +decide only [go_sem]) rfl (by rintro (_ | _ | _ | _ | _) hp <;> first | (cases hp; done) | simp -implicitDefEqProofs +decide only [go_sem, bankU, bankS, metC, metR, Bool.true_or, List.map_cons, List.map_append, List.map_nil, e2]) rfl
end Go.Fm
/- Sums and bests, in the program. -/
namespace Go.Fm
open Go.Proofs
set_option maxRecDepth 100000
attribute [local irreducible] tiOf

theorem endC.twoV {P : Program} {rv rv' : RV} {y y' : AV} {t t' : T} {h' : Heap} {m' : Nat} {e : Exit} {s : St} (he : e = .normal ∨ e = .ret) (hv : valC P s rv = some y) (hv' : valC P s rv' = some y') (hr : reify y = .ret (t, [])) (hr' : reify y' = .ret (t', []))
    (hh : ∀ l, Lab.pool l = true → h' l = s.h l) (hn : s.nxt = m') : endC P [rv, rv'] [.t t, .t t'] h' m' e s := by
  refine ⟨he, ⟨[y, y'], [false, false], by simp [valsC, hv, hv'], rfl, [], [none, none], [], ?_, rfl, hh⟩, hn⟩
  simp [finL, fin1, hr, hr', Rd.bind, Rd.run]

/-- A sum, from the first one on. -/
def sumR (x : Rat) (l : List Rat) : Rat := l.foldl (· + ·) x
theorem sumR_snoc {x y : Rat} {l : List Rat} {i : Nat} (h : l[i]? = some y) : sumR x (l.take (i + 1)) = sumR x (l.take i) + y := by
  unfold sumR; rw [take_snoc h, List.foldl_append]; rfl
theorem sumR_QB {x : Rat} {l : List Rat} {B : Nat} (hx : QB x B) (hl : ∀ r ∈ l, QB r B) : ∀ i, QB (sumR x (l.take i)) ((i + 1) * (B + 1))
  | 0 => by
    rw [List.take_zero]
    show QB x _
    exact hx.mono (by omega)
  | i + 1 => by
    cases hy : l[i]? with
    | none =>
      have : l.take (i + 1) = l.take i := by rw [List.take_add_one, hy]; simp
      rw [this]
      exact (sumR_QB hx hl i).mono (Nat.mul_le_mul_right _ (by omega))
    | some y =>
      rw [sumR_snoc hy]
      exact (QB_add (sumR_QB hx hl i) (hl y (List.mem_of_getElem? hy))).mono (by rw [Nat.add_mul (i + 1) 1, Nat.one_mul]; omega)
theorem sum_ok (h : Heap) (m id k : Nat) (x : Rat) (l : List Rat) (hb : ∀ l, Lab.pool l = false → h l = none) (hk : h (.obj id) = some (bankO k)) (hkb : k < 100000000) (hll : l.length ≤ 64) (hx : QB x 1000) (hl : ∀ r ∈ l, QB r 1000) :
    Ret Tryz.prog 71 [.ptr id, sV (x :: l)] h m [.t (vT (sumR x l))] (upd h (.obj id) (some (bankO (k + l.length)))) m := by
  have hloc : ∀ d j, h (.loc d j) = none := fun d j => hb _ rfl
  have c1 := copyR_ok x (hx.mono (by decide))
  have hu0 : upd h (.obj id) (some (bankO (k + 0))) = h := by
    funext l
    by_cases e : l = .obj id
    · subst e; rw [upd_same, hk]; rfl
    · rw [upd_ne _ _ _ _ e]
  have hlen : (x :: l).length = l.length + 1 := rfl
  have h0i : (1 : Int) ≤ ((l.length + 1 : Nat) : Int) := by omega
  have hall : (((x :: l).map vT).all fun e => e.cells.length == 5) = true := by
    rw [List.all_eq_true]
    intro e he
    obtain ⟨r, _, rfl⟩ := List.mem_map.1 he
    rfl
  have htk : List.take (l.length + 1) ((x :: l).map vT) = (x :: l).map vT := List.take_of_length_le (by simp)
  have hdr : List.drop 1 ((x :: l).map vT) = l.map vT := rfl
  have hg0 : ((x :: l).map vT)[0]? = some (vT x) := rfl
  have hml : ((x :: l).map vT).length = l.length + 1 := by simp
  have hne : decide (((l.length + 1 : Nat) : Int) = 0) = false := decide_eq_false (by omega)
  unfold sV
  generalize (x :: l).map vT = xs at *
  refine Ret.introC Tryz.func71 rfl (rv := [.c 4 73]) rfl (by simp [Tryz.ntmps71]) (by decide) (sites := fun _ => false) (bank_hb hb) bank_keeps ?_
  simp only [vT_eq] at c1 hg0
  apply run_sound 200
  simp -implicitDefEqProofs +decide only [go_sem, hloc, hml, hne]
  simp -implicitDefEqProofs +decide only [go_sem, hg0]
  refine CallG.pureS _ Tryz.call59 (c1) (by first | rfl | (simp only [go_sem]; done) | (simp only [go_sem]; rfl)) (by first | rfl | (simp only [go_sem]; done) | (simp only [go_sem]; rfl)) ?_
  apply run_sound 200
  simp -implicitDefEqProofs +decide only [go_sem, hml, h0i, hall, htk, hdr, hloc, List.length_map]
  refine Goes.loop (X := Nat) (fun i => ⟨ofL [(0, .t (.ptr id)), (4, .bp (.loc 4 0) 0), (5, .bp (.loc 5 0) 0), (18, .t (sV l)), (19, .t (.int .i64 l.length)), (20, .t (.int .i64 i))],
    ofH (upd h (.obj id) (some (bankO (k + i)))) [(.loc 4 0, .box [.t (.bool false), .nil, .nil, .t (.int .u64 0), .t (.int .i64 0)]), (.loc 5 0, .box [.t (.bool (neg1 (sumR x (l.take i)))), .t (sW (wordsOf (sumR x (l.take i)).num.natAbs)), .t (sW (wordsOf (sumR x (l.take i)).den)), .t (.int .u64 0), .t (.int .i64 0)])], m⟩) (fun i => i ≤ l.length) (fun i => l.length - i) 0 ?_ (by omega) ?_
  · have e0 : sumR x (l.take 0) = x := rfl
    dsimp only
    rw [hu0, e0]
    refine Wk.boxes _ _ hb rfl rfl ?_ (by rintro (_ | _ | _ | _ | _) hp <;> first | (cases hp; done) | simp -implicitDefEqProofs +decide only [go_sem, hloc]) ?_ ?_
    · simp -implicitDefEqProofs +decide only [go_sem, hloc, ofH] <;> first | rfl | exact ⟨rfl, rfl⟩ | skip
    · simp -implicitDefEqProofs +decide only [go_sem, sV] <;> rfl
    · simp -implicitDefEqProofs +decide only [go_sem, sV]
  rintro i hi J hJ
  apply run_sound 200
  simp -implicitDefEqProofs +decide only [go_sem, sV]
  refine selP_dec (fun hc => ?_) (fun hc => ?_)
  · obtain ⟨y, hy⟩ := getI (show i < l.length by omega)
    have hw := wS (show i < 1000000000000 by omega)
    have hsn := sumR_snoc (x := x) hy
    have hq := (sumR_QB hx hl i).mono (show (i + 1) * (1000 + 1) ≤ 10000000 by have := Nat.mul_le_mul_right (1000 + 1) (show i + 1 ≤ 65 by omega); omega)
    have ca := bankAdd_ok (upd h (.obj id) (some (bankO (k + i)))) m id (k + i) (sumR x (l.take i)) y (bank_hb hb) (upd_same _ _ _) (by omega) hq ((hl y (List.mem_of_getElem? hy)).mono (by decide))
    rw [obj_up, ← hsn] at ca
    generalize sumR x (l.take i) = s at *
    obtain ⟨s', hs'⟩ : ∃ s', sumR x (l.take (i + 1)) = s' := ⟨_, rfl⟩
    rw [hs'] at ca
    simp only [vT_eq] at ca
    simp -implicitDefEqProofs +decide only [go_sem, hy, vT_eq, hloc, ofH]
    refine CallG.pool _ Tryz.call48 ca (bank_hb hb) (by rintro (_ | _ | _ | _ | _) hp <;> first | (cases hp; done) | simp -implicitDefEqProofs +decide only [go_sem, hloc]) ?_
    apply run_sound 200
    simp -implicitDefEqProofs +decide only [go_sem, hloc, hw]
    refine hJ (i + 1) _ (by omega) (by omega) (Wk.boxes _ _ (bank_hb hb) rfl rfl ?_ (by rintro (_ | _ | _ | _ | _) hp <;> first | (cases hp; done) | simp -implicitDefEqProofs +decide only [go_sem, hloc, Nat.add_assoc]) ?_ ?_)
    · simp -implicitDefEqProofs +decide only [go_sem, ofH, hloc, hs'] <;> first | rfl | exact ⟨rfl, rfl⟩ | skip
    · simp -implicitDefEqProofs +decide only [go_sem, sV]
    · simp -implicitDefEqProofs +decide only [go_sem, sV]
  · obtain rfl : i = l.length := by omega
    rw [List.take_length]
    simp only [vT_eq]
    simp -implicitDefEqProofs +decide only [go_sem, ofH]
    exact endC.oneV (.inr rfl) (by first | (simp -implicitDefEqProofs +decide only [go_sem, valC, hloc]; done) | (simp -implicitDefEqProofs +decide only [go_sem, valC, hloc]; rfl)) (by first | rfl | (simp -implicitDefEqProofs +decide only [go_sem, hloc]; done) | (simp -implicitDefEqProofs +decide only [go_sem, hloc]; rfl)) (by rintro (_ | _ | _ | _ | _) hp <;> first | (cases hp; done) | simp -implicitDefEqProofs +decide only [go_sem, hloc]) rfl
end Go.Fm
/- The best of some, in the program. -/
namespace Go.Fm
open Go.Proofs
set_option maxRecDepth 100000
attribute [local irreducible] tiOf

structure Bst where
  pick : Nat
  met : List Bool
  tie : Bool
/-- The two that are held against each other. -/
def bestP (mn : Bool) (x : List Rat) (p i : Nat) : Rat × Rat := match mn with | true => (x.getD (i + 1) 0, x.getD p 0) | false => (x.getD p 0, x.getD (i + 1) 0)
def bestN (mn : Bool) (x : List Rat) (s : Bst) (i : Nat) : Bst := ⟨if decide ((bestP mn x s.pick i).1 < (bestP mn x s.pick i).2) = true then i + 1 else s.pick, s.met ++ [decide ((bestP mn x s.pick i).1 < (bestP mn x s.pick i).2)], s.tie || decide ((bestP mn x s.pick i).1 = (bestP mn x s.pick i).2)⟩
def bestF (mn : Bool) (x : List Rat) (s : Bst) : Nat → Bst
  | 0 => ⟨0, s.met, s.tie⟩
  | i + 1 => bestN mn x (bestF mn x s i) i
theorem bestF_pick (mn : Bool) (x : List Rat) (s : Bst) : ∀ i, (bestF mn x s i).pick ≤ i
  | 0 => Nat.le_refl _
  | i + 1 => by
    have := bestF_pick mn x s i
    unfold bestF bestN
    dsimp only
    split <;> omega
theorem bestF_met (mn : Bool) (x : List Rat) (s : Bst) : ∀ i, (bestF mn x s i).met.length = s.met.length + i
  | 0 => rfl
  | i + 1 => by
    have := bestF_met mn x s i
    unfold bestF bestN
    dsimp only
    rw [List.length_append, this]; simp; omega
theorem metR_snoc (l : List Bool) (b : Bool) : ∃ o, metR (l ++ [b]) = some o := by cases l <;> exact ⟨_, rfl⟩
theorem bankU_writes {h : Heap} {id k : Nat} {met met' : List Bool} {tie tie' : Bool} {o : Obj} (ho : metR met' = some o) (l : Lab) : bankU h id k met' tie' l = writes (bankU h id k met tie) [(.obj id, bankS id k met' tie'), (.fld id 4, o)] l := by
  show _ = upd (upd (bankU h id k met tie) (.obj id) (some (bankS id k met' tie'))) (.fld id 4) (some o) l
  rw [← ho]
  show _ = bankU (bankU h id k met tie) id k met' tie' l
  rw [bankU_U]

theorem best_ok (h : Heap) (m id k : Nat) (op : Int) (mn : Bool) (met : List Bool) (tie : Bool) (xs : List Rat) (B : BankM h id k met tie) (hop : decide (op = 30) = mn) (hml : met.length < 50000) (h1 : 1 ≤ xs.length) (h64 : xs.length ≤ 64) (hx : ∀ r ∈ xs, QB r 1000) :
    Ret Tryz.prog 73 [.ptr id, .int .i64 op, sV xs] h m [.t (vT (xs.getD (bestF mn xs ⟨0, met, tie⟩ (xs.length - 1)).pick 0)), .t (.int .i64 (bestF mn xs ⟨0, met, tie⟩ (xs.length - 1)).pick)]
      (bankU h id k (bestF mn xs ⟨0, met, tie⟩ (xs.length - 1)).met (bestF mn xs ⟨0, met, tie⟩ (xs.length - 1)).tie) m := by
  have hloc : ∀ d j, h (.loc d j) = none := fun d j => B.hb _ rfl
  have hu0 := bankU_self B
  obtain ⟨x0, hx0⟩ := getI (show 0 < xs.length by omega)
  have hgx : ∀ i, i < xs.length → xs[i]? = some (xs.getD i 0) := fun i hi => by obtain ⟨x, hx⟩ := getI hi; rw [hx, List.getD_eq_getElem?_getD, hx]; rfl
  have e00 : x0 = xs.getD 0 0 := by rw [List.getD_eq_getElem?_getD, hx0]; rfl
  refine Ret.introC Tryz.func73 rfl (rv := [.c 6 73, .s 7]) rfl (by simp [Tryz.ntmps73]) (by decide) (sites := fun _ => false) (bankU_hb B.hb) (bankU_keeps B) ?_
  apply run_sound 200
  simp -implicitDefEqProofs +decide only [go_sem, hloc, sV]
  simp -implicitDefEqProofs +decide only [go_sem, hx0, vT_eq, hloc]
  refine Goes.loop (X := Nat) (fun n => ⟨ofL [(0, .t (.ptr id)), (1, .t (.int .i64 op)), (2, .t (sV xs)), (6, .bp (.loc 6 0) 0), (8, .bp (.loc 8 0) 0), (9, .t (.int .i64 (bestF mn xs ⟨0, met, tie⟩ n).pick)), (10, .t (.int .i64 (n + 1 : Nat)))],
    ofH (bankU h id k (bestF mn xs ⟨0, met, tie⟩ n).met (bestF mn xs ⟨0, met, tie⟩ n).tie) [(.loc 6 0, .box [.t (.bool false), .nil, .nil, .t (.int .u64 0), .t (.int .i64 0)]), (.loc 8 0, .box [.t (.bool (neg1 (xs.getD (bestF mn xs ⟨0, met, tie⟩ n).pick 0))), .t (sW (wordsOf (xs.getD (bestF mn xs ⟨0, met, tie⟩ n).pick 0).num.natAbs)), .t (sW (wordsOf (xs.getD (bestF mn xs ⟨0, met, tie⟩ n).pick 0).den)), .t (.int .u64 0), .t (.int .i64 0)])], m⟩) (fun n => n + 1 ≤ xs.length) (fun n => xs.length - n) 0 ?_ (by omega) ?_
  · have e1 : (bestF mn xs ⟨0, met, tie⟩ 0) = ⟨0, met, tie⟩ := rfl
    rw [e1]
    dsimp only
    rw [hu0, ← e00]
    refine Wk.boxes _ _ B.hb rfl rfl ?_ (by rintro (_ | _ | _ | _ | _) hp <;> first | (cases hp; done) | simp -implicitDefEqProofs +decide only [go_sem, hloc]) ?_ ?_
    · simp -implicitDefEqProofs +decide only [go_sem, hloc, ofH] <;> first | rfl | exact ⟨rfl, rfl⟩ | skip
    · simp -implicitDefEqProofs +decide only [go_sem, sV] <;> rfl
    · simp -implicitDefEqProofs +decide only [go_sem, sV]
  rintro n hn J hJ
  have hp := bestF_pick mn xs ⟨0, met, tie⟩ n
  have hmt := bestF_met mn xs ⟨0, met, tie⟩ n
  have hst : bestF mn xs ⟨0, met, tie⟩ (n + 1) = bestN mn xs (bestF mn xs ⟨0, met, tie⟩ n) n := rfl
  obtain ⟨⟨p, mt, ti⟩, hs⟩ : ∃ s, bestF mn xs ⟨0, met, tie⟩ n = s := ⟨_, rfl⟩
  rw [hs] at hp hmt hst ⊢
  dsimp only at hp hmt ⊢
  apply run_sound 200
  simp -implicitDefEqProofs +decide only [go_sem, sV, List.length_map]
  refine selP_dec (fun hc => ?_) (fun hc => ?_)
  · have hxa := hgx (n + 1) (by omega)
    have hxp := hgx p (by omega)
    have qa := (hx _ (List.mem_of_getElem? hxa)).mono (show 1000 ≤ 10000000 by decide)
    have qp := (hx _ (List.mem_of_getElem? hxp)).mono (show 1000 ≤ 10000000 by decide)
    have hb := bankU_hb (id := id) (k := k) (met := mt) (tie := ti) B.hb
    have hw : IntKind.wrap .i64 (((n + 1 : Nat) : Int) + 1) = ((n + 1 + 1 : Nat) : Int) := wS (show n + 1 < 1000000000000 by omega)
    cases mn with
    | true =>
      have cl := less_ok _ m id k mt ti (xs.getD (n + 1) 0) (xs.getD p 0) (bankU_M B.hb) (by omega) qa qp
      have hst : bestF true xs ⟨0, met, tie⟩ (n + 1) = ⟨if decide (xs.getD (n + 1) 0 < xs.getD p 0) = true then n + 1 else p, mt ++ [decide (xs.getD (n + 1) 0 < xs.getD p 0)], ti || decide (xs.getD (n + 1) 0 = xs.getD p 0)⟩ := hst
      rw [bankU_U] at cl
      obtain ⟨o, ho⟩ := metR_snoc mt (decide (xs.getD (n + 1) 0 < xs.getD p 0))
      have hwr := fun l => bankU_writes (h := h) (id := id) (k := k) (met := mt) (tie := ti) (tie' := ti || decide (xs.getD (n + 1) 0 = xs.getD p 0)) ho l
      obtain ⟨b, hbb⟩ : ∃ b, decide (xs.getD (n + 1) 0 < xs.getD p 0) = b := ⟨_, rfl⟩
      rw [hbb] at cl hst hwr
      generalize (ti || decide (xs.getD (n + 1) 0 = xs.getD p 0)) = tj at *
      have hba : xs.getD (bestF true xs ⟨0, met, tie⟩ (n + 1)).pick 0 = if b = true then xs.getD (n + 1) 0 else xs.getD p 0 := by rw [hst]; cases b <;> rfl
      generalize xs.getD (n + 1) 0 = a at *
      generalize xs.getD p 0 = c at *
      simp only [vT_eq] at cl
      simp -implicitDefEqProofs +decide only [go_sem, hop]
      refine Goes.drawP mixed (Calm.of (by repeat first | exact Clean.und | refine Clean.upd ?_ rfl | refine Clean.upd ?_ (by simp only [cleanA, cleanL, ])) (by repeat first | exact HCalm.none | exact HCalm.hb hb | exact HCalm.hb (bank_hb hb) | refine HCalm.row ?_ | refine HCalm.box ?_ (by first | rfl | (simp only [cleanA, cleanL, ]; done) | assumption))) ?_
      simp -implicitDefEqProofs +decide only [go_sem, hxa, vT_eq]
      refine CallD.make _ [(.obj id, bankS id k (mt ++ [b]) tj), (.fld id 4, o)] 0 Tryz.call99 cl rfl hb (by rintro (_ | _ | _ | _ | _) hp <;> first | (cases hp; done) | simp -implicitDefEqProofs +decide only [go_sem]) (fun l _ => hwr l) rfl (.inr rfl) ?_
      simp -implicitDefEqProofs +decide only [go_sem]
      refine ⟨.mk (by kernel_rfl), ?_⟩
      apply run_sound 200
      cases b with
      | true =>
        simp only [if_true] at hba hst
        simp -implicitDefEqProofs +decide only [go_sem, hxa, vT_eq, hw, ofH]
        refine hJ (n + 1) _ (by omega) (by omega) (Wk.boxes _ _ (bankU_hb B.hb) rfl rfl ?_ (fun l hp => ?_) ?_ ?_)
        · simp -implicitDefEqProofs +decide only [go_sem, ofH, hloc, hba] <;> first | rfl | exact ⟨rfl, rfl⟩ | skip
        · cases l <;> first | (cases hp; done) | simp -implicitDefEqProofs +decide only [go_sem, hst, hwr, ofH]
        · simp -implicitDefEqProofs +decide only [go_sem, sV, hst] <;> rfl
        · simp -implicitDefEqProofs +decide only [go_sem, sV]
      | false =>
        simp only [Bool.false_eq_true, if_false] at hba hst
        simp -implicitDefEqProofs +decide only [go_sem, hw, ofH]
        refine hJ (n + 1) _ (by omega) (by omega) (Wk.boxes _ _ (bankU_hb B.hb) rfl rfl ?_ (fun l hp => ?_) ?_ ?_)
        · simp -implicitDefEqProofs +decide only [go_sem, ofH, hloc, hba] <;> first | rfl | exact ⟨rfl, rfl⟩ | skip
        · cases l <;> first | (cases hp; done) | simp -implicitDefEqProofs +decide only [go_sem, hst, hwr, ofH]
        · simp -implicitDefEqProofs +decide only [go_sem, sV, hst] <;> rfl
        · simp -implicitDefEqProofs +decide only [go_sem, sV]
    | false =>
      have cl := less_ok _ m id k mt ti (xs.getD p 0) (xs.getD (n + 1) 0) (bankU_M B.hb) (by omega) qp qa
      have hst : bestF false xs ⟨0, met, tie⟩ (n + 1) = ⟨if decide (xs.getD p 0 < xs.getD (n + 1) 0) = true then n + 1 else p, mt ++ [decide (xs.getD p 0 < xs.getD (n + 1) 0)], ti || decide (xs.getD p 0 = xs.getD (n + 1) 0)⟩ := hst
      rw [bankU_U] at cl
      obtain ⟨o, ho⟩ := metR_snoc mt (decide (xs.getD p 0 < xs.getD (n + 1) 0))
      have hwr := fun l => bankU_writes (h := h) (id := id) (k := k) (met := mt) (tie := ti) (tie' := ti || decide (xs.getD p 0 = xs.getD (n + 1) 0)) ho l
      obtain ⟨b, hbb⟩ : ∃ b, decide (xs.getD p 0 < xs.getD (n + 1) 0) = b := ⟨_, rfl⟩
      rw [hbb] at cl hst hwr
      generalize (ti || decide (xs.getD p 0 = xs.getD (n + 1) 0)) = tj at *
      have hba : xs.getD (bestF false xs ⟨0, met, tie⟩ (n + 1)).pick 0 = if b = true then xs.getD (n + 1) 0 else xs.getD p 0 := by rw [hst]; cases b <;> rfl
      generalize xs.getD (n + 1) 0 = a at *
      generalize xs.getD p 0 = c at *
      simp only [vT_eq] at cl
      simp -implicitDefEqProofs +decide only [go_sem, hop]
      refine Goes.drawP mixed (Calm.of (by repeat first | exact Clean.und | refine Clean.upd ?_ rfl | refine Clean.upd ?_ (by simp only [cleanA, cleanL, ])) (by repeat first | exact HCalm.none | exact HCalm.hb hb | exact HCalm.hb (bank_hb hb) | refine HCalm.row ?_ | refine HCalm.box ?_ (by first | rfl | (simp only [cleanA, cleanL, ]; done) | assumption))) ?_
      simp -implicitDefEqProofs +decide only [go_sem, hxa, vT_eq]
      refine CallD.make _ [(.obj id, bankS id k (mt ++ [b]) tj), (.fld id 4, o)] 0 Tryz.call99 cl rfl hb (by rintro (_ | _ | _ | _ | _) hp <;> first | (cases hp; done) | simp -implicitDefEqProofs +decide only [go_sem]) (fun l _ => hwr l) rfl (.inr rfl) ?_
      simp -implicitDefEqProofs +decide only [go_sem]
      refine ⟨.mk (by kernel_rfl), ?_⟩
      apply run_sound 200
      cases b with
      | true =>
        simp only [if_true] at hba hst
        simp -implicitDefEqProofs +decide only [go_sem, hxa, vT_eq, hw, ofH]
        refine hJ (n + 1) _ (by omega) (by omega) (Wk.boxes _ _ (bankU_hb B.hb) rfl rfl ?_ (fun l hp => ?_) ?_ ?_)
        · simp -implicitDefEqProofs +decide only [go_sem, ofH, hloc, hba] <;> first | rfl | exact ⟨rfl, rfl⟩ | skip
        · cases l <;> first | (cases hp; done) | simp -implicitDefEqProofs +decide only [go_sem, hst, hwr, ofH]
        · simp -implicitDefEqProofs +decide only [go_sem, sV, hst] <;> rfl
        · simp -implicitDefEqProofs +decide only [go_sem, sV]
      | false =>
        simp only [Bool.false_eq_true, if_false] at hba hst
        simp -implicitDefEqProofs +decide only [go_sem, hw, ofH]
        refine hJ (n + 1) _ (by omega) (by omega) (Wk.boxes _ _ (bankU_hb B.hb) rfl rfl ?_ (fun l hp => ?_) ?_ ?_)
        · simp -implicitDefEqProofs +decide only [go_sem, ofH, hloc, hba] <;> first | rfl | exact ⟨rfl, rfl⟩ | skip
        · cases l <;> first | (cases hp; done) | simp -implicitDefEqProofs +decide only [go_sem, hst, hwr, ofH]
        · simp -implicitDefEqProofs +decide only [go_sem, sV, hst] <;> rfl
        · simp -implicitDefEqProofs +decide only [go_sem, sV]
  · obtain rfl : n = xs.length - 1 := by omega
    rw [hs]
    simp only [vT_eq]
    simp -implicitDefEqProofs +decide only [go_sem, ofH]
    exact endC.twoV (.inr rfl) (by simp -implicitDefEqProofs +decide only [go_sem, valC]; rfl) (by simp -implicitDefEqProofs +decide only [go_sem, valC]; rfl) rfl rfl (by rintro (_ | _ | _ | _ | _) hp <;> first | (cases hp; done) | simp -implicitDefEqProofs +decide only [go_sem, hloc]) rfl
end Go.Fm
/- Reductions by the best of each group, in the program. -/
namespace Go.Fm
open Go.Proofs
set_option maxRecDepth 100000
attribute [local irreducible] tiOf

/-- Groups of so many elements. -/
structure GL (L : List (List Int)) (N : Nat) : Prop where
  ne : 1 ≤ L.length
  len : L.length ≤ 64
  each : ∀ g ∈ L, 1 ≤ g.length ∧ g.length ≤ 64 ∧ ∀ z ∈ g, 0 ≤ z ∧ z < (N : Int)
theorem GL_of {mk : List Bool} {d : List Int} (G : Grp mk d) : GL (groupsL mk d) (prodL d).toNat := by
  have hK := (chk0 (kept_chk G.c G.l).1).2.2
  have hN := (chk0 G.c).2.2
  refine ⟨by simp [groupsL]; omega, by simp [groupsL]; omega, fun g hg => ?_⟩
  obtain ⟨k, hk, rfl⟩ := List.mem_map.1 hg
  have hk := List.mem_range.1 hk
  obtain ⟨_, h2, h3⟩ := G.first (show (k : Int) < _ by omega)
  refine ⟨?_, Nat.le_trans (grpL_len mk d _ k) (by omega), fun z hz => ?_⟩
  · have : ((firstG mk d k : Nat) : Int) ∈ grpL mk d (prodL d).toNat k := by
      unfold grpL
      exact List.mem_map.2 ⟨firstG mk d k, List.mem_filter.2 ⟨List.mem_range.2 (by omega), by simpa using h3⟩, rfl⟩
    exact List.length_pos_of_mem this
  · unfold grpL at hz
    obtain ⟨n, hn, rfl⟩ := List.mem_map.1 hz
    have := List.mem_range.1 (List.mem_filter.1 hn).1
    omega
def pickG (v : List Rat) (g : List Int) : List Rat := g.map fun z => v.getD z.toNat 0
theorem pickG_length (v : List Rat) (g : List Int) : (pickG v g).length = g.length := by simp [pickG]
theorem pickG_snoc {v : List Rat} {g : List Int} {i n : Nat} {y : Rat} (hg : g[i]? = some (n : Int)) (hy : v[n]? = some y) : pickG v (g.take i) ++ [y] = pickG v (g.take (i + 1)) := by
  unfold pickG
  rw [take_snoc hg, List.map_append]
  simp [hy]
theorem pickG_mem {v : List Rat} {g : List Int} {P : Rat → Prop} (hv : ∀ r ∈ v, P r) (hg : ∀ z ∈ g, 0 ≤ z ∧ z < (v.length : Int)) : ∀ r ∈ pickG v g, P r := fun r hr => by
  obtain ⟨z, hz, rfl⟩ := List.mem_map.1 hr
  have := hg z hz
  obtain ⟨y, hy⟩ := getI (show z.toNat < v.length by omega)
  rw [List.getD_eq_getElem?_getD, hy, Option.getD_some]
  exact hv y (List.mem_of_getElem? hy)

/-- What stands behind so many groups. -/
structure Dst where
  vals : List Rat
  which : List Int
  met : List Bool
  tie : Bool
def doN (mn : Bool) (v : List Rat) (g : List Int) (s : Dst) : Dst :=
  ⟨s.vals ++ [(pickG v g).getD (bestF mn (pickG v g) ⟨0, s.met, s.tie⟩ ((pickG v g).length - 1)).pick 0], s.which ++ [((bestF mn (pickG v g) ⟨0, s.met, s.tie⟩ ((pickG v g).length - 1)).pick : Int)],
    (bestF mn (pickG v g) ⟨0, s.met, s.tie⟩ ((pickG v g).length - 1)).met, (bestF mn (pickG v g) ⟨0, s.met, s.tie⟩ ((pickG v g).length - 1)).tie⟩
def doF (mn : Bool) (v : List Rat) (L : List (List Int)) : Nat → Dst
  | 0 => ⟨[], [], [], false⟩
  | i + 1 => doN mn v (L.getD i []) (doF mn v L i)
theorem doF_len (mn : Bool) (v : List Rat) (L : List (List Int)) : ∀ i, (doF mn v L i).vals.length = i ∧ (doF mn v L i).which.length = i
  | 0 => ⟨rfl, rfl⟩
  | i + 1 => by
    have := doF_len mn v L i
    unfold doF doN
    dsimp only
    rw [List.length_append, List.length_append, this.1, this.2]
    exact ⟨rfl, rfl⟩
theorem doF_met {mn : Bool} {v : List Rat} {L : List (List Int)} {N : Nat} (G : GL L N) : ∀ i, (doF mn v L i).met.length ≤ i * 64
  | 0 => Nat.le_refl _
  | i + 1 => by
    have h1 := doF_met (mn := mn) (v := v) G i
    unfold doF doN
    dsimp only
    rw [bestF_met, pickG_length]
    dsimp only
    have : (L.getD i []).length ≤ 64 := by
      rw [List.getD_eq_getElem?_getD]
      cases hg : L[i]? with
      | none => simp
      | some g => exact (G.each g (List.mem_of_getElem? hg)).2.1
    rw [Nat.add_mul]; omega

theorem doBest_ok (h : Heap) (m id k : Nat) (op : Int) (mn : Bool) (x : Atr) (d : List Int) (v : List Rat) (hb : ∀ l, Lab.pool l = false → h l = none) (hk : h (.obj id) = some (bankO k)) (hf : h (.fld id 4) = none) (hop : op = 29 ∨ op = 30) (hmn : decide (op = 30) = mn)
    (hd : d.length < 1000000000) (hl : x.list.length < 9000000000000000000) (h0 : (redE op x d).2 = 0) (hv : (v.length : Int) = cnt d) (hvq : ∀ r ∈ v, QB r 1000) :
    Ret Tryz.prog 32 [.ptr id, .int .i64 op, x.T, argT d v] h m [.t (sV (doF mn v (groupsL (marksI d.length (axesI op x)) d) (groupsL (marksI d.length (axesI op x)) d).length).vals), .t (sI (doF mn v (groupsL (marksI d.length (axesI op x)) d) (groupsL (marksI d.length (axesI op x)) d).length).which)]
      (bankU h id k (doF mn v (groupsL (marksI d.length (axesI op x)) d) (groupsL (marksI d.length (axesI op x)) d).length).met (doF mn v (groupsL (marksI d.length (axesI op x)) d) (groupsL (marksI d.length (axesI op x)) d).length).tie) m := by
  have hloc : ∀ d j, h (.loc d j) = none := fun d j => hb _ rfl
  obtain ⟨_, hc, _, _⟩ := red0 h0
  have hG := grp_of hc (axesI op x)
  have c1 := redGroups_ok op x d hd hl h0
  have GG := GL_of hG
  have hcd : cnt d = prodL d := by unfold cnt; rw [if_pos hc]
  have hN := (chk0 hc).2.2
  have c2 := count_ok d hd
  have c3 := err_ok h m id k hb hk
  rw [show (prodL d).toNat = v.length by omega] at GG
  generalize groupsL (marksI d.length (axesI op x)) d = L at *
  have hL1 := GG.ne
  have hL64 := GG.len
  have dz : decide ((L.length : Int) = 0) = false := decide_eq_false (by omega)
  have dv : decide ((v.length : Int) ≠ cnt d) = false := decide_eq_false (by omega)
  have hlL : (L.map sI).length = L.length := by simp
  obtain ⟨a1, a2, a3, a4, a5, a6, a7, a8, ak, al⟩ := x
  have B : BankM h id k [] false := ⟨hb, hk, hf⟩
  have hu0 := bankU_self B
  have d28 : decide (op = 28) = false := decide_eq_false (by omega)
  have d27 : decide (op = 27) = false := decide_eq_false (by omega)
  have d31 : decide (op = 31) = false := decide_eq_false (by omega)
  refine Ret.intro Tryz.func32 rfl (rt := [8, 9]) rfl (by simp [Tryz.ntmps32]) (by decide) (sites := fun _ => false) (bankU_hb hb) (bankU_keeps B) ?_
  unfold argT
  simp only [Atr.T, sI, I, sL] at c1 c2
  apply run_sound 200
  simp -implicitDefEqProofs +decide only [go_sem, hloc, Atr.T, I, sI, sV]
  refine CallG.pureS _ Tryz.call28 (c1) (by simp only [List.all_cons, List.all_nil, noPtr, noPtrL, noPtr_sW, noPtr_sI, noPtr_sV, noPtrL_U, noPtrL_I, noPtrL_vT, I, List.map_cons, List.map_nil, Bool.and_true, Bool.and_self]) (by first | rfl | (simp only [go_sem]; done) | (simp only [go_sem]; rfl)) ?_
  apply run_sound 200
  simp -implicitDefEqProofs +decide only [go_sem, hloc, sL, hlL]
  refine Goes.drawP mixed (Calm.of (by repeat first | exact Clean.und | refine Clean.upd ?_ rfl | refine Clean.upd ?_ (by simp only [cleanA, cleanL, ])) (by repeat first | exact HCalm.none | exact HCalm.hb hb | exact HCalm.hb (bank_hb hb) | refine HCalm.row ?_ | refine HCalm.box ?_ (by first | rfl | (simp only [cleanA, cleanL, ]; done) | assumption))) ?_
  simp -implicitDefEqProofs +decide only [go_sem, hloc, sL, hlL, dz, List.length_map]
  refine CallD.pure _ Tryz.call45 c2 (by first | rfl | (simp only [go_sem]; done) | (simp only [go_sem]; rfl)) (by first | rfl | (simp only [go_sem]; done) | (simp only [go_sem]; rfl)) ?_
  simp -implicitDefEqProofs +decide only [go_sem, hloc, dv]
  refine CallD.look _ Tryz.call46 c3 rfl hb (by rintro (_ | _ | _ | _ | _) hp <;> first | (cases hp; done) | simp -implicitDefEqProofs +decide only [go_sem, hloc]) ?_
  simp -implicitDefEqProofs +decide only [go_sem]
  refine ⟨.mk (by kernel_rfl), ?_⟩
  apply run_sound 200
  simp -implicitDefEqProofs +decide only [go_sem, hloc, d28]
  refine Goes.wk (Wk.nilRow (d := 12) (lab := .loc 101 0) (size := 5) (by simp -implicitDefEqProofs +decide only [go_sem]) (by simp -implicitDefEqProofs +decide only [go_sem, hloc]) rfl (by decide)) ?_
  refine Goes.wk (Wk.nilRow (d := 13) (lab := .loc 102 0) (size := 1) (by simp -implicitDefEqProofs +decide only [go_sem]) (by simp -implicitDefEqProofs +decide only [go_sem, hloc]) rfl (by decide)) ?_
  refine Goes.loop (X := Nat) (fun i => ⟨ofL [(0, .t (.ptr id)), (1, .t (.int .i64 op)), (7, .bp (.loc 7 0) 0), (12, .sl (.loc 101 0) i 0 i), (13, .sl (.loc 102 0) i 0 i), (48, .t (sL L)), (49, .t (.int .i64 L.length)), (50, .t (.int .i64 i))],
    ofH (bankU h id k (doF mn v L i).met (doF mn v L i).tie) [(.loc 7 0, .box [.t (sI d), .t (sV v)]), (.loc 101 0, .arr 5 ((doF mn v L i).vals.map vT) i 0), (.loc 102 0, .arr 1 ((doF mn v L i).which.map I) i 0)], m⟩) (fun i => i ≤ L.length) (fun i => L.length - i) 0 ?_ (by omega) ?_
  · have e1 : doF mn v L 0 = ⟨[], [], [], false⟩ := rfl
    rw [e1]
    dsimp only
    rw [hu0]
    refine Wk.boxes _ _ hb rfl rfl ?_ (by rintro (_ | _ | _ | _ | _) hp <;> first | (cases hp; done) | simp -implicitDefEqProofs +decide only [go_sem, hloc]) ?_ ?_
    · simp -implicitDefEqProofs +decide only [go_sem, hloc, ofH, sI, sV, List.map_nil] <;> first | rfl | exact ⟨rfl, rfl⟩ | skip
    · simp -implicitDefEqProofs +decide only [go_sem, sV, sL] <;> rfl
    · simp -implicitDefEqProofs +decide only [go_sem, sV]
  rintro i hi J hJ
  have hdl := doF_len mn v L i
  have hdm := doF_met (mn := mn) (v := v) GG i
  have hst : doF mn v L (i + 1) = doN mn v (L.getD i []) (doF mn v L i) := rfl
  obtain ⟨⟨vs, wh, mt, ti⟩, hs⟩ : ∃ s, doF mn v L i = s := ⟨_, rfl⟩
  rw [hs] at hdl hdm hst ⊢
  dsimp only at hdl hdm ⊢
  apply run_sound 200
  simp -implicitDefEqProofs +decide only [go_sem, sL]
  refine selP_dec (fun hc1 => ?_) (fun hc1 => ?_)
  · obtain ⟨g, hg⟩ := getI (show i < L.length by omega)
    have hgd : L.getD i [] = g := by rw [List.getD_eq_getElem?_getD, hg]; rfl
    obtain ⟨g1, g64, gz⟩ := GG.each g (List.mem_of_getElem? hg)
    rw [hgd] at hst
    have hb2 := bankU_hb (id := id) (k := k) (met := mt) (tie := ti) hb
    have hlu : ∀ d j, bankU h id k mt ti (.loc d j) = none := fun d j => hb2 _ rfl
    have hwi := wS (show i < 1000000000000 by omega)
    simp -implicitDefEqProofs +decide only [go_sem, hg, sI]
    refine Goes.wk (Wk.nilRow (d := 16) (lab := .loc 103 0) (size := 5) (by simp -implicitDefEqProofs +decide only [go_sem]) (by simp -implicitDefEqProofs +decide only [go_sem, hlu, ofH]) rfl (by decide)) ?_
    refine Goes.loop (X := Nat) (fun j => ⟨ofL [(0, .t (.ptr id)), (1, .t (.int .i64 op)), (7, .bp (.loc 7 0) 0), (12, .sl (.loc 101 0) i 0 i), (13, .sl (.loc 102 0) i 0 i), (16, .sl (.loc 103 0) j 0 j), (48, .t (sL L)), (49, .t (.int .i64 L.length)), (50, .t (.int .i64 i)), (54, .t (sI g)), (55, .t (.int .i64 g.length)), (56, .t (.int .i64 j))],
      ofH (bankU h id k mt ti) [(.loc 7 0, .box [.t (sI d), .t (sV v)]), (.loc 101 0, .arr 5 (vs.map vT) i 0), (.loc 102 0, .arr 1 (wh.map I) i 0), (.loc 103 0, .arr 5 ((pickG v (g.take j)).map vT) j 0)], m⟩) (fun j => j ≤ g.length) (fun j => g.length - j) 0 ?_ (by omega) ?_
    · refine Wk.boxes _ _ hb2 rfl rfl ?_ (by rintro (_ | _ | _ | _ | _) hp <;> first | (cases hp; done) | simp -implicitDefEqProofs +decide only [go_sem, hlu]) ?_ ?_
      · simp -implicitDefEqProofs +decide only [go_sem, hlu, ofH, sI, sV] <;> first | rfl | exact ⟨rfl, rfl⟩ | skip
      · simp -implicitDefEqProofs +decide only [go_sem, sV, sL, sI, List.length_map] <;> rfl
      · simp -implicitDefEqProofs +decide only [go_sem, sV]
    rintro j hj J2 hJ2
    apply run_sound 200
    simp -implicitDefEqProofs +decide only [go_sem, sI]
    refine selP_dec (fun hc2 => ?_) (fun hc2 => ?_)
    · obtain ⟨z, hz⟩ := getI (show j < g.length by omega)
      obtain ⟨n, rfl⟩ : ∃ n : Nat, z = (n : Int) := ⟨z.toNat, by have := gz z (List.mem_of_getElem? hz); omega⟩
      have hnv := gz _ (List.mem_of_getElem? hz)
      obtain ⟨y, hy⟩ := getI (show n < v.length by omega)
      have hwj := wS (show j < 1000000000000 by omega)
      have hnb : j + 1 < big := by unfold big; omega
      have hpl : ((pickG v (g.take j)).map vT).length = j := by rw [List.length_map, pickG_length, List.length_take]; omega
      have hsn := congrArg (List.map vT) (pickG_snoc hz hy)
      rw [List.map_append] at hsn
      have hsn : (pickG v (g.take j)).map vT ++ [.agg [.bool (neg1 y), sW (wordsOf y.num.natAbs), sW (wordsOf y.den), .int .u64 0, .int .i64 0]] = (pickG v (g.take (j + 1))).map vT := hsn
      simp -implicitDefEqProofs +decide only [go_sem, hz, I, ofH, sV]
      simp -implicitDefEqProofs +decide only [go_sem, hy, vT_eq, hlu, hpl, hnb, hsn, hwj, Int.toNat_natCast]
      refine hJ2 (j + 1) _ (by omega) (by omega) (Wk.boxes _ _ hb2 rfl rfl ?_ (by rintro (_ | _ | _ | _ | _) hp <;> first | (cases hp; done) | simp -implicitDefEqProofs +decide only [go_sem, hlu]) ?_ ?_)
      · simp -implicitDefEqProofs +decide only [go_sem, hlu, ofH, sI, sV] <;> first | rfl | exact ⟨rfl, rfl⟩ | skip
      · simp -implicitDefEqProofs +decide only [go_sem, sV, sL, sI] <;> rfl
      · simp -implicitDefEqProofs +decide only [go_sem, sV]
    · obtain rfl : j = g.length := by omega
      rw [List.take_length]
      have hpl := pickG_length v g
      have hxq := pickG_mem (P := fun r => QB r 1000) hvq gz
      have cb := best_ok (bankU h id k mt ti) m id k op mn mt ti (pickG v g) (bankU_M hb) hmn (by have := Nat.mul_le_mul_right 64 hi; omega) (by omega) (by omega) hxq
      rw [bankU_U] at cb
      have hbp := bestF_pick mn (pickG v g) ⟨0, mt, ti⟩ ((pickG v g).length - 1)
      unfold doN at hst
      dsimp only at hst
      obtain ⟨⟨pk, mt', ti'⟩, hbs⟩ : ∃ s, bestF mn (pickG v g) ⟨0, mt, ti⟩ ((pickG v g).length - 1) = s := ⟨_, rfl⟩
      rw [hbs] at cb hst hbp
      dsimp only at cb hst hbp
      obtain ⟨y, hy⟩ := getI (show pk < (pickG v g).length by omega)
      have hyd : (pickG v g).getD pk 0 = y := by rw [List.getD_eq_getElem?_getD, hy]; rfl
      rw [hyd] at cb hst
      have cc := copyR_ok y ((hxq y (List.mem_of_getElem? hy)).mono (by decide))
      have htk : List.take g.length ((pickG v g).map vT) = (pickG v g).map vT := List.take_of_length_le (by rw [List.length_map, hpl]; exact Nat.le_refl _)
      have hlu' : ∀ d j, bankU h id k mt' ti' (.loc d j) = none := fun d j => bankU_hb hb _ rfl
      have hnb : i + 1 < big := by unfold big; omega
      have e1 : (vs.map vT).length = i := by rw [List.length_map, hdl.1]
      have e2 : (wh.map I).length = i := by rw [List.length_map, hdl.2]
      have e3 : vs.map vT ++ [.agg [.bool (neg1 y), sW (wordsOf y.num.natAbs), sW (wordsOf y.den), .int .u64 0, .int .i64 0]] = (vs ++ [y]).map vT := by rw [List.map_append]; rfl
      have e4 : wh.map I ++ [.int .i64 (pk : Int)] = (wh ++ [(pk : Int)]).map I := by rw [List.map_append]; rfl
      obtain ⟨vs', hvs'⟩ : ∃ l, vs ++ [y] = l := ⟨_, rfl⟩
      obtain ⟨wh', hwh'⟩ : ∃ l, wh ++ [(pk : Int)] = l := ⟨_, rfl⟩
      rw [hvs'] at e3 hst
      rw [hwh'] at e4 hst
      simp only [sV, vT_eq] at cb cc
      simp -implicitDefEqProofs +decide only [go_sem, hlu, ofH, d27, d28, d31, htk]
      refine CallG.pool _ Tryz.call73 cb hb2 (by rintro (_ | _ | _ | _ | _) hp <;> first | (cases hp; done) | simp -implicitDefEqProofs +decide only [go_sem, hlu]) ?_
      apply run_sound 200
      simp -implicitDefEqProofs +decide only [go_sem, hlu, hlu']
      refine CallG.pureS _ Tryz.call59 (cc) (by first | rfl | (simp only [go_sem]; done) | (simp only [go_sem]; rfl)) (by first | rfl | (simp only [go_sem]; done) | (simp only [go_sem]; rfl)) ?_
      apply run_sound 200
      simp -implicitDefEqProofs +decide only [go_sem, hlu, hlu', e1, e2, e3, e4, hnb, hwi]
      refine hJ (i + 1) _ (by omega) (by omega) (Wk.boxes _ _ (bankU_hb hb) rfl rfl ?_ (by rintro (_ | _ | _ | _ | _) hp <;> first | (cases hp; done) | simp -implicitDefEqProofs +decide only [go_sem, hst]) ?_ ?_)
      · simp -implicitDefEqProofs +decide only [go_sem, hlu, hlu', ofH, sI, sV, hst] <;> first | rfl | exact ⟨rfl, rfl⟩ | skip
      · simp -implicitDefEqProofs +decide only [go_sem, sV, sL, sI] <;> rfl
      · simp -implicitDefEqProofs +decide only [go_sem, sV]
  · obtain rfl : i = L.length := by omega
    rw [hs]
    simp -implicitDefEqProofs +decide only [go_sem, ofH]
    exact endF.row2 (.inr rfl) (by simp -implicitDefEqProofs +decide only [go_sem]; rfl) (by simp -implicitDefEqProofs +decide only [go_sem]; rfl) (by rw [List.length_map, hdl.1]) rfl (by simp -implicitDefEqProofs +decide only [go_sem]; rfl) (by simp -implicitDefEqProofs +decide only [go_sem]; rfl) (by rw [List.length_map, hdl.2]) rfl (by rintro (_ | _ | _ | _ | _) hp <;> first | (cases hp; done) | simp -implicitDefEqProofs +decide only [go_sem, hloc]) rfl
end Go.Fm
/- Reductions by sums, in the program. -/
namespace Go.Fm
open Go.Proofs
set_option maxRecDepth 100000
attribute [local irreducible] tiOf

structure Sst where
  vals : List Rat
  k : Nat
def sumG (v : List Rat) (g : List Int) : Rat := sumR ((pickG v g).headD 0) (pickG v g).tail
def sumN (v : List Rat) (g : List Int) (s : Sst) : Sst := ⟨s.vals ++ [sumG v g], s.k + (pickG v g).tail.length⟩
def sumF (v : List Rat) (L : List (List Int)) (k : Nat) : Nat → Sst
  | 0 => ⟨[], k⟩
  | i + 1 => sumN v (L.getD i []) (sumF v L k i)
theorem sumF_len (v : List Rat) (L : List (List Int)) (k : Nat) : ∀ i, (sumF v L k i).vals.length = i
  | 0 => rfl
  | i + 1 => by
    have := sumF_len v L k i
    unfold sumF sumN
    dsimp only
    rw [List.length_append, this]; rfl
theorem sumF_k {v : List Rat} {L : List (List Int)} {N k : Nat} (G : GL L N) : ∀ i, (sumF v L k i).k ≤ k + i * 64
  | 0 => Nat.le_refl _
  | i + 1 => by
    have h1 := sumF_k (v := v) (k := k) G i
    unfold sumF sumN
    dsimp only
    rw [List.length_tail, pickG_length]
    have : (L.getD i []).length ≤ 64 := by
      rw [List.getD_eq_getElem?_getD]
      cases hg : L[i]? with
      | none => simp
      | some g => exact (G.each g (List.mem_of_getElem? hg)).2.1
    rw [Nat.add_mul]; omega
theorem rep0_snoc (i : Nat) : (List.replicate i (0 : Int)).map I ++ [.int .i64 0] = (List.replicate (i + 1) (0 : Int)).map I := by rw [List.replicate_succ', List.map_append]; rfl

theorem doSum_ok (h : Heap) (m id k : Nat) (x : Atr) (d : List Int) (v : List Rat) (hb : ∀ l, Lab.pool l = false → h l = none) (hk : h (.obj id) = some (bankO k)) (hkb : k < 1000000)
    (hd : d.length < 1000000000) (hl : x.list.length < 9000000000000000000) (h0 : (redE 27 x d).2 = 0) (hv : (v.length : Int) = cnt d) (hvq : ∀ r ∈ v, QB r 1000) :
    Ret Tryz.prog 32 [.ptr id, .int .i64 27, x.T, argT d v] h m [.t (sV (sumF v (groupsL (marksI d.length (axesI 27 x)) d) k (groupsL (marksI d.length (axesI 27 x)) d).length).vals), .t (sI (List.replicate (groupsL (marksI d.length (axesI 27 x)) d).length 0))]
      (upd h (.obj id) (some (bankO (sumF v (groupsL (marksI d.length (axesI 27 x)) d) k (groupsL (marksI d.length (axesI 27 x)) d).length).k))) m := by
  obtain ⟨op, hope⟩ : ∃ op : Int, 27 = op := ⟨_, rfl⟩
  have hop27 : op = 27 := hope.symm
  rw [hope] at h0 ⊢
  have hloc : ∀ d j, h (.loc d j) = none := fun d j => hb _ rfl
  obtain ⟨_, hc, _, _⟩ := red0 h0
  have hG := grp_of hc (axesI op x)
  have c1 := redGroups_ok op x d hd hl h0
  have GG := GL_of hG
  have hcd : cnt d = prodL d := by unfold cnt; rw [if_pos hc]
  have hN := (chk0 hc).2.2
  have c2 := count_ok d hd
  have c3 := err_ok h m id k hb hk
  rw [show (prodL d).toNat = v.length by omega] at GG
  generalize groupsL (marksI d.length (axesI op x)) d = L at *
  have hL1 := GG.ne
  have hL64 := GG.len
  have dz : decide ((L.length : Int) = 0) = false := decide_eq_false (by omega)
  have dv : decide ((v.length : Int) ≠ cnt d) = false := decide_eq_false (by omega)
  have hlL : (L.map sI).length = L.length := by simp
  obtain ⟨a1, a2, a3, a4, a5, a6, a7, a8, ak, al⟩ := x
  have hu0 : upd h (.obj id) (some (bankO k)) = h := by
    funext l
    by_cases e : l = .obj id
    · subst e; rw [upd_same, hk]
    · rw [upd_ne _ _ _ _ e]
  have d28 : decide (op = 28) = false := decide_eq_false (by omega)
  have d27 : decide (op = 27) = true := decide_eq_true (by omega)
  refine Ret.intro Tryz.func32 rfl (rt := [8, 9]) rfl (by simp [Tryz.ntmps32]) (by decide) (sites := fun _ => false) (bank_hb hb) bank_keeps ?_
  unfold argT
  simp only [Atr.T, sI, I, sL] at c1 c2
  apply run_sound 200
  simp -implicitDefEqProofs +decide only [go_sem, hloc, Atr.T, I, sI, sV]
  refine CallG.pureS _ Tryz.call28 (c1) (by simp only [List.all_cons, List.all_nil, noPtr, noPtrL, noPtr_sW, noPtr_sI, noPtr_sV, noPtrL_U, noPtrL_I, noPtrL_vT, I, List.map_cons, List.map_nil, Bool.and_true, Bool.and_self]) (by first | rfl | (simp only [go_sem]; done) | (simp only [go_sem]; rfl)) ?_
  apply run_sound 200
  simp -implicitDefEqProofs +decide only [go_sem, hloc, sL, hlL]
  refine Goes.drawP mixed (Calm.of (by repeat first | exact Clean.und | refine Clean.upd ?_ rfl | refine Clean.upd ?_ (by simp only [cleanA, cleanL, ])) (by repeat first | exact HCalm.none | exact HCalm.hb hb | exact HCalm.hb (bank_hb hb) | refine HCalm.row ?_ | refine HCalm.box ?_ (by first | rfl | (simp only [cleanA, cleanL, ]; done) | assumption))) ?_
  simp -implicitDefEqProofs +decide only [go_sem, hloc, sL, hlL, dz, List.length_map]
  refine CallD.pure _ Tryz.call45 c2 (by first | rfl | (simp only [go_sem]; done) | (simp only [go_sem]; rfl)) (by first | rfl | (simp only [go_sem]; done) | (simp only [go_sem]; rfl)) ?_
  simp -implicitDefEqProofs +decide only [go_sem, hloc, dv]
  refine CallD.look _ Tryz.call46 c3 rfl hb (by rintro (_ | _ | _ | _ | _) hp <;> first | (cases hp; done) | simp -implicitDefEqProofs +decide only [go_sem, hloc]) ?_
  simp -implicitDefEqProofs +decide only [go_sem]
  refine ⟨.mk (by kernel_rfl), ?_⟩
  apply run_sound 200
  simp -implicitDefEqProofs +decide only [go_sem, hloc, d28]
  refine Goes.wk (Wk.nilRow (d := 12) (lab := .loc 101 0) (size := 5) (by simp -implicitDefEqProofs +decide only [go_sem]) (by simp -implicitDefEqProofs +decide only [go_sem, hloc]) rfl (by decide)) ?_
  refine Goes.wk (Wk.nilRow (d := 13) (lab := .loc 102 0) (size := 1) (by simp -implicitDefEqProofs +decide only [go_sem]) (by simp -implicitDefEqProofs +decide only [go_sem, hloc]) rfl (by decide)) ?_
  refine Goes.loop (X := Nat) (fun i => ⟨ofL [(0, .t (.ptr id)), (1, .t (.int .i64 op)), (7, .bp (.loc 7 0) 0), (12, .sl (.loc 101 0) i 0 i), (13, .sl (.loc 102 0) i 0 i), (48, .t (sL L)), (49, .t (.int .i64 L.length)), (50, .t (.int .i64 i))],
    ofH (upd h (.obj id) (some (bankO (sumF v L k i).k))) [(.loc 7 0, .box [.t (sI d), .t (sV v)]), (.loc 101 0, .arr 5 ((sumF v L k i).vals.map vT) i 0), (.loc 102 0, .arr 1 ((List.replicate i (0 : Int)).map I) i 0)], m⟩) (fun i => i ≤ L.length) (fun i => L.length - i) 0 ?_ (by omega) ?_
  · have e1 : sumF v L k 0 = ⟨[], k⟩ := rfl
    rw [e1]
    dsimp only
    rw [hu0]
    refine Wk.boxes _ _ hb rfl rfl ?_ (by rintro (_ | _ | _ | _ | _) hp <;> first | (cases hp; done) | simp -implicitDefEqProofs +decide only [go_sem, hloc]) ?_ ?_
    · simp -implicitDefEqProofs +decide only [go_sem, hloc, ofH, sI, sV, List.map_nil, List.replicate_zero] <;> first | rfl | exact ⟨rfl, rfl⟩ | skip
    · simp -implicitDefEqProofs +decide only [go_sem, sV, sL] <;> rfl
    · simp -implicitDefEqProofs +decide only [go_sem, sV]
  rintro i hi J hJ
  have hdl := sumF_len v L k i
  have hdm := sumF_k (v := v) (k := k) GG i
  have hst : sumF v L k (i + 1) = sumN v (L.getD i []) (sumF v L k i) := rfl
  obtain ⟨⟨vs, ki⟩, hs⟩ : ∃ s, sumF v L k i = s := ⟨_, rfl⟩
  rw [hs] at hdl hdm hst ⊢
  dsimp only at hdl hdm ⊢
  apply run_sound 200
  simp -implicitDefEqProofs +decide only [go_sem, sL]
  refine selP_dec (fun hc1 => ?_) (fun hc1 => ?_)
  · obtain ⟨g, hg⟩ := getI (show i < L.length by omega)
    have hgd : L.getD i [] = g := by rw [List.getD_eq_getElem?_getD, hg]; rfl
    obtain ⟨g1, g64, gz⟩ := GG.each g (List.mem_of_getElem? hg)
    rw [hgd] at hst
    have hb2 := bank_hb (id := id) (k := ki) hb
    have hlu : ∀ d j, upd h (.obj id) (some (bankO ki)) (.loc d j) = none := fun d j => hb2 _ rfl
    have hwi := wS (show i < 1000000000000 by omega)
    simp -implicitDefEqProofs +decide only [go_sem, hg, sI]
    refine Goes.wk (Wk.nilRow (d := 16) (lab := .loc 103 0) (size := 5) (by simp -implicitDefEqProofs +decide only [go_sem]) (by simp -implicitDefEqProofs +decide only [go_sem, hloc, ofH]) rfl (by decide)) ?_
    refine Goes.loop (X := Nat) (fun j => ⟨ofL [(0, .t (.ptr id)), (1, .t (.int .i64 op)), (7, .bp (.loc 7 0) 0), (12, .sl (.loc 101 0) i 0 i), (13, .sl (.loc 102 0) i 0 i), (16, .sl (.loc 103 0) j 0 j), (48, .t (sL L)), (49, .t (.int .i64 L.length)), (50, .t (.int .i64 i)), (54, .t (sI g)), (55, .t (.int .i64 g.length)), (56, .t (.int .i64 j))],
      ofH (upd h (.obj id) (some (bankO ki))) [(.loc 7 0, .box [.t (sI d), .t (sV v)]), (.loc 101 0, .arr 5 (vs.map vT) i 0), (.loc 102 0, .arr 1 ((List.replicate i (0 : Int)).map I) i 0), (.loc 103 0, .arr 5 ((pickG v (g.take j)).map vT) j 0)], m⟩) (fun j => j ≤ g.length) (fun j => g.length - j) 0 ?_ (by omega) ?_
    · refine Wk.boxes _ _ hb2 rfl rfl ?_ (by rintro (_ | _ | _ | _ | _) hp <;> first | (cases hp; done) | simp -implicitDefEqProofs +decide only [go_sem, hloc]) ?_ ?_
      · simp -implicitDefEqProofs +decide only [go_sem, hloc, ofH, sI, sV] <;> first | rfl | exact ⟨rfl, rfl⟩ | skip
      · simp -implicitDefEqProofs +decide only [go_sem, sV, sL, sI, List.length_map] <;> rfl
      · simp -implicitDefEqProofs +decide only [go_sem, sV]
    rintro j hj J2 hJ2
    apply run_sound 200
    simp -implicitDefEqProofs +decide only [go_sem, sI]
    refine selP_dec (fun hc2 => ?_) (fun hc2 => ?_)
    · obtain ⟨z, hz⟩ := getI (show j < g.length by omega)
      obtain ⟨n, rfl⟩ : ∃ n : Nat, z = (n : Int) := ⟨z.toNat, by have := gz z (List.mem_of_getElem? hz); omega⟩
      have hnv := gz _ (List.mem_of_getElem? hz)
      obtain ⟨y, hy⟩ := getI (show n < v.length by omega)
      have hwj := wS (show j < 1000000000000 by omega)
      have hnb : j + 1 < big := by unfold big; omega
      have hpl : ((pickG v (g.take j)).map vT).length = j := by rw [List.length_map, pickG_length, List.length_take]; omega
      have hsn := congrArg (List.map vT) (pickG_snoc hz hy)
      rw [List.map_append] at hsn
      have hsn : (pickG v (g.take j)).map vT ++ [.agg [.bool (neg1 y), sW (wordsOf y.num.natAbs), sW (wordsOf y.den), .int .u64 0, .int .i64 0]] = (pickG v (g.take (j + 1))).map vT := hsn
      simp -implicitDefEqProofs +decide only [go_sem, hz, I, ofH, sV]
      simp -implicitDefEqProofs +decide only [go_sem, hy, vT_eq, hloc, hpl, hnb, hsn, hwj, Int.toNat_natCast]
      refine hJ2 (j + 1) _ (by omega) (by omega) (Wk.boxes _ _ hb2 rfl rfl ?_ (by rintro (_ | _ | _ | _ | _) hp <;> first | (cases hp; done) | simp -implicitDefEqProofs +decide only [go_sem, hloc]) ?_ ?_)
      · simp -implicitDefEqProofs +decide only [go_sem, hloc, ofH, sI, sV] <;> first | rfl | exact ⟨rfl, rfl⟩ | skip
      · simp -implicitDefEqProofs +decide only [go_sem, sV, sL, sI] <;> rfl
      · simp -implicitDefEqProofs +decide only [go_sem, sV]
    · obtain rfl : j = g.length := by omega
      rw [List.take_length]
      have hpl := pickG_length v g
      have hxq := pickG_mem (P := fun r => QB r 1000) hvq gz
      obtain ⟨y0, rest, hyr⟩ : ∃ y0 rest, pickG v g = y0 :: rest := by
        cases hp : pickG v g with
        | nil => rw [hp] at hpl; simp at hpl; omega
        | cons a l => exact ⟨a, l, rfl⟩
      have hrl : rest.length + 1 = g.length := by rw [← hpl, hyr]; rfl
      have cb := sum_ok (upd h (.obj id) (some (bankO ki))) m id ki y0 rest hb2 (upd_same _ _ _) (by have := Nat.mul_le_mul_right 64 hi; omega) (by omega) (hxq y0 (by rw [hyr]; simp)) (fun r hr => hxq r (by rw [hyr]; simp [hr]))
      rw [obj_up, ← hyr] at cb
      unfold sumN sumG at hst
      dsimp only at hst
      rw [hyr, List.headD_cons, List.tail_cons] at hst
      have hyq := (sumR_QB (x := y0) (l := rest) (B := 1000) (hxq y0 (by rw [hyr]; simp)) (fun r hr => hxq r (by rw [hyr]; simp [hr])) rest.length).mono (show (rest.length + 1) * (1000 + 1) ≤ 10000000 by have := Nat.mul_le_mul_right (1000 + 1) (show rest.length + 1 ≤ 64 by omega); omega)
      rw [List.take_length] at hyq
      obtain ⟨y, hy⟩ : ∃ y, sumR y0 rest = y := ⟨_, rfl⟩
      rw [hy] at cb hst hyq
      have cc := copyR_ok y hyq
      have htk : List.take g.length ((pickG v g).map vT) = (pickG v g).map vT := List.take_of_length_le (by rw [List.length_map, hpl]; exact Nat.le_refl _)
      have hlu' : ∀ d j, upd h (.obj id) (some (bankO (ki + rest.length))) (.loc d j) = none := fun d j => bank_hb hb _ rfl
      generalize ki + rest.length = kj at *
      have hnb : i + 1 < big := by unfold big; omega
      have e1 : (vs.map vT).length = i := by rw [List.length_map, hdl]
      have e2 : ((List.replicate i (0 : Int)).map I).length = i := by simp
      have e3 : vs.map vT ++ [.agg [.bool (neg1 y), sW (wordsOf y.num.natAbs), sW (wordsOf y.den), .int .u64 0, .int .i64 0]] = (vs ++ [y]).map vT := by rw [List.map_append]; rfl
      have e4 := rep0_snoc i
      obtain ⟨vs', hvs'⟩ : ∃ l, vs ++ [y] = l := ⟨_, rfl⟩
      rw [hvs'] at e3 hst
      simp only [sV, vT_eq] at cb cc
      simp -implicitDefEqProofs +decide only [go_sem, hloc, ofH, d27, htk]
      refine CallG.pool _ Tryz.call71 cb hb2 (by rintro (_ | _ | _ | _ | _) hp <;> first | (cases hp; done) | simp -implicitDefEqProofs +decide only [go_sem, hloc]) ?_
      apply run_sound 200
      simp -implicitDefEqProofs +decide only [go_sem, hloc]
      refine CallG.pureS _ Tryz.call59 (cc) (by first | rfl | (simp only [go_sem]; done) | (simp only [go_sem]; rfl)) (by first | rfl | (simp only [go_sem]; done) | (simp only [go_sem]; rfl)) ?_
      apply run_sound 200
      simp -implicitDefEqProofs +decide only [go_sem, hloc, e1, e2, e3, e4, hnb, hwi]
      refine hJ (i + 1) _ (by omega) (by omega) (Wk.boxes _ _ (bank_hb hb) rfl rfl ?_ (by rintro (_ | _ | _ | _ | _) hp <;> first | (cases hp; done) | simp -implicitDefEqProofs +decide only [go_sem, hst]) ?_ ?_)
      · simp -implicitDefEqProofs +decide only [go_sem, hloc, ofH, sI, sV, hst] <;> first | rfl | exact ⟨rfl, rfl⟩ | skip
      · simp -implicitDefEqProofs +decide only [go_sem, sV, sL, sI] <;> rfl
      · simp -implicitDefEqProofs +decide only [go_sem, sV]
  · obtain rfl : i = L.length := by omega
    rw [hs]
    simp -implicitDefEqProofs +decide only [go_sem, ofH]
    exact endF.row2 (.inr rfl) (by simp -implicitDefEqProofs +decide only [go_sem]; rfl) (by simp -implicitDefEqProofs +decide only [go_sem]; rfl) (by rw [List.length_map, hdl]) rfl (by simp -implicitDefEqProofs +decide only [go_sem]; rfl) (by simp -implicitDefEqProofs +decide only [go_sem]; rfl) (by simp) rfl (by rintro (_ | _ | _ | _ | _) hp <;> first | (cases hp; done) | simp -implicitDefEqProofs +decide only [go_sem, hloc]) rfl
end Go.Fm
/- The laws on reductions: their own check. -/
namespace Go.Fm
open Go.Proofs
set_option maxRecDepth 100000
attribute [local irreducible] tiOf

theorem val27_ok (n : Nat) (h : n < 18446744073709551616) : Pure Tryz.prog 61 [.int .u64 n] [.t (vT (n : Rat))] := by
  have c := rVal_ok n h
  rw [vT_eq]
  rw [qT] at c
  have e1 : sW [n] = T.slice [T.int .u64 (n : Int)] := rfl
  have e2 : sW [1] = T.slice [T.int .u64 1] := rfl
  rw [e1, e2] at c
  refine Pure.introC Tryz.func61 rfl (rv := [.c 2 _]) rfl (by simp [Tryz.ntmps61]) (by decide) (sites := fun _ => false) ?_
  apply run_sound 200
  simp -implicitDefEqProofs +decide only [go_sem]
  refine CallG.pureS _ Tryz.call76 (c) (by first | rfl | (simp only [go_sem]; done) | (simp only [go_sem]; rfl)) (by first | rfl | (simp only [go_sem]; done) | (simp only [go_sem]; rfl)) ?_
  apply run_sound 200
  simp -implicitDefEqProofs +decide only [go_sem]
  exact endC.one (.inr rfl) (by first | rfl | (simp -implicitDefEqProofs +decide only [go_sem, valC, sW]; done) | (simp -implicitDefEqProofs +decide only [go_sem, valC, sW]; rfl)) (by first | rfl | (simp -implicitDefEqProofs +decide only [go_sem, sW]; done) | (simp -implicitDefEqProofs +decide only [go_sem, sW]; rfl)) (fun l hp => by cases l <;> first | rfl | cases hp) rfl
def at27 : Atr := ⟨0, 0, 0, 0, 0, 0, 0, 0, false, [0]⟩
def at29 : Atr := ⟨0, 0, 0, 0, 0, 0, 0, 0, false, []⟩
theorem axP_one {r : Nat} (h : 0 < r) : axP r [0] 1 := fun j a hj ha => by
  obtain rfl : j = 0 := by omega
  cases ha
  exact ⟨⟨Int.le_refl _, by omega⟩, by simp⟩
theorem red27 : (redE 27 at27 [2, 2]).2 = 0 := by
  unfold redE dropE
  rw [if_pos (by decide), if_neg (fun h => h (by decide)), if_pos (show axP [(2 : Int), 2].length (axesI 27 at27) (axesI 27 at27).length from axP_one (by decide))]
theorem red29 : (redE 29 at29 [3]).2 = 0 := by
  unfold redE dropE
  rw [if_pos (by decide), if_neg (fun h => h (by decide)), if_pos (show axP [(3 : Int)].length (axesI 29 at29) (axesI 29 at29).length from axP_one (by decide))]
theorem grp27 : groupsL (marksI [(2 : Int), 2].length (axesI 27 at27)) [2, 2] = [[0, 2], [1, 3]] := by decide +kernel
theorem grp29 : groupsL (marksI [(3 : Int)].length (axesI 29 at29)) [3] = [[0, 1, 2]] := by decide +kernel
theorem sum27 : (sumF ([1, 2, 3, 4].map fun n : Nat => (n : Rat)) [[0, 2], [1, 3]] 0 2).vals = ([4, 6].map fun n : Nat => (n : Rat)) := by decide +kernel
theorem do29 : (doF false ([3, 5, 5].map fun n : Nat => (n : Rat)) [[0, 1, 2]] 1).vals = ([5].map fun n : Nat => (n : Rat)) ∧ (doF false ([3, 5, 5].map fun n : Nat => (n : Rat)) [[0, 1, 2]] 1).which = [1] := by decide +kernel
theorem same27_ok : Pure Tryz.prog 25 [] [.t (.bool true)] := by
  have v1 := val27_ok 1 (by decide)
  have v2 := val27_ok 2 (by decide)
  have v3 := val27_ok 3 (by decide)
  have v4 := val27_ok 4 (by decide)
  have v5 := val27_ok 5 (by decide)
  have v6 := val27_ok 6 (by decide)
  have hq : ∀ l : List Nat, (∀ n ∈ l, n < 18446744073709551616) → ∀ r ∈ l.map (fun n : Nat => (n : Rat)), QB r 1 := fun l hl r hr => by
    obtain ⟨n, hn, rfl⟩ := List.mem_map.1 hr
    exact QB_nat n (hl n hn)
  have q1 := hq [1, 2, 3, 4] (by decide)
  have q2 := hq [3, 5, 5] (by decide)
  have q3 := hq [4, 6] (by decide)
  have q4 := hq [5] (by decide)
  have hb0 : ∀ l, Lab.pool l = false → (fun _ => none : Heap) l = none := fun _ _ => rfl
  have cn := bankNew_ok (fun _ => none) 0 hb0 rfl
  have d1 := doSum_ok (upd (fun _ => none) (.obj 0) (some (bankO 0))) 1 0 0 at27 [2, 2] ([1, 2, 3, 4].map fun n : Nat => (n : Rat)) (bank_hb hb0) (upd_same _ _ _) (by decide) (by decide) (by decide) red27 (by decide) (fun r hr => (q1 r hr).mono (by decide))
  rw [grp27, obj_up] at d1
  have e2 : [[(0 : Int), 2], [1, 3]].length = 2 := rfl
  rw [e2, sum27] at d1
  obtain ⟨k1, hk1⟩ : ∃ k1, (sumF ([1, 2, 3, 4].map fun n : Nat => (n : Rat)) [[0, 2], [1, 3]] 0 2).k = k1 := ⟨_, rfl⟩
  rw [hk1] at d1
  have d2 := doBest_ok (upd (fun _ => none) (.obj 0) (some (bankO k1))) 1 0 k1 29 false at29 [3] ([3, 5, 5].map fun n : Nat => (n : Rat)) (bank_hb hb0) (upd_same _ _ _) rfl (.inl rfl) rfl (by decide) (by decide) red29 (by decide) (fun r hr => (q2 r hr).mono (by decide))
  rw [grp29] at d2
  have e3 : [[(0 : Int), 1, 2]].length = 1 := rfl
  rw [e3, do29.1, do29.2] at d2
  obtain ⟨mt, hmt⟩ : ∃ mt, (doF false ([3, 5, 5].map fun n : Nat => (n : Rat)) [[0, 1, 2]] 1).met = mt := ⟨_, rfl⟩
  obtain ⟨ti, hti⟩ : ∃ ti, (doF false ([3, 5, 5].map fun n : Nat => (n : Rat)) [[0, 1, 2]] 1).tie = ti := ⟨_, rfl⟩
  rw [hmt, hti] at d2
  have ca := rAllR_ok ([4, 6].map fun n : Nat => (n : Rat)) ([4, 6].map fun n : Nat => (n : Rat)) (by decide) (by decide) (fun r hr => (q3 r hr).mono (by decide)) (fun r hr => (q3 r hr).mono (by decide))
  have cb := rAllR_ok ([5].map fun n : Nat => (n : Rat)) ([5].map fun n : Nat => (n : Rat)) (by decide) (by decide) (fun r hr => (q4 r hr).mono (by decide)) (fun r hr => (q4 r hr).mono (by decide))
  rw [decide_eq_true rfl] at ca cb
  have er : List.replicate 2 (0 : Int) = [0, 0] := rfl
  rw [er] at d1
  simp only [sV, sI, argT, List.map_cons, List.map_nil, I, Atr.T, at27] at d1 ca
  simp only [sV, sI, argT, List.map_cons, List.map_nil, I, Atr.T, at29] at d2 cb
  clear hk1 hmt hti q1 q2 q3 q4 hq
  generalize ((1 : Nat) : Rat) = r1 at *
  generalize ((2 : Nat) : Rat) = r2 at *
  generalize ((3 : Nat) : Rat) = r3 at *
  generalize ((4 : Nat) : Rat) = r4 at *
  generalize ((5 : Nat) : Rat) = r5 at *
  generalize ((6 : Nat) : Rat) = r6 at *
  simp only [vT_eq] at v1 v2 v3 v4 v5 v6 d1 d2 ca cb
  refine Pure.drop (h' := bankU (upd (fun _ => none) (.obj 0) (some (bankO k1))) 0 k1 mt ti) (m' := 1) ?_ rfl
  refine Ret.intro Tryz.func25 rfl (rt := [0]) rfl (by simp [Tryz.ntmps25]) (by decide) (sites := fun _ => false) (bankU_hb (bank_hb hb0)) (Keeps.none _) ?_
  apply run_sound 200
  simp -implicitDefEqProofs +decide only [go_sem]
  refine CallG.pool _ Tryz.call18 cn hb0 (by rintro (_ | _ | _ | _ | _) hp <;> first | (cases hp; done) | simp -implicitDefEqProofs +decide only [go_sem]) ?_
  apply run_sound 200
  simp -implicitDefEqProofs +decide only [go_sem]
  refine CallG.pureS _ Tryz.call61 (v1) (by first | rfl | (simp only [go_sem]; done) | (simp only [go_sem]; rfl)) (by first | rfl | (simp only [go_sem]; done) | (simp only [go_sem]; rfl)) ?_
  apply run_sound 200
  simp -implicitDefEqProofs +decide only [go_sem]
  refine CallG.pureS _ Tryz.call61 (v2) (by first | rfl | (simp only [go_sem]; done) | (simp only [go_sem]; rfl)) (by first | rfl | (simp only [go_sem]; done) | (simp only [go_sem]; rfl)) ?_
  apply run_sound 200
  simp -implicitDefEqProofs +decide only [go_sem]
  refine CallG.pureS _ Tryz.call61 (v3) (by first | rfl | (simp only [go_sem]; done) | (simp only [go_sem]; rfl)) (by first | rfl | (simp only [go_sem]; done) | (simp only [go_sem]; rfl)) ?_
  apply run_sound 200
  simp -implicitDefEqProofs +decide only [go_sem]
  refine CallG.pureS _ Tryz.call61 (v4) (by first | rfl | (simp only [go_sem]; done) | (simp only [go_sem]; rfl)) (by first | rfl | (simp only [go_sem]; done) | (simp only [go_sem]; rfl)) ?_
  apply run_sound 200
  simp -implicitDefEqProofs +decide only [go_sem]
  refine CallG.pool _ Tryz.call32 d1 (bank_hb hb0) (by rintro (_ | _ | _ | _ | _) hp <;> first | (cases hp; done) | simp -implicitDefEqProofs +decide only [go_sem]) ?_
  apply run_sound 200
  simp -implicitDefEqProofs +decide only [go_sem]
  refine CallG.pureS _ Tryz.call61 (v3) (by first | rfl | (simp only [go_sem]; done) | (simp only [go_sem]; rfl)) (by first | rfl | (simp only [go_sem]; done) | (simp only [go_sem]; rfl)) ?_
  apply run_sound 200
  simp -implicitDefEqProofs +decide only [go_sem]
  refine CallG.pureS _ Tryz.call61 (v5) (by first | rfl | (simp only [go_sem]; done) | (simp only [go_sem]; rfl)) (by first | rfl | (simp only [go_sem]; done) | (simp only [go_sem]; rfl)) ?_
  apply run_sound 200
  simp -implicitDefEqProofs +decide only [go_sem]
  refine CallG.pureS _ Tryz.call61 (v5) (by first | rfl | (simp only [go_sem]; done) | (simp only [go_sem]; rfl)) (by first | rfl | (simp only [go_sem]; done) | (simp only [go_sem]; rfl)) ?_
  apply run_sound 200
  simp -implicitDefEqProofs +decide only [go_sem]
  refine CallG.pool _ Tryz.call32 d2 (bank_hb hb0) (by rintro (_ | _ | _ | _ | _) hp <;> first | (cases hp; done) | simp -implicitDefEqProofs +decide only [go_sem]) ?_
  apply run_sound 200
  simp -implicitDefEqProofs +decide only [go_sem]
  refine CallG.pureS _ Tryz.call61 (v4) (by first | rfl | (simp only [go_sem]; done) | (simp only [go_sem]; rfl)) (by first | rfl | (simp only [go_sem]; done) | (simp only [go_sem]; rfl)) ?_
  apply run_sound 200
  simp -implicitDefEqProofs +decide only [go_sem]
  refine CallG.pureS _ Tryz.call61 (v6) (by first | rfl | (simp only [go_sem]; done) | (simp only [go_sem]; rfl)) (by first | rfl | (simp only [go_sem]; done) | (simp only [go_sem]; rfl)) ?_
  apply run_sound 200
  simp -implicitDefEqProofs +decide only [go_sem]
  refine CallG.pure _ Tryz.call20 (ca) (by simp only [List.all_cons, List.all_nil, noPtr, noPtrL, noPtr_sW, noPtr_sI, noPtr_sV, noPtrL_U, noPtrL_I, noPtrL_vT, I, List.map_cons, List.map_nil, Bool.and_true, Bool.and_self]) (by first | rfl | (simp only [go_sem]; done) | (simp only [go_sem]; rfl)) ?_
  apply run_sound 200
  simp -implicitDefEqProofs +decide only [go_sem]
  refine CallG.pureS _ Tryz.call61 (v5) (by first | rfl | (simp only [go_sem]; done) | (simp only [go_sem]; rfl)) (by first | rfl | (simp only [go_sem]; done) | (simp only [go_sem]; rfl)) ?_
  apply run_sound 200
  simp -implicitDefEqProofs +decide only [go_sem]
  refine CallG.pure _ Tryz.call20 (cb) (by simp only [List.all_cons, List.all_nil, noPtr, noPtrL, noPtr_sW, noPtr_sI, noPtr_sV, noPtrL_U, noPtrL_I, noPtrL_vT, I, List.map_cons, List.map_nil, Bool.and_true, Bool.and_self]) (by first | rfl | (simp only [go_sem]; done) | (simp only [go_sem]; rfl)) ?_
  apply run_sound 200
  simp -implicitDefEqProofs +decide only [go_sem]
  exact endF.vals [(0, .bool true)] (.inr rfl) (vals_t (by first | rfl | (simp -implicitDefEqProofs +decide only [go_sem]; done) | (simp -implicitDefEqProofs +decide only [go_sem]; rfl)) rfl vals_nil) (by rintro (_ | _ | _ | _ | _) hp <;> first | (cases hp; done) | simp -implicitDefEqProofs +decide only [go_sem]) rfl
end Go.Fm
/- Reductions' arguments read as data. -/
namespace Go.Fm
open Go.Proofs
set_option maxRecDepth 100000
attribute [local irreducible] tiOf

theorem dat_i {n : Nat} {a : T} (h : Typed Tryz.prog (n + 1) 3 [a]) : ∃ z : Int, a = .int .i64 z := by
  obtain ⟨z, _, hz⟩ := Dat.int Tryz.underlying3 (dat1 (n := n + 1) (t := 3) (a := a) (by simp [mkT, Tryz.underlying3]) h)
  exact ⟨z, hz⟩
theorem dat_attr {n : Nat} {a0 a1 a2 a3 a4 a5 a6 a7 a8 a9 : T} (h : Typed Tryz.prog (n + 3) 50 [a0, a1, a2, a3, a4, a5, a6, a7, a8, a9]) : ∃ x : Atr, x.list.length * 8 ≤ reachBytes ∧ a0 = .int .i64 x.n ∧ a1 = .int .i64 x.a ∧ a2 = .int .i64 x.b ∧ a3 = .int .i64 x.c ∧ a4 = .int .i64 x.p ∧ a5 = .int .i64 x.q ∧ a6 = .int .i64 x.r ∧ a7 = .int .i64 x.s ∧ a8 = .bool x.keep ∧ a9 = sI x.list := by
  simp only [Typed, Tryz.underlying50] at h
  obtain ⟨_, hf⟩ := h
  simp only [List.forall_mem_cons] at hf
  obtain ⟨h0, h1, h2, h3, h4, h5, h6, h7, h8, h9, _⟩ := hf
  have c1 : (Tryz.prog).cellsOf 3 = 1 := by kernel_rfl
  have c2 : (Tryz.prog).cellsOf 4 = 1 := by kernel_rfl
  have c3 : (Tryz.prog).cellsOf 22 = 1 := by kernel_rfl
  rw [c1] at h0 h1 h2 h3 h4 h5 h6 h7
  rw [c2] at h8
  rw [c3] at h9
  obtain ⟨z0, e0⟩ := dat_i (n := n + 1) (a := a0) h0
  obtain ⟨z1, e1⟩ := dat_i (n := n + 1) (a := a1) h1
  obtain ⟨z2, e2⟩ := dat_i (n := n + 1) (a := a2) h2
  obtain ⟨z3, e3⟩ := dat_i (n := n + 1) (a := a3) h3
  obtain ⟨z4, e4⟩ := dat_i (n := n + 1) (a := a4) h4
  obtain ⟨z5, e5⟩ := dat_i (n := n + 1) (a := a5) h5
  obtain ⟨z6, e6⟩ := dat_i (n := n + 1) (a := a6) h6
  obtain ⟨z7, e7⟩ := dat_i (n := n + 1) (a := a7) h7
  obtain ⟨k, e8⟩ := Dat.bool Tryz.underlying4 (dat1 (n := n + 2) (t := 4) (a := a8) (by simp [mkT, Tryz.underlying4]) h8)
  obtain ⟨l, hl, e9⟩ := dat_ints (dat1 (n := n + 2) (t := 22) (a := a9) (by simp [mkT, Tryz.underlying22]) h9)
  exact ⟨⟨z0, z1, z2, z3, z4, z5, z6, z7, k, l⟩, hl.1, e0, e1, e2, e3, e4, e5, e6, e7, e8, e9⟩
theorem dat_attrX {n : Nat} {x : T} (h : Dat Tryz.prog (n + 3) 50 x) : ∃ a : Atr, a.list.length * 8 ≤ reachBytes ∧ x = a.T := by
  obtain ⟨ts, h, rfl⟩ := h
  have hl : ts.length = 10 := by
    have h' := h
    simp only [Typed, Tryz.underlying50] at h'
    have := h'.1
    rwa [show (Tryz.prog).cellsOf 50 = 10 by kernel_rfl] at this
  match ts, hl with
  | [a0, a1, a2, a3, a4, a5, a6, a7, a8, a9], _ =>
    obtain ⟨a, hal, e0, e1, e2, e3, e4, e5, e6, e7, e8, e9⟩ := dat_attr (n := n) h
    refine ⟨a, hal, ?_⟩
    rw [e0, e1, e2, e3, e4, e5, e6, e7, e8, e9]
    simp only [mkT, Tryz.underlying50, Atr.T, I]
end Go.Fm
