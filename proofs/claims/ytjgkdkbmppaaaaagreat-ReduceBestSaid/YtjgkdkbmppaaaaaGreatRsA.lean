/- Groups of places: the plain law. -/
import Derived.Test.YtjgkdkbmppaaaaaGreatMsA
import Derived.Test.YtjgkdkbmppaaaaaGreatLsA
import Derived.Test.YtjgkdkbmppaaaaaGreatFsC
set_option linter.unusedVariables false
set_option linter.unusedSimpArgs false
namespace Go.Fm
open Go.Proofs
set_option maxRecDepth 100000
attribute [local irreducible] tiOf

theorem lex_lt {p q m x y : Int} (hx : 0 ≤ x ∧ x < m) (hy : 0 ≤ y ∧ y < m) : p * m + x < q * m + y ↔ p < q ∨ (p = q ∧ x < y) := by
  rcases Int.lt_trichotomy p q with h | h | h
  · have := Int.mul_le_mul_of_nonneg_right (show p + 1 ≤ q by omega) (show 0 ≤ m by omega)
    rw [Int.add_mul, Int.one_mul] at this
    omega
  · subst h; omega
  · have := Int.mul_le_mul_of_nonneg_right (show q + 1 ≤ p by omega) (show 0 ≤ m by omega)
    rw [Int.add_mul, Int.one_mul] at this
    omega
theorem place_inj' {d a b : List Int} (h1 : InD d a) (h2 : InD d b) : ∀ i, i ≤ d.length → placeI (d.take i) (a.take i) = placeI (d.take i) (b.take i) → a.take i = b.take i
  | 0, _, _ => by simp
  | i + 1, hi, h => by
    obtain ⟨m, hm⟩ := getI (show i < d.length by omega)
    obtain ⟨x, hx⟩ := getI (show i < a.length by have := h1.l; omega)
    obtain ⟨y, hy⟩ := getI (show i < b.length by have := h2.l; omega)
    have b1 := h1.b i x m hx hm
    have b2 := h2.b i y m hy hm
    rw [placeI_snoc hm hx, placeI_snoc hm hy] at h
    have g1 := (lex_lt (p := placeI (d.take i) (a.take i)) (q := placeI (d.take i) (b.take i)) b1 b2)
    have g2 := (lex_lt (p := placeI (d.take i) (b.take i)) (q := placeI (d.take i) (a.take i)) b2 b1)
    have e : placeI (d.take i) (a.take i) = placeI (d.take i) (b.take i) := by omega
    have exy : x = y := by omega
    rw [List.take_add_one, List.take_add_one, hx, hy, place_inj' h1 h2 i (by omega) e, exy]
theorem place_inj {d a b : List Int} (h1 : InD d a) (h2 : InD d b) (h : placeI d a = placeI d b) : a = b := by
  have := place_inj' h1 h2 d.length (Nat.le_refl _) (by rw [placeI_take h1.l, placeI_take h2.l]; exact h)
  rwa [List.take_of_length_le (by rw [h1.l]; exact Nat.le_refl _), List.take_of_length_le (by rw [h2.l]; exact Nat.le_refl _)] at this
/-- A place's number, from its digits. -/
theorem place_digL {d : List Int} (hc : chk d = 0) {n : Int} (h0 : 0 ≤ n) (hn : n < prodL d) : placeI d (digL d n) = n := by
  obtain ⟨_, hd, _, _⟩ := chk0 hc
  have key : ∀ i, i ≤ d.length → placeI (d.take i) ((digL d n).take i) = n / prodL (d.drop i) := fun i => by
    induction i with
    | zero =>
      intro _
      rw [List.drop_zero, Int.ediv_eq_zero_of_lt h0 hn]
      simp [placeI]
    | succ i ih =>
      intro hi
      obtain ⟨m, hm⟩ := getI (show i < d.length by omega)
      have hm1 := hd m (List.mem_of_getElem? hm)
      rw [placeI_snoc hm (digL_get (by omega)), ih (by omega), prodL_drop hm, Int.mul_comm m, ← Int.ediv_ediv_of_nonneg (by have := prodL_pos (d := d.drop (i + 1)) fun y hy => hd y (List.mem_of_mem_drop hy); omega)]
      unfold digit
      rw [List.getD_eq_getElem?_getD, hm, Option.getD_some, Int.mul_comm, Int.mul_ediv_add_emod]
  have := key d.length (Nat.le_refl _)
  rw [placeI_take (digL_length d n), List.drop_length] at this
  rw [this]
  unfold prodL; simp
theorem digL_place {d a : List Int} (h : InD d a) : digL d (placeI d a) = a := by
  have hb := h.bnd d.length (Nat.le_refl _)
  rw [placeI_take h.l, List.take_length] at hb
  exact place_inj (digit_in h.c) h (place_digL h.c hb.1 hb.2)

/-- Dims with 1 at some axes; places with 0 there. -/
def keptL (mk : List Bool) (d : List Int) : List Int := (d.zip mk).map fun p => if p.2 = true then 1 else p.1
def zeroL (mk : List Bool) (a : List Int) : List Int := (a.zip mk).map fun p => if p.2 = true then 0 else p.1
theorem keptL_length {mk : List Bool} {d : List Int} (h : mk.length = d.length) : (keptL mk d).length = d.length := by simp [keptL]; omega
theorem zeroL_length {mk : List Bool} {a : List Int} (h : mk.length = a.length) : (zeroL mk a).length = a.length := by simp [zeroL]; omega
theorem keptL_get {mk : List Bool} {d : List Int} {i : Nat} {m : Int} {b : Bool} (hm : d[i]? = some m) (hb : mk[i]? = some b) : (keptL mk d)[i]? = some (if b = true then 1 else m) := by
  unfold keptL; rw [List.getElem?_map, (List.getElem?_zip_eq_some (z := (m, b))).2 ⟨hm, hb⟩]; rfl
theorem zeroL_get {mk : List Bool} {a : List Int} {i : Nat} {x : Int} {b : Bool} (hx : a[i]? = some x) (hb : mk[i]? = some b) : (zeroL mk a)[i]? = some (if b = true then 0 else x) := by
  unfold zeroL; rw [List.getElem?_map, (List.getElem?_zip_eq_some (z := (x, b))).2 ⟨hx, hb⟩]; rfl
theorem kept_chk {mk : List Bool} {d : List Int} (hc : chk d = 0) (hl : mk.length = d.length) : chk (keptL mk d) = 0 ∧ prodL (keptL mk d) ≤ prodL d := by
  obtain ⟨h1, h2, h3, h4⟩ := chk0 hc
  have hge : ∀ x ∈ keptL mk d, 1 ≤ x := fun x hx => by
    unfold keptL at hx
    obtain ⟨p, hp, rfl⟩ := List.mem_map.1 hx
    have := h2 p.1 (List.of_mem_zip hp).1
    split <;> omega
  have key : ∀ i, i ≤ d.length → prodL ((keptL mk d).take i) ≤ prodL (d.take i) := fun i => by
    induction i with
    | zero => intro _; simp
    | succ i ih =>
      intro hi
      obtain ⟨m, hm⟩ := getI (show i < d.length by omega)
      obtain ⟨b, hb⟩ := getI (show i < mk.length by omega)
      have hm1 := h2 m (List.mem_of_getElem? hm)
      rw [prodL_snoc hm, prodL_snoc (keptL_get hm hb)]
      have h5 := ih (by omega)
      have h6 := prodL_pos (d := (keptL mk d).take i) fun y hy => hge y (List.mem_of_mem_take hy)
      refine Int.le_trans (Int.mul_le_mul_of_nonneg_left (show (if b = true then 1 else m) ≤ m by split <;> omega) (by omega)) (Int.mul_le_mul_of_nonneg_right h5 (by omega))
  have hle := key d.length (Nat.le_refl _)
  rw [List.take_length, List.take_of_length_le (by rw [keptL_length hl]; exact Nat.le_refl _)] at hle
  refine ⟨?_, hle⟩
  unfold chk
  rw [if_neg (by rw [keptL_length hl]; omega), if_neg (by rintro ⟨x, hx, h⟩; have := hge x hx; omega), if_neg (by omega)]
theorem zeroL_in {mk : List Bool} {d a : List Int} (h : InD d a) (hl : mk.length = d.length) : InD (keptL mk d) (zeroL mk a) ∧ InD d (zeroL mk a) := by
  have hla := h.l
  have hg : ∀ (i : Nat) (x : Int), (zeroL mk a)[i]? = some x → ∃ y m b, a[i]? = some y ∧ d[i]? = some m ∧ mk[i]? = some b ∧ x = if b = true then 0 else y := fun i x hx => by
    have hi := (List.getElem?_eq_some_iff.1 hx).1
    rw [zeroL_length (by omega)] at hi
    obtain ⟨y, hy⟩ := getI hi
    obtain ⟨m, hm⟩ := getI (show i < d.length by omega)
    obtain ⟨b, hb⟩ := getI (show i < mk.length by omega)
    rw [zeroL_get hy hb] at hx
    exact ⟨y, m, b, hy, hm, hb, (Option.some.inj hx).symm⟩
  refine ⟨⟨(kept_chk h.c hl).1, by rw [zeroL_length (by omega), keptL_length hl, hla], fun i x m' hx hm' => ?_⟩, ⟨h.c, by rw [zeroL_length (by omega), hla], fun i x m' hx hm' => ?_⟩⟩
  · obtain ⟨y, m, b, hy, hm, hb, rfl⟩ := hg i x hx
    rw [keptL_get hm hb] at hm'
    cases hm'
    have := h.b i y m hy hm
    split <;> omega
  · obtain ⟨y, m, b, hy, hm, hb, rfl⟩ := hg i x hx
    rw [hm] at hm'
    have e := Option.some.inj hm'
    have := h.b i y m hy hm
    split <;> omega
theorem kept_in {mk : List Bool} {d a : List Int} (hc : chk d = 0) (hl : mk.length = d.length) (h : InD (keptL mk d) a) : InD d a ∧ zeroL mk a = a := by
  have hla := h.l
  rw [keptL_length hl] at hla
  obtain ⟨_, h2, _, _⟩ := chk0 hc
  have hg : ∀ (i : Nat) (x m : Int) (b : Bool), a[i]? = some x → d[i]? = some m → mk[i]? = some b → 0 ≤ x ∧ x < (if b = true then 1 else m) := fun i x m b hx hm hb => h.b i x _ hx (keptL_get hm hb)
  refine ⟨⟨hc, hla, fun i x m hx hm => ?_⟩, List.ext_getElem? fun i => ?_⟩
  · obtain ⟨b, hb⟩ := getI (show i < mk.length by have := (List.getElem?_eq_some_iff.1 hm).1; omega)
    have h5 := hg i x m b hx hm hb
    have h6 := h2 m (List.mem_of_getElem? hm)
    cases b
    · exact h5
    · simp only [if_true] at h5; omega
  · rcases Nat.lt_or_ge i a.length with g | g
    · obtain ⟨x, hx⟩ := getI g
      obtain ⟨m, hm⟩ := getI (show i < d.length by omega)
      obtain ⟨b, hb⟩ := getI (show i < mk.length by omega)
      have := hg i x m b hx hm hb
      rw [zeroL_get hx hb, hx]
      cases b
      · rfl
      · simp only [if_true] at this ⊢
        congr 1; omega
    · rw [List.getElem?_eq_none g, List.getElem?_eq_none (by rw [zeroL_length (by omega)]; exact g)]

/-- Are places alike but at some axes? -/
def alikeB (mk : List Bool) (a b : List Int) : Bool := decide (zeroL mk a = zeroL mk b)
/-- Which group an element is in. -/
def keyG (mk : List Bool) (d : List Int) (n : Nat) : Nat := (placeI (keptL mk d) (zeroL mk (digL d (n : Int)))).toNat
def firstG (mk : List Bool) (d : List Int) (k : Nat) : Nat := (placeI d (digL (keptL mk d) (k : Int))).toNat
structure Grp (mk : List Bool) (d : List Int) : Prop where
  c : chk d = 0
  l : mk.length = d.length
section
variable {mk : List Bool} {d : List Int} (G : Grp mk d)
include G
theorem Grp.key_eq (n : Nat) : placeI (keptL mk d) (zeroL mk (digL d (n : Int))) = (keyG mk d n : Nat) ∧ (keyG mk d n : Int) < prodL (keptL mk d) := by
  have h := (zeroL_in (digit_in (n := (n : Int)) G.c) G.l).1
  have hb := h.bnd _ (Nat.le_refl _)
  rw [placeI_take h.l, List.take_length] at hb
  unfold keyG
  rw [Int.toNat_of_nonneg hb.1]
  exact ⟨rfl, hb.2⟩
theorem Grp.alike (i k : Nat) : alikeB mk (digL d (i : Int)) (digL d (k : Int)) = decide (keyG mk d i = keyG mk d k) := by
  have h1 := (G.key_eq i).1
  have h2 := (G.key_eq k).1
  unfold alikeB
  refine decide_eq_decide.2 ⟨fun h => ?_, fun h => ?_⟩
  · rw [h] at h1; omega
  · exact place_inj (zeroL_in (digit_in G.c) G.l).1 (zeroL_in (digit_in G.c) G.l).1 (by omega)
theorem Grp.first {k : Nat} (hk : (k : Int) < prodL (keptL mk d)) : placeI d (digL (keptL mk d) (k : Int)) = (firstG mk d k : Nat) ∧ (firstG mk d k : Int) < prodL d ∧ keyG mk d (firstG mk d k) = k := by
  have hc := (kept_chk G.c G.l).1
  obtain ⟨h1, h2⟩ := kept_in G.c G.l (digit_in (n := (k : Int)) hc)
  have hb := h1.bnd _ (Nat.le_refl _)
  rw [placeI_take h1.l, List.take_length] at hb
  have e : placeI d (digL (keptL mk d) (k : Int)) = (firstG mk d k : Nat) := by unfold firstG; rw [Int.toNat_of_nonneg hb.1]
  refine ⟨e, by omega, ?_⟩
  have h3 := (G.key_eq (firstG mk d k)).1
  rw [← e, digL_place h1, h2, place_digL hc (by omega) hk] at h3
  omega
end
/-- The groups. -/
def grpL (mk : List Bool) (d : List Int) (n k : Nat) : List Int := ((List.range n).filter fun i => decide (keyG mk d i = k)).map fun (i : Nat) => (i : Int)
def groupsL (mk : List Bool) (d : List Int) : List (List Int) := (List.range (prodL (keptL mk d)).toNat).map (grpL mk d (prodL d).toNat)
/-- Elements that are the first of theirs. -/
def isFirst (mk : List Bool) (d : List Int) (i : Nat) : Bool := (List.range (prodL d).toNat).all fun k => !alikeB mk (digL d (i : Int)) (digL d (k : Int)) || decide (i ≤ k)
end Go.Fm
/- Axes: which are named. -/
namespace Go.Fm
open Go.Proofs
set_option maxRecDepth 100000
attribute [local irreducible] tiOf

theorem wS9 {n : Nat} (h : n < 9000000000000000000) : IntKind.wrap .i64 ((n : Int) + 1) = ((n + 1 : Nat) : Int) := by rw [w64] <;> omega
/-- The axes along which a primitive goes. -/
def axesI (op : Int) (x : Atr) : List Int := if op = 27 ∨ op = 28 then x.list else [x.n]
theorem axes_ok (op : Int) (x : Atr) : Pure Tryz.prog 63 [.int .i64 op, x.T] [.t (sI (axesI op x))] := by
  refine Pure.intro Tryz.func63 rfl (rt := [4]) rfl (by simp [Tryz.ntmps63]) (by decide) (sites := fun _ => false) ?_
  apply run_sound 200
  obtain ⟨a1, a2, a3, a4, a5, a6, a7, a8, ak, al⟩ := x
  unfold axesI
  simp -implicitDefEqProofs +decide only [go_sem, Atr.T, I, sI]
  by_cases h1 : op = 27
  · subst h1
    rw [if_pos (.inl rfl)]
    simp -implicitDefEqProofs +decide only [go_sem]
    exact endF.vals [(4, .slice (al.map I))] (.inr rfl) (vals_t (by simp -implicitDefEqProofs +decide only [go_sem] <;> rfl) rfl vals_nil) (fun l hp => by cases l <;> first | rfl | cases hp) rfl
  · have d1 : decide (op = 27) = false := decide_eq_false h1
    by_cases h2 : op = 28
    · subst h2
      rw [if_pos (.inr rfl)]
      simp -implicitDefEqProofs +decide only [go_sem]
      exact endF.vals [(4, .slice (al.map I))] (.inr rfl) (vals_t (by simp -implicitDefEqProofs +decide only [go_sem] <;> rfl) rfl vals_nil) (fun l hp => by cases l <;> first | rfl | cases hp) rfl
    · have d2 : decide (op = 28) = false := decide_eq_false h2
      rw [if_neg (fun h => h.elim h1 h2)]
      simp -implicitDefEqProofs +decide only [go_sem, d1, d2]
      exact endF.row1 (.inr rfl) (by simp -implicitDefEqProofs +decide only [go_sem]; rfl) (by simp -implicitDefEqProofs +decide only [go_sem]; rfl) rfl (fun l hp => by cases l <;> first | rfl | cases hp) rfl
/-- Axes up to one are right: in bounds, and none twice. -/
def axP (r : Nat) (ax : List Int) (i : Nat) : Prop := ∀ (j : Nat) (a : Int), j < i → ax[j]? = some a → (0 ≤ a ∧ a < r) ∧ a ∉ ax.take j
theorem axP_zero (r : Nat) (ax : List Int) : axP r ax 0 := fun j a h => absurd h (Nat.not_lt_zero j)
theorem axP_succ {r : Nat} {ax : List Int} {i : Nat} {a : Int} (h : axP r ax i) (hx : ax[i]? = some a) (ha : (0 ≤ a ∧ a < r) ∧ a ∉ ax.take i) : axP r ax (i + 1) := fun j b hj hb => by
  rcases Nat.lt_or_ge j i with g | g
  · exact h j b g hb
  · obtain rfl : j = i := by omega
    rw [hx] at hb; cases hb; exact ha
theorem axP_no {r : Nat} {ax : List Int} {i : Nat} {a : Int} (hx : ax[i]? = some a) (ha : ¬ ((0 ≤ a ∧ a < r) ∧ a ∉ ax.take i)) : ¬ axP r ax ax.length := fun h => ha (h i a (List.getElem?_eq_some_iff.1 hx).1 hx)
def mkB (ax : List Int) (j : Nat) : Bool := decide (ax.length = 0) || decide ((j : Int) ∈ ax)
def marksI (r : Nat) (ax : List Int) : List Bool := (List.range r).map (mkB ax)
theorem marksI_length (r : Nat) (ax : List Int) : (marksI r ax).length = r := by simp [marksI]
end Go.Fm
/- Axes, marked. -/
namespace Go.Fm
open Go.Proofs
set_option maxRecDepth 100000
attribute [local irreducible] tiOf

def marksP (r : Nat) (ax : List Int) (i : Nat) : List Bool := (List.range r).map fun (j : Nat) => decide ((j : Int) ∈ ax.take i)
theorem marksP_length (r : Nat) (ax : List Int) (i : Nat) : (marksP r ax i).length = r := by simp [marksP]
theorem marksP_get {r : Nat} {ax : List Int} {i k : Nat} (h : k < r) : (marksP r ax i)[k]? = some (decide ((k : Int) ∈ ax.take i)) := by simp [marksP, h]
theorem marksP_zero (r : Nat) (ax : List Int) : marksP r ax 0 = List.replicate r false := by
  apply List.ext_getElem?
  intro k
  rcases Nat.lt_or_ge k r with h | h
  · rw [marksP_get h, List.getElem?_replicate, if_pos h]; simp
  · rw [List.getElem?_eq_none (by rw [marksP_length]; exact h), List.getElem?_eq_none (by simpa using h)]
theorem marksP_set {r : Nat} {ax : List Int} {i k : Nat} (hx : ax[i]? = some (k : Int)) (hk : k < r) : (marksP r ax i).set k true = marksP r ax (i + 1) := by
  apply List.ext_getElem?
  intro j
  rcases Nat.lt_or_ge j r with h | h
  · rw [List.getElem?_set, marksP_get h, marksP_get h, marksP_length, List.take_add_one, hx]
    by_cases e : k = j
    · subst e; rw [if_pos rfl, if_pos hk]; simp
    · rw [if_neg e]
      congr 1
      refine decide_eq_decide.2 ?_
      rw [List.mem_append]
      simp
      omega
  · rw [List.getElem?_eq_none (by simp [marksP_length]; exact h), List.getElem?_eq_none (by rw [marksP_length]; exact h)]
theorem marksP_all {r : Nat} {ax : List Int} (h : ax.length ≠ 0) : marksP r ax ax.length = marksI r ax := by
  unfold marksP marksI
  refine List.map_congr_left fun j _ => ?_
  unfold mkB
  rw [decide_eq_false h, List.take_length]; rfl
def fillP (r n : Nat) : List Bool := (List.range r).map fun (j : Nat) => decide (j < n)
theorem fillP_length (r n : Nat) : (fillP r n).length = r := by simp [fillP]
theorem fillP_get {r n k : Nat} (h : k < r) : (fillP r n)[k]? = some (decide (k < n)) := by simp [fillP, h]
theorem fillP_set {r n : Nat} (h : n < r) : (fillP r n).set n true = fillP r (n + 1) := by
  apply List.ext_getElem?
  intro j
  rcases Nat.lt_or_ge j r with g | g
  · rw [List.getElem?_set, fillP_get g, fillP_get g, fillP_length]
    by_cases e : n = j
    · subst e; rw [if_pos rfl, if_pos h]; simp
    · rw [if_neg e]
      congr 1
      exact decide_eq_decide.2 (by omega)
  · rw [List.getElem?_eq_none (by simp [fillP_length]; exact g), List.getElem?_eq_none (by rw [fillP_length]; exact g)]
theorem fillP_zero {r : Nat} {ax : List Int} (h : ax.length = 0) : fillP r 0 = marksP r ax ax.length := by
  unfold fillP marksP
  refine List.map_congr_left fun j _ => ?_
  obtain rfl := List.eq_nil_of_length_eq_zero h
  simp
theorem fillP_all {r : Nat} {ax : List Int} (h : ax.length = 0) : fillP r r = marksI r ax := by
  unfold fillP marksI
  refine List.map_congr_left fun j hj => ?_
  unfold mkB
  rw [decide_eq_true h, decide_eq_true (List.mem_range.1 hj)]; rfl

theorem axesS_gen (r : Nat) (ax : List Int) (rs : List RC) (hr : r ≤ 6) (hl : ax.length < 9000000000000000000) (hno : ¬ axP r ax ax.length → rs = [.t (.slice []), .t (.int .i64 10)]) (hok : axP r ax ax.length → rs = [.t (sB (marksI r ax)), .t (.int .i64 0)]) :
    Pure Tryz.prog 66 [.int .i64 r, sI ax] rs := by
  have hr0 : decide ((r : Int) < 0) = false := decide_eq_false (by omega)
  have hr6 : decide ((6 : Int) < r) = false := decide_eq_false (by omega)
  have hlb : r < big := by unfold big; omega
  have hlb2 : (0 : Int) ≤ r := by omega
  have hrep : List.replicate r (T.bool false) = (marksP r ax 0).map T.bool := by rw [marksP_zero, List.map_replicate]
  refine Pure.intro Tryz.func66 rfl (rt := [4, 5]) rfl (by simp [Tryz.ntmps66]) (by decide) (sites := fun _ => false) ?_
  apply run_sound 200
  simp -implicitDefEqProofs +decide only [go_sem, sI, hr0, hr6, hlb, hlb2, hrep, Int.toNat_natCast]
  refine Goes.loop (X := Nat) (fun i => ⟨ofL [(0, .t (.int .i64 r)), (1, tI ax), (6, .sl (.loc 17 0) 0 0 r), (18, tI ax), (19, .t (.int .i64 ax.length)), (20, .t (.int .i64 i))], ofH (fun _ => none) [(.loc 17 0, .arr 1 ((marksP r ax i).map T.bool) 0 0)], 0⟩) (fun i => i ≤ ax.length ∧ axP r ax i) (fun i => ax.length - i) 0 ?_ ⟨Nat.zero_le _, axP_zero r ax⟩ ?_
  · exact (Wk.rows _ _ (fun _ _ => rfl) rfl rfl (by simp -implicitDefEqProofs +decide only [go_sem, ofH, tW, sW] <;> first | rfl | exact ⟨rfl, rfl⟩ | skip) (fun l hp => by cases l <;> first | rfl | cases hp) (by simp -implicitDefEqProofs +decide only [go_sem, tI, sI, tW, sW] <;> first | rfl | skip) (by simp -implicitDefEqProofs +decide only [go_sem, tI, sI, tW, sW]))
  rintro i ⟨hi, hax⟩ J hJ
  apply run_sound 200
  simp -implicitDefEqProofs +decide only [go_sem, tI, sI]
  have hml := marksP_length r ax i
  refine selP_dec (fun hc => ?_) (fun hc => ?_)
  · obtain ⟨a, ha⟩ := getI (show i < ax.length by omega)
    have hw := wS9 (show i < 9000000000000000000 by omega)
    have hbad : ∀ h : ¬ ((0 ≤ a ∧ a < r) ∧ a ∉ ax.take i), rs = [.t (.slice []), .t (.int .i64 10)] := fun h => hno (axP_no ha h)
    by_cases h1 : a < 0
    · have d1 : decide (a < 0) = true := decide_eq_true h1
      rw [hbad (by omega)]
      simp -implicitDefEqProofs +decide only [go_sem, ha, I, d1]
      exact endF.vals [(4, .slice []), (5, .int .i64 10)] (.inr rfl) (vals_n (by simp -implicitDefEqProofs +decide only [go_sem]) (vals_t (by simp -implicitDefEqProofs +decide only [go_sem] <;> rfl) rfl vals_nil)) (fun l hp => by cases l <;> first | rfl | cases hp) rfl
    · have d1 : decide (a < 0) = false := decide_eq_false h1
      by_cases h2 : (r : Int) ≤ a
      · have d2 : decide ((r : Int) ≤ a) = true := decide_eq_true h2
        rw [hbad (by omega)]
        simp -implicitDefEqProofs +decide only [go_sem, ha, I, d1, d2]
        exact endF.vals [(4, .slice []), (5, .int .i64 10)] (.inr rfl) (vals_n (by simp -implicitDefEqProofs +decide only [go_sem]) (vals_t (by simp -implicitDefEqProofs +decide only [go_sem] <;> rfl) rfl vals_nil)) (fun l hp => by cases l <;> first | rfl | cases hp) rfl
      · have d2 : decide ((r : Int) ≤ a) = false := decide_eq_false h2
        obtain ⟨k, rfl⟩ : ∃ k : Nat, a = (k : Int) := ⟨a.toNat, by omega⟩
        have hk : k < r := by omega
        have d2 : decide (r ≤ k) = false := decide_eq_false (by omega)
        have hk0' : (0 : Int) ≤ (k : Int) := by omega
        have hk0 : ¬ (k : Int) < 0 := by omega
        have hgk : ((marksP r ax i).map T.bool)[k]? = some (.bool (decide ((k : Int) ∈ ax.take i))) := by rw [List.getElem?_map, marksP_get hk]; rfl
        by_cases h3 : (k : Int) ∈ ax.take i
        · have d3 : decide ((k : Int) ∈ ax.take i) = true := decide_eq_true h3
          rw [d3] at hgk
          rw [hbad (fun h => h.2 h3)]
          simp -implicitDefEqProofs +decide only [go_sem, ha, I, d1, d2, hk, hk0, hgk, ofH, Int.toNat_natCast, Nat.zero_add]
          exact endF.vals [(4, .slice []), (5, .int .i64 10)] (.inr rfl) (vals_n (by simp -implicitDefEqProofs +decide only [go_sem]) (vals_t (by simp -implicitDefEqProofs +decide only [go_sem] <;> rfl) rfl vals_nil)) (fun l hp => by cases l <;> first | rfl | cases hp) rfl
        · have d3 : decide ((k : Int) ∈ ax.take i) = false := decide_eq_false h3
          rw [d3] at hgk
          have hst : ((marksP r ax i).map T.bool).set k (.bool true) = (marksP r ax (i + 1)).map T.bool := by rw [← marksP_set ha hk, List.map_set]
          simp -implicitDefEqProofs +decide only [go_sem, ha, I, d1, d2, hk, hk0, hgk, hst, hw, ofH, Int.toNat_natCast, Nat.zero_add]
          refine hJ (i + 1) _ ⟨by omega, axP_succ hax ha ⟨⟨by omega, by omega⟩, h3⟩⟩ (by omega) (Wk.rows _ _ (fun _ _ => rfl) rfl rfl (by simp -implicitDefEqProofs +decide only [go_sem, ofH, tW, sW] <;> first | rfl | exact ⟨rfl, rfl⟩ | skip) (fun l hp => by cases l <;> first | rfl | cases hp) (by simp -implicitDefEqProofs +decide only [go_sem, tI, sI, tW, sW] <;> first | rfl | skip) (by simp -implicitDefEqProofs +decide only [go_sem, tI, sI, tW, sW]))
  obtain rfl : i = ax.length := by omega
  rw [hok hax]
  by_cases h0 : ax.length = 0
  · have d0 : decide ((ax.length : Int) = 0) = true := decide_eq_true (by omega)
    have hf0 : (marksP r ax ax.length).map T.bool = (fillP r 0).map T.bool := by rw [fillP_zero h0]
    simp -implicitDefEqProofs +decide only [go_sem, d0, ofH]
    refine Goes.loop (X := Nat) (fun n => ⟨ofL [(6, .sl (.loc 17 0) 0 0 r), (45, .t (.int .i64 r)), (46, .t (.int .i64 n))], ofH (fun _ => none) [(.loc 17 0, .arr 1 ((fillP r n).map T.bool) 0 0)], 0⟩) (fun n => n ≤ r) (fun n => r - n) 0 ?_ (by omega) ?_
    · exact (Wk.rows _ _ (fun _ _ => rfl) rfl rfl (by simp -implicitDefEqProofs +decide only [go_sem, ofH, tW, sW, hf0] <;> first | rfl | exact ⟨rfl, rfl⟩ | skip) (fun l hp => by cases l <;> first | rfl | cases hp) (by simp -implicitDefEqProofs +decide only [go_sem, tI, sI, tW, sW, hf0] <;> first | rfl | skip) (by simp -implicitDefEqProofs +decide only [go_sem, tI, sI, tW, sW]))
    rintro n hn J hJ
    apply run_sound 200
    simp -implicitDefEqProofs +decide only [go_sem]
    have hfl := fillP_length r n
    refine selP_dec (fun hc2 => ?_) (fun hc2 => ?_)
    · have hw := wS (show n < 1000000000000 by omega)
      have hnr : n < r := by omega
      have hgn : ((fillP r n).map T.bool)[n]? = some (.bool (decide (n < n))) := by rw [List.getElem?_map, fillP_get (by omega)]; rfl
      have hst : ((fillP r n).map T.bool).set n (.bool true) = (fillP r (n + 1)).map T.bool := by rw [← fillP_set (show n < r by omega), List.map_set]
      simp -implicitDefEqProofs +decide only [go_sem, ofH, hnr, hgn, hst, hw, Int.toNat_natCast, Nat.zero_add]
      refine hJ (n + 1) _ (by omega) (by omega) (Wk.rows _ _ (fun _ _ => rfl) rfl rfl (by simp -implicitDefEqProofs +decide only [go_sem, ofH, tW, sW] <;> first | rfl | exact ⟨rfl, rfl⟩ | skip) (fun l hp => by cases l <;> first | rfl | cases hp) (by simp -implicitDefEqProofs +decide only [go_sem, tI, sI, tW, sW] <;> first | rfl | skip) (by simp -implicitDefEqProofs +decide only [go_sem, tI, sI, tW, sW]))
    · obtain rfl : n = r := by omega
      rw [← fillP_all h0]
      simp -implicitDefEqProofs +decide only [go_sem, ofH]
      exact endF.rowT (.inr rfl) (by simp -implicitDefEqProofs +decide only [go_sem]; rfl) (by simp -implicitDefEqProofs +decide only [go_sem, ofH]; rfl) (by rw [List.length_map, hfl]) rfl (by simp -implicitDefEqProofs +decide only [go_sem]) rfl (fun l hp => by cases l <;> first | rfl | cases hp) rfl
  · have d0 : decide ((ax.length : Int) = 0) = false := decide_eq_false (by omega)
    rw [← marksP_all h0]
    simp -implicitDefEqProofs +decide only [go_sem, d0, ofH]
    exact endF.rowT (.inr rfl) (by simp -implicitDefEqProofs +decide only [go_sem]; rfl) (by simp -implicitDefEqProofs +decide only [go_sem, ofH]; rfl) (by rw [List.length_map, hml]) rfl (by simp -implicitDefEqProofs +decide only [go_sem]) rfl (fun l hp => by cases l <;> first | rfl | cases hp) rfl
end Go.Fm
/- Dims without some axes; the dims of reductions. -/
namespace Go.Fm
open Go.Proofs
set_option maxRecDepth 100000
attribute [local irreducible] tiOf

def dropL (mk : List Bool) (d : List Int) (keep : Bool) : List Int := (d.zip mk).flatMap fun p => if p.2 = true then (if keep = true then [1] else []) else [p.1]
theorem dropL_zero (mk : List Bool) (d : List Int) (keep : Bool) : dropL (mk.take 0) (d.take 0) keep = [] := by simp [dropL]
theorem dropL_snoc {mk : List Bool} {d : List Int} {i : Nat} {x : Int} {b : Bool} (keep : Bool) (hx : d[i]? = some x) (hb : mk[i]? = some b) : dropL (mk.take (i + 1)) (d.take (i + 1)) keep = dropL (mk.take i) (d.take i) keep ++ (if b = true then (if keep = true then [1] else []) else [x]) := by
  have h1 := (List.getElem?_eq_some_iff.1 hx).1
  have h2 := (List.getElem?_eq_some_iff.1 hb).1
  unfold dropL
  rw [List.take_add_one, List.take_add_one, hx, hb, Option.toList_some, Option.toList_some, List.zip_append (by simp; omega), List.flatMap_append]
  simp
theorem dropL_len {mk : List Bool} {d : List Int} (hl : mk.length = d.length) (keep : Bool) : ∀ i, i ≤ d.length → (dropL (mk.take i) (d.take i) keep).length ≤ i
  | 0, _ => by rw [dropL_zero]; simp
  | i + 1, hi => by
    obtain ⟨x, hx⟩ := getI (show i < d.length by omega)
    obtain ⟨b, hb⟩ := getI (show i < mk.length by omega)
    have := dropL_len hl keep i (by omega)
    rw [dropL_snoc keep hx hb, List.length_append]
    cases b <;> cases keep <;> simp <;> omega
theorem dropL_keep (mk : List Bool) (d : List Int) : dropL mk d true = keptL mk d := by
  unfold dropL keptL
  induction d.zip mk with
  | nil => rfl
  | cons p l ih =>
    rw [List.flatMap_cons, ih, List.map_cons]
    cases p.2 <;> simp
open Classical in
/-- Dims without some axes, or what is wrong. -/
noncomputable def dropE (d ax : List Int) (keep : Bool) : List Int × Int := if chk d ≠ 0 then ([], chk d) else if axP d.length ax ax.length then (dropL (marksI d.length ax) d keep, 0) else ([], 10)

end Go.Fm
/- Dims without some axes, in the program; the dims of reductions. -/
namespace Go.Fm
open Go.Proofs
set_option maxRecDepth 100000
attribute [local irreducible] tiOf

theorem drop_ok (d ax : List Int) (keep : Bool) (hd : d.length < 1000000000) (hl : ax.length < 9000000000000000000) : Pure Tryz.prog 62 [sI d, sI ax, .bool keep] [.t (sI (dropE d ax keep).1), .t (.int .i64 (dropE d ax keep).2)] := by
  have c1 := check_ok d hd
  refine Pure.intro Tryz.func62 rfl (rt := [6, 7]) rfl (by simp [Tryz.ntmps62]) (by decide) (sites := fun _ => false) ?_
  apply run_sound 200
  simp -implicitDefEqProofs +decide only [go_sem, sI]
  refine CallG.pure _ Tryz.call35 (c1) (by first | rfl | (simp only [go_sem]; done) | (simp only [go_sem]; rfl)) (by first | rfl | (simp only [go_sem]; done) | (simp only [go_sem]; rfl)) ?_
  apply run_sound 200
  by_cases hc : chk d = 0
  rotate_left
  · have e : dropE d ax keep = ([], chk d) := by unfold dropE; rw [if_pos hc]
    rw [e]
    simp -implicitDefEqProofs +decide only [go_sem]
    refine selP_dec (fun _ => ?_) (fun h => absurd hc h)
    simp -implicitDefEqProofs +decide only [go_sem]
    exact endF.vals [(6, .slice []), (7, .int .i64 (chk d))] (.inr rfl) (vals_n (by simp -implicitDefEqProofs +decide only [go_sem]) (vals_t (by simp -implicitDefEqProofs +decide only [go_sem] <;> rfl) rfl vals_nil)) (fun l hp => by cases l <;> first | rfl | cases hp) rfl
  obtain ⟨l6, _, _, _⟩ := chk0 hc
  have hc0 : decide (chk d = 0) = true := decide_eq_true hc
  by_cases hax : axP d.length ax ax.length
  rotate_left
  · have e : dropE d ax keep = ([], 10) := by unfold dropE; rw [if_neg (fun h => h hc), if_neg hax]
    have c2 := axesS_gen d.length ax _ l6 hl (fun _ => rfl) (fun h => absurd h hax)
    simp only [sI] at c2
    rw [e]
    simp -implicitDefEqProofs +decide only [go_sem]
    refine selP_dec (fun h => absurd hc h) (fun _ => ?_)
    simp -implicitDefEqProofs +decide only [go_sem, List.length_map]
    refine CallG.pureS _ Tryz.call66 (c2) (by first | rfl | (simp only [go_sem]; done) | (simp only [go_sem]; rfl)) (by first | rfl | (simp only [go_sem]; done) | (simp only [go_sem]; rfl)) ?_
    apply run_sound 200
    simp -implicitDefEqProofs +decide only [go_sem]
    exact endF.vals [(6, .slice []), (7, .int .i64 10)] (.inr rfl) (vals_n (by simp -implicitDefEqProofs +decide only [go_sem]) (vals_t (by simp -implicitDefEqProofs +decide only [go_sem] <;> rfl) rfl vals_nil)) (fun l hp => by cases l <;> first | rfl | cases hp) rfl
  have e : dropE d ax keep = (dropL (marksI d.length ax) d keep, 0) := by unfold dropE; rw [if_neg (fun h => h hc), if_pos hax]
  have c2 := axesS_gen d.length ax _ l6 hl (fun h => absurd hax h) (fun _ => rfl)
  have hml := marksI_length d.length ax
  rw [e]
  generalize marksI d.length ax = mk at *
  simp only [sI, sB] at c2
  simp -implicitDefEqProofs +decide only [go_sem]
  refine selP_dec (fun h => absurd hc h) (fun _ => ?_)
  simp -implicitDefEqProofs +decide only [go_sem, List.length_map]
  refine CallG.pureS _ Tryz.call66 (c2) (by first | rfl | (simp only [go_sem]; done) | (simp only [go_sem]; rfl)) (by first | rfl | (simp only [go_sem]; done) | (simp only [go_sem]; rfl)) ?_
  apply run_sound 200
  simp -implicitDefEqProofs +decide only [go_sem]
  refine Goes.wk (Wk.nilRow (d := 11) (lab := .loc 100 0) (size := 1) (by simp -implicitDefEqProofs +decide only [go_sem]) (by simp -implicitDefEqProofs +decide only [go_sem]) rfl (by decide)) ?_
  refine Goes.loop (X := Nat) (fun i => ⟨ofL [(2, .t (.bool keep)), (9, .t (sB mk)), (11, .sl (.loc 100 0) (dropL (mk.take i) (d.take i) keep).length 0 (dropL (mk.take i) (d.take i) keep).length), (29, tI d), (30, .t (.int .i64 d.length)), (31, .t (.int .i64 i))],
    ofH (fun _ => none) [(.loc 100 0, .arr 1 ((dropL (mk.take i) (d.take i) keep).map I) (dropL (mk.take i) (d.take i) keep).length 0)], 0⟩) (fun i => i ≤ d.length) (fun i => d.length - i) 0 ?_ (by simp) ?_
  · have h0 := dropL_zero mk d keep
    exact (Wk.rows _ _ (fun _ _ => rfl) rfl rfl (by simp -implicitDefEqProofs +decide only [go_sem, ofH, tW, sW, sB, h0] <;> first | rfl | exact ⟨rfl, rfl⟩ | skip) (fun l hp => by cases l <;> first | rfl | cases hp) (by simp -implicitDefEqProofs +decide only [go_sem, tI, sI, tW, sW, sB, h0] <;> first | rfl | skip) (by simp -implicitDefEqProofs +decide only [go_sem, tI, sI, tW, sW]))
  rintro i hi J hJ
  apply run_sound 200
  simp -implicitDefEqProofs +decide only [go_sem, tI, sI]
  have hdl := dropL_len hml keep i hi
  refine selP_dec (fun hc3 => ?_) (fun hc3 => ?_)
  · obtain ⟨x, hx⟩ := getI (show i < d.length by omega)
    obtain ⟨b, hb⟩ := getI (show i < mk.length by omega)
    have hsn := dropL_snoc keep hx hb
    have hw := wS (show i < 1000000000000 by omega)
    generalize dropL (mk.take i) (d.take i) keep = L at *
    have hnb : L.length + 1 < big := by unfold big; omega
    cases b with
    | false =>
      have hsn : dropL (mk.take (i + 1)) (d.take (i + 1)) keep = L ++ [x] := hsn
      have hlen : (L ++ [x]).length = L.length + 1 := by simp
      have hmap : L.map I ++ [.int .i64 x] = (L ++ [x]).map I := by simp [I]
      generalize L ++ [x] = L' at hsn hlen hmap
      simp -implicitDefEqProofs +decide only [go_sem, sB, ofH, hb, hx, I, hnb, hmap, List.length_map, hw]
      refine hJ (i + 1) _ (by omega) (by omega) (Wk.rows _ _ (fun _ _ => rfl) rfl rfl (by simp -implicitDefEqProofs +decide only [go_sem, ofH, tW, sW, sB, hsn, hlen] <;> first | rfl | exact ⟨rfl, rfl⟩ | skip) (fun l hp => by cases l <;> first | rfl | cases hp) (by simp -implicitDefEqProofs +decide only [go_sem, tI, sI, tW, sW, sB, hsn, hlen] <;> first | rfl | skip) (by simp -implicitDefEqProofs +decide only [go_sem, tI, sI, tW, sW]))
    | true =>
      cases keep with
      | false =>
        have hsn : dropL (mk.take (i + 1)) (d.take (i + 1)) false = L := by rw [hsn]; simp
        simp -implicitDefEqProofs +decide only [go_sem, sB, ofH, hb, hx, I, hw]
        refine hJ (i + 1) _ (by omega) (by omega) (Wk.rows _ _ (fun _ _ => rfl) rfl rfl (by simp -implicitDefEqProofs +decide only [go_sem, ofH, tW, sW, sB, hsn] <;> first | rfl | exact ⟨rfl, rfl⟩ | skip) (fun l hp => by cases l <;> first | rfl | cases hp) (by simp -implicitDefEqProofs +decide only [go_sem, tI, sI, tW, sW, sB, hsn] <;> first | rfl | skip) (by simp -implicitDefEqProofs +decide only [go_sem, tI, sI, tW, sW]))
      | true =>
        have hsn : dropL (mk.take (i + 1)) (d.take (i + 1)) true = L ++ [1] := hsn
        have hlen : (L ++ [1]).length = L.length + 1 := by simp
        have hmap : L.map I ++ [.int .i64 1] = (L ++ [1]).map I := by simp [I]
        generalize L ++ [1] = L' at hsn hlen hmap
        simp -implicitDefEqProofs +decide only [go_sem, sB, ofH, hb, hx, I, hnb, hmap, List.length_map, hw]
        refine hJ (i + 1) _ (by omega) (by omega) (Wk.rows _ _ (fun _ _ => rfl) rfl rfl (by simp -implicitDefEqProofs +decide only [go_sem, ofH, tW, sW, sB, hsn, hlen] <;> first | rfl | exact ⟨rfl, rfl⟩ | skip) (fun l hp => by cases l <;> first | rfl | cases hp) (by simp -implicitDefEqProofs +decide only [go_sem, tI, sI, tW, sW, sB, hsn, hlen] <;> first | rfl | skip) (by simp -implicitDefEqProofs +decide only [go_sem, tI, sI, tW, sW]))
  · obtain rfl : i = d.length := by omega
    have e1 : mk.take d.length = mk := List.take_of_length_le (by omega)
    rw [e1, List.take_length] at hdl ⊢
    simp -implicitDefEqProofs +decide only [go_sem, ofH]
    exact endF.rowT (.inr rfl) (by simp -implicitDefEqProofs +decide only [go_sem]; rfl) (by simp -implicitDefEqProofs +decide only [go_sem, ofH]; rfl) (by rw [List.length_map]) rfl (by simp -implicitDefEqProofs +decide only [go_sem]) rfl (fun l hp => by cases l <;> first | rfl | cases hp) rfl

/-- Is it one of these? -/
def redB (op : Int) : Bool := decide (27 ≤ op) && decide (op ≤ 31)
theorem redIs_ok (op : Int) : Pure Tryz.prog 30 [.int .i64 op] [.t (.bool (redB op))] := by
  obtain ⟨v, hv⟩ : ∃ v, redB op = v := ⟨_, rfl⟩
  rw [hv]
  unfold redB at hv
  by_cases h1 : 27 ≤ op
  · have d1 : decide (27 ≤ op) = true := decide_eq_true h1
    rw [d1, Bool.true_and] at hv
    refine Pure.intro Tryz.func30 rfl (rt := [2]) rfl (by simp [Tryz.ntmps30]) (by decide) (sites := fun _ => false) ?_
    apply run_sound 200
    simp -implicitDefEqProofs +decide only [go_sem, d1, hv]
    exact endF.vals [(2, .bool v)] (.inr rfl) (vals_t (by simp -implicitDefEqProofs +decide only [go_sem] <;> rfl) rfl vals_nil) (fun l hp => by cases l <;> first | rfl | cases hp) rfl
  · have d1 : decide (27 ≤ op) = false := decide_eq_false h1
    rw [d1, Bool.false_and] at hv
    subst hv
    refine Pure.intro Tryz.func30 rfl (rt := [2]) rfl (by simp [Tryz.ntmps30]) (by decide) (sites := fun _ => false) ?_
    apply run_sound 200
    simp -implicitDefEqProofs +decide only [go_sem, d1]
    exact endF.vals [(2, .bool false)] (.inr rfl) (vals_t (by simp -implicitDefEqProofs +decide only [go_sem] <;> rfl) rfl vals_nil) (fun l hp => by cases l <;> first | rfl | cases hp) rfl
theorem axesI_len (op : Int) (x : Atr) (h : x.list.length < 9000000000000000000) : (axesI op x).length < 9000000000000000000 := by
  unfold axesI; split
  · exact h
  · simp
/-- The dims of a reduction, or what is wrong. -/
noncomputable def redE (op : Int) (x : Atr) (d : List Int) : List Int × Int := if redB op = true then dropE d (axesI op x) x.keep else ([], 14)
theorem redDims_ok (op : Int) (x : Atr) (d : List Int) (hd : d.length < 1000000000) (hl : x.list.length < 9000000000000000000) : Pure Tryz.prog 26 [.int .i64 op, x.T, sI d] [.t (sI (redE op x d).1), .t (.int .i64 (redE op x d).2)] := by
  have c1 := redIs_ok op
  have c2 := axes_ok op x
  have c3 := drop_ok d (axesI op x) x.keep hd (axesI_len op x hl)
  unfold redE
  cases hr : redB op with
  | false =>
    rw [hr] at c1
    rw [if_neg (by simp)]
    refine Pure.intro Tryz.func26 rfl (rt := [6, 7]) rfl (by simp [Tryz.ntmps26]) (by decide) (sites := fun _ => false) ?_
    apply run_sound 200
    simp -implicitDefEqProofs +decide only [go_sem, sI, Atr.T, I]
    refine CallG.pure _ Tryz.call30 (c1) (by first | rfl | (simp only [go_sem]; done) | (simp only [go_sem]; rfl)) (by first | rfl | (simp only [go_sem]; done) | (simp only [go_sem]; rfl)) ?_
    apply run_sound 200
    simp -implicitDefEqProofs +decide only [go_sem]
    exact endF.vals [(6, .slice []), (7, .int .i64 14)] (.inr rfl) (vals_n (by simp -implicitDefEqProofs +decide only [go_sem]) (vals_t (by simp -implicitDefEqProofs +decide only [go_sem] <;> rfl) rfl vals_nil)) (fun l hp => by cases l <;> first | rfl | cases hp) rfl
  | true =>
    rw [hr] at c1
    rw [if_pos rfl]
    generalize dropE d (axesI op x) x.keep = q at *
    generalize axesI op x = ax at *
    obtain ⟨l, e⟩ := q
    obtain ⟨a1, a2, a3, a4, a5, a6, a7, a8, ak, al⟩ := x
    dsimp only at c3 ⊢
    simp only [Atr.T, sI, I] at c2 c3
    refine Pure.intro Tryz.func26 rfl (rt := [6, 7]) rfl (by simp [Tryz.ntmps26]) (by decide) (sites := fun _ => false) ?_
    apply run_sound 200
    simp -implicitDefEqProofs +decide only [go_sem, sI, Atr.T, I]
    refine CallG.pure _ Tryz.call30 (c1) (by first | rfl | (simp only [go_sem]; done) | (simp only [go_sem]; rfl)) (by first | rfl | (simp only [go_sem]; done) | (simp only [go_sem]; rfl)) ?_
    apply run_sound 200
    simp -implicitDefEqProofs +decide only [go_sem]
    refine Goes.drawN mixed ?_
    simp -implicitDefEqProofs +decide only [go_sem]
    refine CallD.pureS _ Tryz.call63 c2 (by simp only [List.all_cons, List.all_nil, noPtr, noPtrL, noPtr_sW, noPtr_sI, noPtr_sV, noPtrL_U, noPtrL_I, noPtrL_vT, I, List.map_cons, List.map_nil, Bool.and_true, Bool.and_self]) (by first | rfl | (simp only [go_sem]; done) | (simp only [go_sem]; rfl)) ?_
    simp -implicitDefEqProofs +decide only [go_sem]
    refine CallD.pureS _ Tryz.call62 c3 (by simp only [List.all_cons, List.all_nil, noPtr, noPtrL, noPtr_sW, noPtr_sI, noPtr_sV, noPtrL_U, noPtrL_I, noPtrL_vT, I, List.map_cons, List.map_nil, Bool.and_true, Bool.and_self]) (by first | rfl | (simp only [go_sem]; done) | (simp only [go_sem]; rfl)) ?_
    simp -implicitDefEqProofs +decide only [go_sem]
    refine ⟨.mk (by kernel_rfl), ?_⟩
    apply run_sound 200
    simp -implicitDefEqProofs +decide only [go_sem]
    exact endF.vals [(6, .slice (l.map I)), (7, .int .i64 e)] (.inr rfl) (vals_t (by simp -implicitDefEqProofs +decide only [go_sem] <;> rfl) rfl (vals_t (by simp -implicitDefEqProofs +decide only [go_sem] <;> rfl) rfl vals_nil)) (fun l hp => by cases l <;> first | rfl | cases hp) rfl
end Go.Fm
/- Groups, by definition. -/
namespace Go.Fm
open Go.Proofs
set_option maxRecDepth 100000
attribute [local irreducible] tiOf

/-- The elements up to one that are alike to one. -/
def gI (mk : List Bool) (d : List Int) (i k : Nat) : List Int := ((List.range k).filter fun (j : Nat) => alikeB mk (digL d (i : Int)) (digL d (j : Int))).map fun (j : Nat) => (j : Int)
def fI (mk : List Bool) (d : List Int) (i k : Nat) : Bool := (List.range k).all fun j => !alikeB mk (digL d (i : Int)) (digL d (j : Int)) || decide (i ≤ j)
def outR (mk : List Bool) (d : List Int) (N n : Nat) : List (List Int) := ((List.range n).filter fun i => fI mk d i N).map fun i => gI mk d i N
theorem red0 {op : Int} {x : Atr} {d : List Int} (h : (redE op x d).2 = 0) : redB op = true ∧ chk d = 0 ∧ axP d.length (axesI op x) (axesI op x).length ∧ redE op x d = (dropL (marksI d.length (axesI op x)) d x.keep, 0) := by
  unfold redE at h ⊢
  cases hr : redB op with
  | false => rw [hr] at h; simp at h
  | true =>
    rw [hr, if_pos rfl] at h
    rw [if_pos rfl]
    unfold dropE at h ⊢
    by_cases hc : chk d = 0
    · rw [if_neg (fun g => g hc)] at h ⊢
      by_cases ha : axP d.length (axesI op x) (axesI op x).length
      · rw [if_pos ha]; exact ⟨rfl, hc, ha, rfl⟩
      · rw [if_neg ha] at h; simp at h
    · rw [if_pos hc] at h; exact absurd h hc
theorem grp_of {d : List Int} (hc : chk d = 0) (ax : List Int) : Grp (marksI d.length ax) d := ⟨hc, marksI_length _ _⟩

end Go.Fm
/- Groups, in the program. -/
namespace Go.Fm
open Go.Proofs
set_option maxRecDepth 100000
attribute [local irreducible] tiOf

/-- A place whose digits are set to 0 where marked, up to one. -/
def zeroP (mk : List Bool) (D : List Int) (i : Nat) : List Int := (List.range D.length).map fun j => if j < i ∧ mk.getD j false = true then 0 else D.getD j 0
theorem zeroP_length (mk : List Bool) (D : List Int) (i : Nat) : (zeroP mk D i).length = D.length := by simp [zeroP]
theorem zeroP_get {mk : List Bool} {D : List Int} {i j : Nat} (h : j < D.length) : (zeroP mk D i)[j]? = some (if j < i ∧ mk.getD j false = true then 0 else D.getD j 0) := by simp [zeroP, h]
theorem zeroP_zero (mk : List Bool) (D : List Int) : zeroP mk D 0 = D := by
  apply List.ext_getElem?
  intro j
  rcases Nat.lt_or_ge j D.length with h | h
  · rw [zeroP_get h, if_neg (by omega), List.getD_eq_getElem?_getD, List.getElem?_eq_getElem h]; rfl
  · rw [List.getElem?_eq_none (by rw [zeroP_length]; exact h), List.getElem?_eq_none h]
theorem zeroP_set {mk : List Bool} {D : List Int} {i : Nat} (h : i < D.length) (hm : mk[i]? = some true) : (zeroP mk D i).set i 0 = zeroP mk D (i + 1) := by
  apply List.ext_getElem?
  intro j
  rcases Nat.lt_or_ge j D.length with g | g
  · rw [List.getElem?_set, zeroP_get g, zeroP_get g, zeroP_length]
    by_cases e : i = j
    · subst e; rw [if_pos rfl, if_pos h, if_pos ⟨by omega, by rw [List.getD_eq_getElem?_getD, hm]; rfl⟩]
    · rw [if_neg e]
      congr 1
      by_cases c : j < i ∧ mk.getD j false = true
      · rw [if_pos c, if_pos ⟨by omega, c.2⟩]
      · rw [if_neg c, if_neg (fun c' => c ⟨by omega, c'.2⟩)]
  · rw [List.getElem?_eq_none (by simp [zeroP_length]; exact g), List.getElem?_eq_none (by rw [zeroP_length]; exact g)]
theorem zeroP_skip {mk : List Bool} {D : List Int} {i : Nat} (hm : mk[i]? = some false) : zeroP mk D i = zeroP mk D (i + 1) := by
  unfold zeroP
  refine List.map_congr_left fun j _ => ?_
  by_cases c : j < i ∧ mk.getD j false = true
  · rw [if_pos c, if_pos ⟨by omega, c.2⟩]
  · rw [if_neg c, if_neg (fun c' => by
      rcases Nat.lt_or_ge j i with g | g
      · exact c ⟨g, c'.2⟩
      · have : j = i := by omega
        subst this
        have := c'.2
        rw [List.getD_eq_getElem?_getD, hm] at this
        cases this)]
theorem zeroP_full {mk : List Bool} {D : List Int} (h : mk.length = D.length) : zeroP mk D D.length = zeroL mk D := by
  apply List.ext_getElem?
  intro j
  rcases Nat.lt_or_ge j D.length with g | g
  · obtain ⟨x, hx⟩ := getI g
    obtain ⟨b, hb⟩ := getI (show j < mk.length by omega)
    rw [zeroP_get g, zeroL_get hx hb, List.getD_eq_getElem?_getD, hb, List.getD_eq_getElem?_getD, hx]
    cases b <;> simp [g]
  · rw [List.getElem?_eq_none (by rw [zeroP_length]; exact g), List.getElem?_eq_none (by rw [zeroL_length h]; exact g)]

theorem grpL_yes {mk : List Bool} {d : List Int} {n k : Nat} (h : keyG mk d n = k) : grpL mk d (n + 1) k = grpL mk d n k ++ [(n : Int)] := by
  unfold grpL; rw [List.range_succ, List.filter_append, List.map_append]; simp [h]
theorem grpL_no {mk : List Bool} {d : List Int} {n k : Nat} (h : keyG mk d n ≠ k) : grpL mk d (n + 1) k = grpL mk d n k := by
  unfold grpL; rw [List.range_succ, List.filter_append, List.map_append]; simp [h]
theorem grpL_len (mk : List Bool) (d : List Int) (n k : Nat) : (grpL mk d n k).length ≤ n := by
  unfold grpL; rw [List.length_map]; exact Nat.le_trans (List.length_filter_le _ _) (by simp)
/-- The cells and the rows, behind so many elements. -/
def cellsG (mk : List Bool) (d : List Int) (K n : Nat) : List AV := (List.range K).map fun k => .sl (.loc 200 k) (grpL mk d n k).length 0 (grpL mk d n k).length
def rowG' (mk : List Bool) (d : List Int) (n k : Nat) : Obj := .arr 1 ((grpL mk d n k).map I) (grpL mk d n k).length 0
def heapG (mk : List Bool) (d : List Int) (K n : Nat) : Heap := rowsH (fun _ => none) 200 K (rowG' mk d n)
theorem cellsG_length (mk : List Bool) (d : List Int) (K n : Nat) : (cellsG mk d K n).length = K := by simp [cellsG]
theorem cellsG_get {mk : List Bool} {d : List Int} {K n k : Nat} (h : k < K) : (cellsG mk d K n)[k]? = some (.sl (.loc 200 k) (grpL mk d n k).length 0 (grpL mk d n k).length) := by simp [cellsG, h]
theorem cellsG_set {mk : List Bool} {d : List Int} {K n k : Nat} (hk : k < K) (h : keyG mk d n = k) : (cellsG mk d K n).set k (.sl (.loc 200 k) ((grpL mk d n k).length + 1) 0 ((grpL mk d n k).length + 1)) = cellsG mk d K (n + 1) := by
  apply List.ext_getElem?
  intro j
  rcases Nat.lt_or_ge j K with g | g
  · rw [List.getElem?_set, cellsG_get g, cellsG_get g, cellsG_length]
    by_cases e : k = j
    · subst e
      rw [if_pos rfl, if_pos hk, grpL_yes h]
      simp
    · rw [if_neg e, grpL_no (fun e' => e (h.symm.trans e'))]
  · rw [List.getElem?_eq_none (by simp [cellsG_length]; exact g), List.getElem?_eq_none (by rw [cellsG_length]; exact g)]
theorem cellsG_refs {mk : List Bool} {d : List Int} {K n : Nat} {c : AV} (h : c ∈ cellsG mk d K n) : ∃ k ver off len, k < K ∧ c = .sl (.loc 200 k) ver off len := by
  obtain ⟨k, hk, rfl⟩ := List.mem_map.1 h
  exact ⟨k, _, _, _, List.mem_range.1 hk, rfl⟩
theorem heapG_get {mk : List Bool} {d : List Int} {K n k : Nat} (h : k < K) : heapG mk d K n (.loc 200 k) = some (.arr 1 ((grpL mk d n k).map I) (grpL mk d n k).length 0) := rowsH_get h
theorem heapG_loc {mk : List Bool} {d : List Int} {K n : Nat} {e j : Nat} (h : e ≠ 200) : heapG mk d K n (.loc e j) = none := by unfold heapG; rw [rowsH_loc, if_neg h]
theorem heapG_pool {mk : List Bool} {d : List Int} {K n : Nat} {l : Lab} (h : Lab.pool l = true) : heapG mk d K n l = none := by unfold heapG; rw [rowsH_pool h]
theorem heapG_arg (mk : List Bool) (d : List Int) (K n i : Nat) : heapG mk d K n (.arg i) = none := rfl
theorem heapG_obj (mk : List Bool) (d : List Int) (K n i : Nat) : heapG mk d K n (.obj i) = none := rfl
theorem heapG_fld (mk : List Bool) (d : List Int) (K n i j : Nat) : heapG mk d K n (.fld i j) = none := rfl
end Go.Fm
/- Groups, in the program: the walk. -/
namespace Go.Fm
open Go.Proofs
set_option maxRecDepth 100000
attribute [local irreducible] tiOf

theorem redGroups_ok (op : Int) (x : Atr) (d : List Int) (hd : d.length < 1000000000) (hl : x.list.length < 9000000000000000000) (h0 : (redE op x d).2 = 0) : Pure Tryz.prog 28 [.int .i64 op, x.T, sI d] [.t (sL (groupsL (marksI d.length (axesI op x)) d))] := by
  have c1 := redDims_ok op x d hd hl
  obtain ⟨_, hc, hax, hrd⟩ := red0 h0
  have hG := grp_of hc (axesI op x)
  have c2 := axes_ok op x
  have c3 := axesS_gen d.length (axesI op x) _ (chk0 hc).1 (axesI_len op x hl) (fun h => absurd hax h) (fun _ => rfl)
  have c4 := drop_ok d (axesI op x) true hd (axesI_len op x hl)
  have hde : dropE d (axesI op x) true = (keptL (marksI d.length (axesI op x)) d, 0) := by unfold dropE; rw [if_neg (fun h => h hc), if_pos hax, dropL_keep]
  rw [hde] at c4
  have hml := marksI_length d.length (axesI op x)
  rw [hrd] at c1
  dsimp only at c1 c4
  generalize dropL (marksI d.length (axesI op x)) d x.keep = q at c1
  generalize marksI d.length (axesI op x) = mk at *
  generalize axesI op x = ax at *
  have hkc := kept_chk hc hml
  have hkl := keptL_length hml
  have d6 := (chk0 hc).1
  have c5 := count_ok (keptL mk d) (by omega)
  have c6 := count_ok d hd
  have hcd : cnt d = prodL d := by unfold cnt; rw [if_pos hc]
  have hck : cnt (keptL mk d) = prodL (keptL mk d) := by unfold cnt; rw [if_pos hkc.1]
  have hN := (chk0 hc).2.2
  have hK := (chk0 hkc.1).2.2
  obtain ⟨N, hNe⟩ : ∃ N : Nat, prodL d = (N : Int) := ⟨(prodL d).toNat, by omega⟩
  obtain ⟨K, hKe⟩ : ∃ K : Nat, prodL (keptL mk d) = (K : Int) := ⟨(prodL (keptL mk d)).toNat, by omega⟩
  rw [hcd, hNe] at c6
  rw [hck, hKe] at c5
  have hres : groupsL mk d = (List.range K).map (grpL mk d N) := by unfold groupsL; rw [hNe, hKe, Int.toNat_natCast, Int.toNat_natCast]
  rw [hres]
  have hN64 : N ≤ 64 := by omega
  have hK64 : K ≤ 64 := by omega
  have hKey := fun n => hG.key_eq n
  obtain ⟨kd, hkd⟩ : ∃ kd, keptL mk d = kd := ⟨_, rfl⟩
  rw [hkd] at c4 c5 hkl
  rw [hkd] at hKe
  simp only [hkd, hKe] at hKey
  obtain ⟨a1, a2, a3, a4, a5, a6, a7, a8, ak, al⟩ := x
  simp only [Atr.T, sI, sB, I] at c1 c2 c3 c4 c5 c6
  have hKb : K < big := by unfold big; omega
  have hK0 : (0 : Int) ≤ (K : Int) := by omega
  have hcells0 : (List.range K).map (fun k => AV.sl (.loc 200 k) 0 0 0) = cellsG mk d K 0 := by
    unfold cellsG; exact List.map_congr_left fun k _ => rfl
  have hrow0 : rowG' mk d 0 = fun _ => .arr 1 [] 0 0 := by funext k; rfl
  refine Pure.intro Tryz.func28 rfl (rt := [6]) rfl (by simp [Tryz.ntmps28]) (by decide) (sites := fun d => d == 49) (Goes.weakF ?_)
  apply run_sound 200
  simp -implicitDefEqProofs +decide only [go_sem, sI, Atr.T, I]
  refine CallG.pureS _ Tryz.call26 (c1) (by simp only [List.all_cons, List.all_nil, noPtr, noPtrL, noPtr_sW, noPtr_sI, noPtr_sV, noPtrL_U, noPtrL_I, noPtrL_vT, I, List.map_cons, List.map_nil, Bool.and_true, Bool.and_self]) (by first | rfl | (simp only [go_sem]; done) | (simp only [go_sem]; rfl)) ?_
  apply run_sound 200
  simp -implicitDefEqProofs +decide only [go_sem]
  refine CallG.pureS _ Tryz.call63 (c2) (by simp only [List.all_cons, List.all_nil, noPtr, noPtrL, noPtr_sW, noPtr_sI, noPtr_sV, noPtrL_U, noPtrL_I, noPtrL_vT, I, List.map_cons, List.map_nil, Bool.and_true, Bool.and_self]) (by first | rfl | (simp only [go_sem]; done) | (simp only [go_sem]; rfl)) ?_
  apply run_sound 200
  simp -implicitDefEqProofs +decide only [go_sem, List.length_map]
  refine CallG.pureS _ Tryz.call66 (c3) (by simp only [List.all_cons, List.all_nil, noPtr, noPtrL, noPtr_sW, noPtr_sI, noPtr_sV, noPtrL_U, noPtrL_I, noPtrL_vT, I, List.map_cons, List.map_nil, Bool.and_true, Bool.and_self]) (by first | rfl | (simp only [go_sem]; done) | (simp only [go_sem]; rfl)) ?_
  apply run_sound 200
  simp -implicitDefEqProofs +decide only [go_sem]
  refine CallG.pureS _ Tryz.call63 (c2) (by simp only [List.all_cons, List.all_nil, noPtr, noPtrL, noPtr_sW, noPtr_sI, noPtr_sV, noPtrL_U, noPtrL_I, noPtrL_vT, I, List.map_cons, List.map_nil, Bool.and_true, Bool.and_self]) (by first | rfl | (simp only [go_sem]; done) | (simp only [go_sem]; rfl)) ?_
  apply run_sound 200
  simp -implicitDefEqProofs +decide only [go_sem]
  refine CallG.pureS _ Tryz.call62 (c4) (by simp only [List.all_cons, List.all_nil, noPtr, noPtrL, noPtr_sW, noPtr_sI, noPtr_sV, noPtrL_U, noPtrL_I, noPtrL_vT, I, List.map_cons, List.map_nil, Bool.and_true, Bool.and_self]) (by first | rfl | (simp only [go_sem]; done) | (simp only [go_sem]; rfl)) ?_
  apply run_sound 200
  simp -implicitDefEqProofs +decide only [go_sem]
  refine CallG.pure _ Tryz.call45 (c5) (by simp only [List.all_cons, List.all_nil, noPtr, noPtrL, noPtr_sW, noPtr_sI, noPtr_sV, noPtrL_U, noPtrL_I, noPtrL_vT, I, List.map_cons, List.map_nil, Bool.and_true, Bool.and_self]) (by first | rfl | (simp only [go_sem]; done) | (simp only [go_sem]; rfl)) ?_
  apply run_sound 200
  simp -implicitDefEqProofs +decide only [go_sem, hKb, hK0, Int.toNat_natCast]
  refine CallG.pure _ Tryz.call45 (c6) (by simp only [List.all_cons, List.all_nil, noPtr, noPtrL, noPtr_sW, noPtr_sI, noPtr_sV, noPtrL_U, noPtrL_I, noPtrL_vT, I, List.map_cons, List.map_nil, Bool.and_true, Bool.and_self]) (by first | rfl | (simp only [go_sem]; done) | (simp only [go_sem]; rfl)) ?_
  apply run_sound 200
  simp -implicitDefEqProofs +decide only [go_sem]
  refine Goes.wk (Wk.nilCells (d0 := 49) (j0 := 0) (D := 200) (K := K) (by simp -implicitDefEqProofs +decide only [go_sem] <;> rfl) (by decide) (fun k => by simp -implicitDefEqProofs +decide only [go_sem] <;> rfl)) ?_
  refine Goes.loop (X := Nat) (fun n => ⟨ofL [(2, tI d), (9, .t (sB mk)), (11, tI kd), (13, .sb (.loc 49 0) K), (51, .t (.int .i64 N)), (52, .t (.int .i64 n))], ofH (heapG mk d K n) [(.loc 49 0, .box (cellsG mk d K n))], 0⟩) (fun n => n ≤ N) (fun n => N - n) 0 ?_ (by omega) ?_
  · refine Wk.nest _ [(.loc 49 0, .box (cellsG mk d K 0))] 200 K (rowG' mk d 0) (fun _ _ => rfl) rfl rfl rfl (fun k _ => ⟨_, _, _, _, rfl⟩) ?_ (fun k hk => ?_) ?_ ?_ ?_ ?_
    · intro p hp
      simp only [List.mem_cons, List.not_mem_nil, or_false] at hp
      subst hp
      dsimp only
      rw [rowsH_loc, if_neg (by decide), upd_same, hcells0]
    · dsimp only
      rw [rowsH_get hk, hrow0]
    · intro lab hp
      dsimp only
      rw [rowsH_pool hp]
      cases lab <;> first | rfl | cases hp
    · simp -implicitDefEqProofs +decide only [go_sem, tI, sI, sB] <;> rfl
    · simp -implicitDefEqProofs +decide only [go_sem, tI, sI, sB]
    · intro p hp cs hcs c hcm
      simp only [List.mem_cons, List.not_mem_nil, or_false] at hp
      subst hp
      cases hcs
      exact .inr (cellsG_refs hcm)
  rintro n hn J hJ
  apply run_sound 200
  simp -implicitDefEqProofs +decide only [go_sem, tI, sI]
  refine selP_dec (fun hc1 => ?_) (fun hc1 => ?_)
  · have hw := wS (show n < 1000000000000 by omega)
    have c7 := at_own d (n : Int) hd (by omega)
    have hdl := digL_length d (n : Int)
    have hDin := digit_in (n := (n : Int)) hc
    have hz := (zeroL_in hDin hml).1
    rw [hkd] at hz
    have hk1 := hKey n
    obtain ⟨D, hD⟩ : ∃ D, digL d (n : Int) = D := ⟨_, rfl⟩
    rw [hD] at c7 hdl hz hk1
    simp -implicitDefEqProofs +decide only [go_sem]
    refine CallG.pureAd _ 58 Tryz.call39 c7 (by first | rfl | (simp only [go_sem]; done) | (simp only [go_sem]; rfl)) (by simp only [List.all_cons, flatRC_ownI]; rfl) (fun j size es _ => ?_) ?_
    · simp -implicitDefEqProofs +decide only [go_sem, heapG_loc, ofH, Lab.loc.injEq, false_and, if_false]
    apply run_sound 200
    simp -implicitDefEqProofs +decide only [go_sem, ofH, sB]
    have hp0 := zeroP_zero mk D
    refine Goes.loop (X := Nat) (fun i => ⟨ofL [(2, tI d), (9, .t (sB mk)), (11, tI kd), (13, .sb (.loc 49 0) K), (14, .t (.int .i64 n)), (15, .sl (.loc 58 0) 0 0 D.length), (51, .t (.int .i64 N)), (52, .t (.int .i64 n)), (61, .t (sB mk)), (62, .t (.int .i64 mk.length)), (63, .t (.int .i64 i))],
      ofH (heapG mk d K n) [(.loc 49 0, .box (cellsG mk d K n)), (.loc 58 0, .arr 1 ((zeroP mk D i).map I) 0 0)], 0⟩) (fun i => i ≤ mk.length) (fun i => mk.length - i) 0 ?_ (by omega) ?_
    · refine Wk.nest _ [(.loc 49 0, .box (cellsG mk d K n)), (.loc 58 0, .arr 1 ((zeroP mk D 0).map I) 0 0)] 200 K (rowG' mk d n) (fun _ _ => rfl) rfl rfl rfl (fun k _ => ⟨_, _, _, _, rfl⟩) ?_ (fun k hk => ?_) ?_ ?_ ?_ ?_
      · simp -implicitDefEqProofs +decide only [go_sem, hp0, heapG_loc, ofH, Lab.loc.injEq]
      · dsimp only
        rw [upd_ne _ _ _ _ (fun e => by cases e), upd_ne _ _ _ _ (fun e => by cases e)]
        exact heapG_get hk
      · intro lab hp
        dsimp only
        rw [upd_ne _ _ _ _ (fun e => by subst e; cases hp), upd_ne _ _ _ _ (fun e => by subst e; cases hp), heapG_pool hp]
      · simp -implicitDefEqProofs +decide only [go_sem, tI, sI, sB, List.length_map] <;> rfl
      · simp -implicitDefEqProofs +decide only [go_sem, tI, sI, sB]
      · intro p hp cs hcs c hcm
        simp only [List.mem_cons, List.not_mem_nil, or_false] at hp
        rcases hp with rfl | rfl
        · cases hcs
          exact .inr (cellsG_refs hcm)
        · cases hcs
    rintro i hi J2 hJ2
    apply run_sound 200
    simp -implicitDefEqProofs +decide only [go_sem, sB]
    have hzl := zeroP_length mk D i
    refine selP_dec (fun hc2 => ?_) (fun hc2 => ?_)
    · have hwi := wS (show i < 1000000000000 by omega)
      obtain ⟨b, hb⟩ := getI (show i < mk.length by omega)
      cases b with
      | false =>
        have hzs := zeroP_skip (D := D) hb
        simp -implicitDefEqProofs +decide only [go_sem, hb, hwi]
        refine hJ2 (i + 1) _ (by omega) (by omega) (Wk.nest _ [(.loc 49 0, .box (cellsG mk d K n)), (.loc 58 0, .arr 1 ((zeroP mk D (i + 1)).map I) 0 0)] 200 K (rowG' mk d n) (fun _ _ => rfl) rfl rfl rfl (fun k _ => ⟨_, _, _, _, rfl⟩) ?_ (fun k hk => ?_) ?_ ?_ ?_ ?_)
        · simp -implicitDefEqProofs +decide only [go_sem, hzs, heapG_loc, ofH, Lab.loc.injEq, false_and, if_false]
        · simp -implicitDefEqProofs +decide only [go_sem, heapG_get hk, Lab.loc.injEq, false_and, if_false, ofH] <;> rfl
        · intro lab hp
          cases lab <;> first | (cases hp; done) | simp -implicitDefEqProofs +decide only [go_sem, heapG_arg, heapG_obj, heapG_fld, ofH]
        · simp -implicitDefEqProofs +decide only [go_sem, tI, sI, sB, List.length_map] <;> rfl
        · simp -implicitDefEqProofs +decide only [go_sem, tI, sI, sB]
        · intro p hp cs hcs c hcm
          simp only [List.mem_cons, List.not_mem_nil, or_false] at hp
          rcases hp with rfl | rfl
          · cases hcs
            exact .inr (cellsG_refs hcm)
          · cases hcs
      | true =>
        have hiD : i < D.length := by omega
        have hzs := zeroP_set hiD hb
        obtain ⟨z, hzg⟩ : ∃ z, ((zeroP mk D i).map I)[i]? = some z := getI (by rw [List.length_map, hzl]; exact hiD)
        have hst : ((zeroP mk D i).map I).set i (.int .i64 0) = (zeroP mk D (i + 1)).map I := by rw [← hzs, List.map_set]; rfl
        simp -implicitDefEqProofs +decide only [go_sem, hb, hwi, hiD, hzg, hst, ofH]
        refine hJ2 (i + 1) _ (by omega) (by omega) (Wk.nest _ [(.loc 49 0, .box (cellsG mk d K n)), (.loc 58 0, .arr 1 ((zeroP mk D (i + 1)).map I) 0 0)] 200 K (rowG' mk d n) (fun _ _ => rfl) rfl rfl rfl (fun k _ => ⟨_, _, _, _, rfl⟩) ?_ (fun k hk => ?_) ?_ ?_ ?_ ?_)
        · simp -implicitDefEqProofs +decide only [go_sem, hzs, heapG_loc, ofH, Lab.loc.injEq, false_and, if_false]
        · simp -implicitDefEqProofs +decide only [go_sem, heapG_get hk, Lab.loc.injEq, false_and, if_false, ofH] <;> rfl
        · intro lab hp
          cases lab <;> first | (cases hp; done) | simp -implicitDefEqProofs +decide only [go_sem, heapG_arg, heapG_obj, heapG_fld, ofH]
        · simp -implicitDefEqProofs +decide only [go_sem, tI, sI, sB, List.length_map] <;> rfl
        · simp -implicitDefEqProofs +decide only [go_sem, tI, sI, sB]
        · intro p hp cs hcs c hcm
          simp only [List.mem_cons, List.not_mem_nil, or_false] at hp
          rcases hp with rfl | rfl
          · cases hcs
            exact .inr (cellsG_refs hcm)
          · cases hcs
    · obtain rfl : i = mk.length := by omega
      have hzf : zeroP mk D mk.length = zeroL mk D := by rw [show mk.length = D.length by omega]; exact zeroP_full (by omega)
      rw [hzf]
      have hZl := zeroL_length (a := D) (show mk.length = D.length by omega)
      have c8 := place_ok kd (zeroL mk D) hz
      rw [hk1.1] at c8
      have hkK := hk1.2
      clear hzf hzl hz hp0 c7 hDin hk1
      generalize zeroL mk D = Z at *
      obtain ⟨κ, hκ⟩ : ∃ κ, keyG mk d n = κ := ⟨_, rfl⟩
      rw [hκ] at c8 hkK
      have hκK : κ < K := by omega
      have hcg := cellsG_get (mk := mk) (d := d) (n := n) hκK
      have hrw := heapG_get (mk := mk) (d := d) (n := n) hκK
      have hcl := cellsG_length mk d K n
      have hset := cellsG_set hκK hκ
      have hgl := grpL_len mk d n κ
      have hgy := grpL_yes hκ
      have happ : (grpL mk d n κ).map I ++ [.int .i64 (n : Int)] = (grpL mk d (n + 1) κ).map I := by rw [hgy]; simp [I]
      have hlen : (grpL mk d (n + 1) κ).length = (grpL mk d n κ).length + 1 := by rw [hgy]; simp
      have hnb : (grpL mk d n κ).length + 1 < big := by unfold big; omega
      have hgll : ((grpL mk d n κ).map I).length = (grpL mk d n κ).length := by simp
      have htk : List.take D.length (Z.map I) = Z.map I := List.take_of_length_le (by rw [List.length_map, hZl]; exact Nat.le_refl _)
      simp only [sI] at c8
      simp -implicitDefEqProofs +decide only [go_sem, ofH, tI, sI, htk]
      refine CallG.pure _ Tryz.call67 (c8) (by simp only [List.all_cons, List.all_nil, noPtr, noPtrL, noPtr_sW, noPtr_sI, noPtr_sV, noPtrL_U, noPtrL_I, noPtrL_vT, I, List.map_cons, List.map_nil, Bool.and_true, Bool.and_self]) (by first | rfl | (simp only [go_sem]; done) | (simp only [go_sem]; rfl)) ?_
      apply run_sound 200
      simp -implicitDefEqProofs +decide only [go_sem, hκK, hcg, hrw, hgll, hnb, happ, hcl, hset, heapG_loc, List.length_map, Lab.loc.injEq, false_and, if_false, Int.toNat_natCast, Nat.zero_add, Nat.mul_one]
      rw [hw]
      refine hJ (n + 1) _ (by omega) (by omega) (Wk.nest _ [(.loc 49 0, .box (cellsG mk d K (n + 1)))] 200 K (rowG' mk d (n + 1)) (fun _ _ => rfl) rfl rfl rfl (fun k _ => ⟨_, _, _, _, rfl⟩) ?_ (fun k hk => ?_) ?_ ?_ ?_ ?_)
      · simp -implicitDefEqProofs +decide only [go_sem, heapG_loc, ofH, Lab.loc.injEq, false_and, if_false]
      · by_cases e : k = κ
        · subst e
          dsimp only
          rw [upd_ne _ _ _ _ (fun e => by cases e), upd_same]
          unfold rowG'
          rw [hlen]
        · dsimp only
          rw [upd_ne _ _ _ _ (fun e => by cases e), upd_ne _ _ _ _ (fun e' => by cases e'; exact e rfl), upd_ne _ _ _ _ (fun e => by cases e), upd_ne _ _ _ _ (fun e => by cases e), upd_ne _ _ _ _ (fun e => by cases e), heapG_get hk]
          unfold rowG'
          rw [grpL_no (fun e' => e (e'.symm.trans hκ))]
      · intro lab hp
        cases lab <;> first | (cases hp; done) | simp -implicitDefEqProofs +decide only [go_sem, heapG_arg, heapG_obj, heapG_fld, ofH]
      · simp -implicitDefEqProofs +decide only [go_sem, tI, sI, sB, List.length_map] <;> rfl
      · simp -implicitDefEqProofs +decide only [go_sem, tI, sI, sB]
      · intro p hp cs hcs c hcm
        simp only [List.mem_cons, List.not_mem_nil, or_false] at hp
        subst hp
        cases hcs
        exact .inr (cellsG_refs hcm)
  · obtain rfl : n = N := by omega
    simp -implicitDefEqProofs +decide only [go_sem, ofH]
    refine ⟨_, Wk.dissolve (t0 := 6) (d0 := 49) (j0 := 0) (D := 200) (K := K) (cs := cellsG mk d K n) (rows := fun k => (grpL mk d n k).map I) (base := fun _ => none) (m := 0) (fun _ _ => rfl) ?_ rfl ?_ ?_ (cellsG_length mk d K n) (fun k hk => ⟨(grpL mk d n k).length, 0, ?_, ?_⟩), ?_⟩
    · intro lab hp
      cases lab <;> first | (cases hp; done) | simp -implicitDefEqProofs +decide only [go_sem, heapG_arg, heapG_obj, heapG_fld, ofH]
    · simp -implicitDefEqProofs +decide only [go_sem]
    · simp -implicitDefEqProofs +decide only [go_sem, ofH]
    · rw [List.length_map]
      exact cellsG_get hk
    · simp -implicitDefEqProofs +decide only [go_sem, heapG_get hk, Lab.loc.injEq, false_and, if_false, ofH]
    · exact endF.one (.inr rfl) (by
        show ofL [(6, _)] 6 = _
        rw [ofL, upd_same]
        unfold sL
        rw [List.map_map]; rfl) rfl (fun _ _ => rfl) rfl
theorem redGroups_no (op : Int) (x : Atr) (d : List Int) (hd : d.length < 1000000000) (hl : x.list.length < 9000000000000000000) (h0 : (redE op x d).2 ≠ 0) : Pure Tryz.prog 28 [.int .i64 op, x.T, sI d] [.t (.slice [])] := by
  have c1 := redDims_ok op x d hd hl
  generalize redE op x d = q at *
  obtain ⟨l, e⟩ := q
  obtain ⟨a1, a2, a3, a4, a5, a6, a7, a8, ak, al⟩ := x
  dsimp only at *
  simp only [Atr.T, sI, I] at c1
  refine Pure.intro Tryz.func28 rfl (rt := [6]) rfl (by simp [Tryz.ntmps28]) (by decide) (sites := fun _ => false) ?_
  apply run_sound 200
  simp -implicitDefEqProofs +decide only [go_sem, sI, Atr.T, I]
  refine CallG.pureS _ Tryz.call26 (c1) (by simp only [List.all_cons, List.all_nil, noPtr, noPtrL, noPtr_sW, noPtr_sI, noPtr_sV, noPtrL_U, noPtrL_I, noPtrL_vT, I, List.map_cons, List.map_nil, Bool.and_true, Bool.and_self]) (by first | rfl | (simp only [go_sem]; done) | (simp only [go_sem]; rfl)) ?_
  apply run_sound 200
  simp -implicitDefEqProofs +decide only [go_sem]
  refine selP_dec (fun _ => ?_) (fun h => absurd h0 h)
  simp -implicitDefEqProofs +decide only [go_sem]
  exact endF.vals [(6, .slice [])] (.inr rfl) (vals_n (by simp -implicitDefEqProofs +decide only [go_sem]) vals_nil) (fun l hp => by cases l <;> first | rfl | cases hp) rfl
end Go.Fm
