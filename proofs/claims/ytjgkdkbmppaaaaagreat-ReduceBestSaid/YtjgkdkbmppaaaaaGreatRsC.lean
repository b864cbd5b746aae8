/- The best of some: the plain law; each element is in one group. -/
import Derived.Test.YtjgkdkbmppaaaaaGreatRsB
import Derived.Test.YtjgkdkbmppaaaaaGreatLsA
set_option linter.unusedVariables false
set_option linter.unusedSimpArgs false
namespace Go.Fm
open Go.Proofs
set_option maxRecDepth 100000
attribute [local irreducible] tiOf

theorem count_grp (mk : List Bool) (d : List Int) (k z : Nat) : ∀ N, (grpL mk d N k).count (z : Int) = if z < N ∧ keyG mk d z = k then 1 else 0
  | 0 => by rw [if_neg (by omega)]; rfl
  | N + 1 => by
    have ih := count_grp mk d k z N
    by_cases h : keyG mk d N = k
    · rw [grpL_yes h, List.count_append, ih]
      by_cases e : z = N
      · subst e
        rw [if_neg (by omega), if_pos ⟨by omega, h⟩]; simp
      · have e2 : ((N : Int) == (z : Int)) = false := by simp; omega
        have : List.count (z : Int) [(N : Int)] = 0 := by rw [List.count_singleton, e2]; rfl
        rw [this]
        by_cases c : z < N ∧ keyG mk d z = k
        · rw [if_pos c, if_pos ⟨by omega, c.2⟩]
        · rw [if_neg c, if_neg (fun c' => c ⟨by omega, c'.2⟩)]
    · rw [grpL_no h, ih]
      by_cases c : z < N ∧ keyG mk d z = k
      · rw [if_pos c, if_pos ⟨by omega, c.2⟩]
      · rw [if_neg c, if_neg (fun c' => by
          by_cases e : z = N
          · subst e; exact h c'.2
          · exact c ⟨by omega, c'.2⟩)]
theorem count_groups (mk : List Bool) (d : List Int) (N z : Nat) (hz : z < N) : ∀ K, (((List.range K).map (grpL mk d N)).flatten).count (z : Int) = if keyG mk d z < K then 1 else 0
  | 0 => by rw [if_neg (by omega)]; rfl
  | K + 1 => by
    rw [List.range_succ, List.map_append, List.flatten_append, List.count_append, count_groups mk d N z hz K]
    have : ((List.map (grpL mk d N) [K]).flatten).count (z : Int) = if keyG mk d z = K then 1 else 0 := by
      rw [List.map_cons, List.map_nil, List.flatten_cons, List.flatten_nil, List.append_nil, count_grp]
      by_cases e : keyG mk d z = K
      · rw [if_pos ⟨hz, e⟩, if_pos e]
      · rw [if_neg (fun h => e h.2), if_neg e]
    rw [this]
    by_cases h1 : keyG mk d z < K
    · rw [if_pos h1, if_neg (by omega), if_pos (by omega)]
    · rw [if_neg h1]
      by_cases h2 : keyG mk d z = K
      · rw [if_pos h2, if_pos (by omega)]
      · rw [if_neg h2, if_neg (by omega)]
theorem count_all {mk : List Bool} {d : List Int} (G : Grp mk d) {z : Nat} (hz : (z : Int) < prodL d) : (groupsL mk d).flatten.count (z : Int) = 1 := by
  unfold groupsL
  have hk := (G.key_eq z).2
  rw [count_groups mk d _ z (by omega), if_pos (by omega)]

/-- Not ahead. -/
def notA (mn : Bool) (a b : Rat) : Prop := match mn with | true => b ≤ a | false => a ≤ b
theorem notA_refl (mn : Bool) (a : Rat) : notA mn a a := by cases mn <;> exact Rat.le_refl
/-- What is ahead of the best so far is strictly ahead of all that the best is not behind of. -/
theorem ahead_lt {a b c : Rat} (h1 : a ≤ b) (h2 : b < c) : a ≤ c ∧ a ≠ c := by
  refine ⟨Rat.le_trans h1 (Rat.le_of_lt h2), fun e => ?_⟩
  subst e
  exact Rat.not_le.2 h2 h1
/-- No one is ahead of the best, and none before it is as good. -/
theorem best_prop (mn : Bool) (x : List Rat) (s : Bst) : ∀ i k, k ≤ i → notA mn (x.getD k 0) (x.getD (bestF mn x s i).pick 0) ∧ (k < (bestF mn x s i).pick → x.getD k 0 ≠ x.getD (bestF mn x s i).pick 0)
  | 0, k, hk => by
    obtain rfl : k = 0 := by omega
    have : (bestF mn x s 0).pick = 0 := rfl
    rw [this]
    exact ⟨notA_refl mn _, fun h => absurd h (Nat.lt_irrefl 0)⟩
  | i + 1, k, hk => by
    have ih := best_prop mn x s i
    have hp := bestF_pick mn x s i
    have hst : bestF mn x s (i + 1) = bestN mn x (bestF mn x s i) i := rfl
    rw [hst]
    generalize bestF mn x s i = t at *
    have hpk : (bestN mn x t i).pick = if decide ((bestP mn x t.pick i).1 < (bestP mn x t.pick i).2) = true then i + 1 else t.pick := rfl
    rw [hpk]
    cases mn with
    | true =>
      have e : bestP true x t.pick i = (x.getD (i + 1) 0, x.getD t.pick 0) := rfl
      rw [e]
      dsimp only
      by_cases h : x.getD (i + 1) 0 < x.getD t.pick 0
      · rw [if_pos (by simpa using h)]
        by_cases hki : k ≤ i
        · have h1 : x.getD t.pick 0 ≤ x.getD k 0 := (ih k hki).1
          have h3 : x.getD (i + 1) 0 ≤ x.getD k 0 := Rat.le_trans (Rat.le_of_lt h) h1
          exact ⟨h3, fun _ e => by rw [e] at h1; exact absurd h1 (Rat.not_le.2 h)⟩
        · obtain rfl : k = i + 1 := by omega
          exact ⟨notA_refl _ _, fun h => absurd h (Nat.lt_irrefl _)⟩
      · rw [if_neg (by simpa using h)]
        by_cases hki : k ≤ i
        · exact ih k hki
        · obtain rfl : k = i + 1 := by omega
          exact ⟨Rat.not_lt.1 h, fun h => by omega⟩
    | false =>
      have e : bestP false x t.pick i = (x.getD t.pick 0, x.getD (i + 1) 0) := rfl
      rw [e]
      dsimp only
      by_cases h : x.getD t.pick 0 < x.getD (i + 1) 0
      · rw [if_pos (by simpa using h)]
        by_cases hki : k ≤ i
        · have h1 : x.getD k 0 ≤ x.getD t.pick 0 := (ih k hki).1
          have h3 := ahead_lt h1 h
          exact ⟨h3.1, fun _ => h3.2⟩
        · obtain rfl : k = i + 1 := by omega
          exact ⟨notA_refl _ _, fun h => absurd h (Nat.lt_irrefl _)⟩
      · rw [if_neg (by simpa using h)]
        by_cases hki : k ≤ i
        · exact ih k hki
        · obtain rfl : k = i + 1 := by omega
          exact ⟨Rat.not_lt.1 h, fun h => by omega⟩
end Go.Fm
/- What a reduction by the best tells; reductions that are not done. -/
namespace Go.Fm
open Go.Proofs
set_option maxRecDepth 100000
attribute [local irreducible] tiOf

theorem doF_get {mn : Bool} {v : List Rat} {L : List (List Int)} {N : Nat} (G : GL L N) : ∀ n i g, n ≤ L.length → i < n → L[i]? = some g → ∃ (q : Nat) (r : Rat), (doF mn v L n).which[i]? = some (q : Int) ∧ (doF mn v L n).vals[i]? = some r ∧ q < g.length ∧ r = (pickG v g).getD q 0 ∧
    ∀ k, k < g.length → notA mn ((pickG v g).getD k 0) r ∧ (k < q → (pickG v g).getD k 0 ≠ r)
  | 0, i, g, _, hi, _ => absurd hi (Nat.not_lt_zero i)
  | n + 1, i, g, hn, hi, hg => by
    have hl := doF_len mn v L n
    have hst : doF mn v L (n + 1) = doN mn v (L.getD n []) (doF mn v L n) := rfl
    rw [hst]
    unfold doN
    dsimp only
    rcases Nat.lt_or_ge i n with h | h
    · obtain ⟨q, r, h1, h2, h3⟩ := doF_get G n i g (by omega) h hg
      exact ⟨q, r, by rw [List.getElem?_append_left (by omega)]; exact h1, by rw [List.getElem?_append_left (by omega)]; exact h2, h3⟩
    · obtain rfl : i = n := by omega
      have hgd : L.getD i [] = g := by rw [List.getD_eq_getElem?_getD, hg]; rfl
      rw [hgd]
      have hgl := (G.each g (List.mem_of_getElem? hg)).1
      have hpl := pickG_length v g
      have hp := bestF_pick mn (pickG v g) ⟨0, (doF mn v L i).met, (doF mn v L i).tie⟩ ((pickG v g).length - 1)
      have hb := best_prop mn (pickG v g) ⟨0, (doF mn v L i).met, (doF mn v L i).tie⟩ ((pickG v g).length - 1)
      generalize bestF mn (pickG v g) ⟨0, (doF mn v L i).met, (doF mn v L i).tie⟩ ((pickG v g).length - 1) = s at *
      refine ⟨s.pick, _, ?_, ?_, by omega, rfl, fun k hk => hb k (by omega)⟩
      · rw [List.getElem?_append_right (by omega), hl.2, Nat.sub_self]; rfl
      · rw [List.getElem?_append_right (by omega), hl.1, Nat.sub_self]; rfl

theorem doNo_ok (h : Heap) (m id k : Nat) (op : Int) (x : Atr) (d : List Int) (v : List Rat) (hb : ∀ l, Lab.pool l = false → h l = none) (hd : d.length < 1000000000) (hl : x.list.length < 9000000000000000000) (h0 : (redE op x d).2 ≠ 0) :
    Ret Tryz.prog 32 [.ptr id, .int .i64 op, x.T, argT d v] h m [.t (.slice []), .t (.slice [])] h m := by
  have hloc : ∀ d j, h (.loc d j) = none := fun d j => hb _ rfl
  have c1 := redGroups_no op x d hd hl h0
  obtain ⟨a1, a2, a3, a4, a5, a6, a7, a8, ak, al⟩ := x
  refine Ret.intro Tryz.func32 rfl (rt := [8, 9]) rfl (by simp [Tryz.ntmps32]) (by decide) (sites := fun _ => false) hb (Keeps.refl _) ?_
  unfold argT
  simp only [Atr.T, sI, I] at c1
  apply run_sound 200
  simp -implicitDefEqProofs +decide only [go_sem, hloc, Atr.T, I, sI, sV]
  refine CallG.pureS _ Tryz.call28 (c1) (by simp only [List.all_cons, List.all_nil, noPtr, noPtrL, noPtr_sW, noPtr_sI, noPtr_sV, noPtrL_U, noPtrL_I, noPtrL_vT, I, List.map_cons, List.map_nil, Bool.and_true, Bool.and_self]) (by first | rfl | (simp only [go_sem]; done) | (simp only [go_sem]; rfl)) ?_
  apply run_sound 200
  simp -implicitDefEqProofs +decide only [go_sem, hloc]
  refine Goes.drawN mixed ?_
  simp -implicitDefEqProofs +decide only [go_sem, hloc]
  refine ⟨.mk (by kernel_rfl), ?_⟩
  apply run_sound 200
  simp -implicitDefEqProofs +decide only [go_sem]
  exact endF.vals [(8, .slice []), (9, .slice [])] (.inr rfl) (vals_n (by simp -implicitDefEqProofs +decide only [go_sem]) (vals_n (by simp -implicitDefEqProofs +decide only [go_sem]) vals_nil)) (by rintro (_ | _ | _ | _ | _) hp <;> first | (cases hp; done) | simp -implicitDefEqProofs +decide only [go_sem, hloc]) rfl
end Go.Fm
/- The law on the best of groups. -/
namespace Go.Fm
open Go.Proofs
set_option maxRecDepth 100000
attribute [local irreducible] tiOf

/-- How often elements have been met. -/
def metA (L : List (List Int)) (i j : Nat) (n : Nat) : Nat := ((L.take i).flatten ++ (L.getD i []).take j).count (n : Int)
def metCells (L : List (List Int)) (i j : Nat) : List AV := (List.range 64).map fun n => .t (.int .i64 (metA L i j n : Nat))
theorem metCells_get {L : List (List Int)} {i j n : Nat} (h : n < 64) : (metCells L i j)[n]? = some (.t (.int .i64 (metA L i j n : Nat))) := by simp [metCells, h]
theorem metCells_length (L : List (List Int)) (i j : Nat) : (metCells L i j).length = 64 := by simp [metCells]
theorem metCells_set {L : List (List Int)} {i j n : Nat} {g : List Int} (hg : L[i]? = some g) (hz : g[j]? = some (n : Int)) (hn : n < 64) : (metCells L i j).set n (.t (.int .i64 (metA L i j n + 1 : Nat))) = metCells L i (j + 1) := by
  have hgd : L.getD i [] = g := by rw [List.getD_eq_getElem?_getD, hg]; rfl
  have hs : ∀ m, metA L i (j + 1) m = metA L i j m + if n = m then 1 else 0 := fun m => by
    unfold metA
    rw [hgd, take_snoc hz, ← List.append_assoc, List.count_append]
    congr 1
    rw [List.count_singleton]
    by_cases e : n = m
    · subst e; simp
    · rw [if_neg e, if_neg (by simp; omega)]
  apply List.ext_getElem?
  intro k
  rcases Nat.lt_or_ge k 64 with g | g
  · rw [List.getElem?_set, metCells_get g, metCells_get g, metCells_length, hs]
    by_cases e : n = k
    · subst e; rw [if_pos rfl, if_pos hn, if_pos rfl]
    · rw [if_neg e, if_neg e]; rfl
  · rw [List.getElem?_eq_none (by simp [metCells_length]; exact g), List.getElem?_eq_none (by rw [metCells_length]; exact g)]
theorem metCells_next {L : List (List Int)} {i : Nat} {g : List Int} (hg : L[i]? = some g) : metCells L i g.length = metCells L (i + 1) 0 := by
  have hgd : L.getD i [] = g := by rw [List.getD_eq_getElem?_getD, hg]; rfl
  unfold metCells
  refine List.map_congr_left fun n _ => ?_
  unfold metA
  rw [hgd, List.take_length, List.take_zero, List.append_nil, take_snoc hg, List.flatten_append]
  simp
theorem metCells_zero (L : List (List Int)) : metCells L 0 0 = List.replicate 64 (.t (.int .i64 0)) := by
  apply List.ext_getElem?
  intro k
  rcases Nat.lt_or_ge k 64 with g | g
  · rw [metCells_get g, List.getElem?_replicate, if_pos g]
    unfold metA; simp
  · rw [List.getElem?_eq_none (by rw [metCells_length]; exact g), List.getElem?_eq_none (by simpa using g)]
theorem metA_le (L : List (List Int)) (i j n : Nat) : metA L i j n ≤ (L.flatten).length := by
  unfold metA
  refine Nat.le_trans List.count_le_length ?_
  rw [List.length_append]
  have h1 : L = L.take i ++ L.drop i := (List.take_append_drop i L).symm
  cases hg : L[i]? with
  | none =>
    have hgd : L.getD i [] = [] := by rw [List.getD_eq_getElem?_getD, hg]; rfl
    rw [hgd]
    conv => rhs; rw [h1, List.flatten_append, List.length_append]
    simp
  | some g =>
    have hgd : L.getD i [] = g := by rw [List.getD_eq_getElem?_getD, hg]; rfl
    have hd : L.drop i = g :: L.drop (i + 1) := by
      have hi := (List.getElem?_eq_some_iff.1 hg)
      rw [List.drop_eq_getElem_cons hi.1, hi.2]
    rw [hgd]
    conv => rhs; rw [h1, hd, List.flatten_append, List.length_append, List.flatten_cons, List.length_append]
    rw [List.length_take]
    omega
theorem metA_all {mk : List Bool} {d : List Int} (G : Grp mk d) {z : Nat} (hz : (z : Int) < prodL d) : metA (groupsL mk d) (groupsL mk d).length 0 z = 1 := by
  unfold metA
  rw [List.take_length, List.take_zero, List.append_nil]
  exact count_all G hz
end Go.Fm
/- The law on the best of groups: what is let through. -/
namespace Go.Fm
open Go.Proofs
set_option maxRecDepth 100000
attribute [local irreducible] tiOf

theorem flat_len : ∀ {L : List (List Int)}, (∀ g ∈ L, g.length ≤ 64) → L.flatten.length ≤ L.length * 64
  | [], _ => Nat.le_refl _
  | g :: L, h => by
    have h1 := h g (by simp)
    have h2 := flat_len (L := L) fun g hg => h g (by simp [hg])
    rw [List.flatten_cons, List.length_append, List.length_cons, Nat.add_mul]
    omega
theorem reduceBest_r (ls : Bool) (x : Atr) (a : Ag) (cr : Pure Tryz.prog 15 [.int .i64 0, .slice [a.T]] [.t (.bool false)]) : Pure Tryz.prog 8 [.bool ls, x.T, a.T] [.t (.bool true)] := by
  have cs := same27_ok
  obtain ⟨a1, a2, a3, a4, a5, a6, a7, a8, ak, al⟩ := x
  obtain ⟨d, v⟩ := a
  simp only [Ag.T, sI, sS] at cr
  refine Pure.intro Tryz.func8 rfl (rt := [6]) rfl (by simp [Tryz.ntmps8]) (by decide) (sites := fun _ => false) ?_
  apply run_sound 200
  simp -implicitDefEqProofs +decide only [go_sem, Atr.T, Ag.T, I, sI, sS]
  refine Goes.drawN mixed ?_
  simp -implicitDefEqProofs +decide only [go_sem]
  refine CallD.pure _ Tryz.call15 cr (by simp only [List.all_cons, List.all_nil, noPtr, noPtrL, noPtrL_I, noPtrL_Sc, Bool.and_self]) (by first | rfl | (simp only [go_sem]; done) | (simp only [go_sem]; rfl)) ?_
  simp -implicitDefEqProofs +decide only [go_sem]
  refine ⟨.mk (by kernel_rfl), ?_⟩
  apply run_sound 200
  simp -implicitDefEqProofs +decide only [go_sem]
  refine CallG.pure _ Tryz.call25 (cs) (by first | rfl | (simp only [go_sem]; done) | (simp only [go_sem]; rfl)) (by first | rfl | (simp only [go_sem]; done) | (simp only [go_sem]; rfl)) ?_
  apply run_sound 200
  simp -implicitDefEqProofs +decide only [go_sem]
  exact endF.vals [(6, .bool true)] (.inr rfl) (vals_t (by simp -implicitDefEqProofs +decide only [go_sem] <;> rfl) rfl vals_nil) (fun l hp => by cases l <;> first | rfl | cases hp) rfl
theorem reduceBest_l (ls : Bool) (x : Atr) (a : Ag) (cr : Pure Tryz.prog 15 [.int .i64 0, .slice [a.T]] [.t (.bool true)]) (hd : a.d.length < 1000000000) (hl : (a.v.length : Int) ≠ cnt a.d) : Pure Tryz.prog 8 [.bool ls, x.T, a.T] [.t (.bool true)] := by
  have cs := same27_ok
  have cc := rCount_ok a.d hd
  obtain ⟨a1, a2, a3, a4, a5, a6, a7, a8, ak, al⟩ := x
  obtain ⟨d, v⟩ := a
  dsimp only at cc hl
  have dl : decide ((v.length : Int) ≠ cnt d) = true := decide_eq_true hl
  simp only [Ag.T, sI, sS] at cr cc
  refine Pure.intro Tryz.func8 rfl (rt := [6]) rfl (by simp [Tryz.ntmps8]) (by decide) (sites := fun _ => false) ?_
  apply run_sound 200
  simp -implicitDefEqProofs +decide only [go_sem, Atr.T, Ag.T, I, sI, sS]
  refine Goes.drawN mixed ?_
  simp -implicitDefEqProofs +decide only [go_sem]
  refine CallD.pure _ Tryz.call15 cr (by simp only [List.all_cons, List.all_nil, noPtr, noPtrL, noPtrL_I, noPtrL_Sc, Bool.and_self]) (by first | rfl | (simp only [go_sem]; done) | (simp only [go_sem]; rfl)) ?_
  simp -implicitDefEqProofs +decide only [go_sem, List.length_map]
  refine CallD.pure _ Tryz.call31 cc (by first | rfl | (simp only [go_sem]; done) | (simp only [go_sem]; rfl)) (by first | rfl | (simp only [go_sem]; done) | (simp only [go_sem]; rfl)) ?_
  simp -implicitDefEqProofs +decide only [go_sem, dl]
  refine ⟨.mk (by kernel_rfl), ?_⟩
  apply run_sound 200
  simp -implicitDefEqProofs +decide only [go_sem]
  refine CallG.pure _ Tryz.call25 (cs) (by first | rfl | (simp only [go_sem]; done) | (simp only [go_sem]; rfl)) (by first | rfl | (simp only [go_sem]; done) | (simp only [go_sem]; rfl)) ?_
  apply run_sound 200
  simp -implicitDefEqProofs +decide only [go_sem]
  exact endF.vals [(6, .bool true)] (.inr rfl) (vals_t (by simp -implicitDefEqProofs +decide only [go_sem] <;> rfl) rfl vals_nil) (fun l hp => by cases l <;> first | rfl | cases hp) rfl

theorem reduceBest_no (ls : Bool) (op : Int) (x : Atr) (d : List Int) (xs : List Rat) (hop : op = match ls with | true => 30 | false => 29) (cr : Pure Tryz.prog 15 [.int .i64 0, .slice [argT d xs]] [.t (.bool true)]) (hd : d.length < 1000000000) (hx : x.list.length < 9000000000000000000) (hl : (xs.length : Int) = cnt d) (hl64 : xs.length ≤ 100)
    (h0 : (redE op x d).2 ≠ 0) : Pure Tryz.prog 8 [.bool ls, x.T, argT d xs] [.t (.bool true)] := by
  have cs := same27_ok
  have cc := rCount_ok d hd
  have hb0 : ∀ l, Lab.pool l = false → (fun _ => none : Heap) l = none := fun _ _ => rfl
  have n1 := bankNew_ok (fun _ => none) 0 hb0 rfl
  have c1 := redGroups_no op x d hd hx h0
  have d1 := doNo_ok (upd (fun _ => none) (.obj 0) (some (bankO 0))) 1 0 0 op x d xs (bank_hb hb0) hd hx h0
  have dl : decide ((xs.length : Int) ≠ cnt d) = false := decide_eq_false (by omega)
  obtain ⟨a1, a2, a3, a4, a5, a6, a7, a8, ak, al⟩ := x
  simp only [argT, sI, sV, Atr.T, I] at cr cc c1 d1
  refine Pure.drop (h' := upd (fun _ => none) (.obj 0) (some (bankO 0))) (m' := 1) ?_ rfl
  refine Ret.intro Tryz.func8 rfl (rt := [6]) rfl (by simp [Tryz.ntmps8]) (by decide) (sites := fun _ => false) (bank_hb hb0) (Keeps.none _) ?_
  apply run_sound 200
  simp -implicitDefEqProofs +decide only [go_sem, Atr.T, argT, I, sI, sV]
  refine Goes.drawN mixed ?_
  simp -implicitDefEqProofs +decide only [go_sem]
  refine CallD.pure _ Tryz.call15 cr (by simp only [List.all_cons, List.all_nil, noPtr, noPtrL, noPtr_sW, noPtr_sI, noPtr_sV, noPtrL_U, noPtrL_I, noPtrL_vT, I, List.map_cons, List.map_nil, Bool.and_true, Bool.and_self]) (by first | rfl | (simp only [go_sem]; done) | (simp only [go_sem]; rfl)) ?_
  simp -implicitDefEqProofs +decide only [go_sem, List.length_map]
  refine CallD.pure _ Tryz.call31 cc (by first | rfl | (simp only [go_sem]; done) | (simp only [go_sem]; rfl)) (by first | rfl | (simp only [go_sem]; done) | (simp only [go_sem]; rfl)) ?_
  simp -implicitDefEqProofs +decide only [go_sem, dl]
  refine ⟨.mk (by kernel_rfl), ?_⟩
  apply run_sound 200
  cases ls with
  | true =>
    subst hop
    simp -implicitDefEqProofs +decide only [go_sem]
    refine CallG.pureS _ Tryz.call28 (c1) (by simp only [List.all_cons, List.all_nil, noPtr, noPtrL, noPtr_sW, noPtr_sI, noPtr_sV, noPtrL_U, noPtrL_I, noPtrL_vT, I, List.map_cons, List.map_nil, Bool.and_true, Bool.and_self]) (by first | rfl | (simp only [go_sem]; done) | (simp only [go_sem]; rfl)) ?_
    apply run_sound 200
    simp -implicitDefEqProofs +decide only [go_sem]
    refine Goes.drawP mixed (Calm.of (by repeat first | exact Clean.und | refine Clean.upd ?_ rfl | refine Clean.upd ?_ (by simp only [cleanA, cleanL, ])) (by repeat first | exact HCalm.none | exact HCalm.hb hb | exact HCalm.hb (bank_hb hb) | refine HCalm.row ?_ | refine HCalm.box ?_ (by first | rfl | (simp only [cleanA, cleanL, ]; done) | assumption))) ?_
    simp -implicitDefEqProofs +decide only [go_sem]
    refine CallD.make _ [(.obj 0, bankO 0)] 1 Tryz.call18 n1 rfl hb0 (fun l hp => by cases l <;> first | rfl | cases hp) (fun _ _ => rfl) rfl (.inl (by simp)) ?_
    simp -implicitDefEqProofs +decide only [go_sem]
    refine CallD.look _ Tryz.call32 d1 rfl (bank_hb hb0) (by rintro (_ | _ | _ | _ | _) hp <;> first | (cases hp; done) | simp -implicitDefEqProofs +decide only [go_sem]) ?_
    simp -implicitDefEqProofs +decide only [go_sem]
    refine ⟨.mk (by kernel_rfl), ?_⟩
    apply run_sound 200
    simp -implicitDefEqProofs +decide only [go_sem]
    refine Goes.loop (X := Nat) (fun i => ⟨ofL [(5, .bp (.loc 5 0) 0), (9, .t (.slice [])), (59, .t (.int .i64 0)), (60, .t (.int .i64 i))], ofH (upd (fun _ => none) (.obj 0) (some (bankO 0))) [(.loc 5 0, .box [.t (.slice (d.map I)), .t (.slice (xs.map vT))])], 1⟩) (fun i => i = 0) (fun i => 0) 0 ?_ rfl ?_
    · refine Wk.boxes _ _ (bank_hb hb0) rfl rfl ?_ (by rintro (_ | _ | _ | _ | _) hp <;> first | (cases hp; done) | simp -implicitDefEqProofs +decide only [go_sem]) ?_ ?_
      · simp -implicitDefEqProofs +decide only [go_sem] <;> first | rfl | exact ⟨rfl, rfl⟩ | skip
      · simp -implicitDefEqProofs +decide only [go_sem] <;> rfl
      · simp -implicitDefEqProofs +decide only [go_sem]
    rintro i rfl J hJ
    apply run_sound 200
    simp -implicitDefEqProofs +decide only [go_sem, List.length_map]
    refine Goes.loop (X := Nat) (fun i => ⟨ofL [(9, .t (.slice [])), (154, .t (.int .i64 xs.length)), (155, .t (.int .i64 i))], upd (fun _ => none) (.obj 0) (some (bankO 0)), 1⟩) (fun i => i ≤ xs.length) (fun i => xs.length - i) 0 ?_ (by omega) ?_
    · exact Wk.mixed _ (bank_hb hb0) rfl (by rintro (_ | _ | _ | _ | _) hp <;> first | (cases hp; done) | simp -implicitDefEqProofs +decide only [go_sem, ofH]) (by simp -implicitDefEqProofs +decide only [go_sem] <;> rfl) (by simp -implicitDefEqProofs +decide only [go_sem])
    rintro i hi J2 hJ2
    apply run_sound 200
    simp -implicitDefEqProofs +decide only [go_sem]
    refine selP_dec (fun hc => ?_) (fun hc => ?_)
    · have hw := wS (show i < 1000000000000 by omega)
      simp -implicitDefEqProofs +decide only [go_sem, hw]
      refine hJ2 (i + 1) _ (by omega) (by omega) (Wk.mixed _ (bank_hb hb0) rfl (by rintro (_ | _ | _ | _ | _) hp <;> first | (cases hp; done) | simp -implicitDefEqProofs +decide only [go_sem]) (by simp -implicitDefEqProofs +decide only [go_sem] <;> rfl) (by simp -implicitDefEqProofs +decide only [go_sem]))
    · simp -implicitDefEqProofs +decide only [go_sem]
      refine CallG.pure _ Tryz.call25 (cs) (by first | rfl | (simp only [go_sem]; done) | (simp only [go_sem]; rfl)) (by first | rfl | (simp only [go_sem]; done) | (simp only [go_sem]; rfl)) ?_
      apply run_sound 200
      simp -implicitDefEqProofs +decide only [go_sem]
      exact endF.vals [(6, .bool true)] (.inr rfl) (vals_t (by first | rfl | (simp -implicitDefEqProofs +decide only [go_sem]; done) | (simp -implicitDefEqProofs +decide only [go_sem]; rfl)) rfl vals_nil) (by rintro (_ | _ | _ | _ | _) hp <;> first | (cases hp; done) | simp -implicitDefEqProofs +decide only [go_sem]) rfl
  | false =>
    subst hop
    simp -implicitDefEqProofs +decide only [go_sem]
    refine CallG.pureS _ Tryz.call28 (c1) (by simp only [List.all_cons, List.all_nil, noPtr, noPtrL, noPtr_sW, noPtr_sI, noPtr_sV, noPtrL_U, noPtrL_I, noPtrL_vT, I, List.map_cons, List.map_nil, Bool.and_true, Bool.and_self]) (by first | rfl | (simp only [go_sem]; done) | (simp only [go_sem]; rfl)) ?_
    apply run_sound 200
    simp -implicitDefEqProofs +decide only [go_sem]
    refine Goes.drawP mixed (Calm.of (by repeat first | exact Clean.und | refine Clean.upd ?_ rfl | refine Clean.upd ?_ (by simp only [cleanA, cleanL, ])) (by repeat first | exact HCalm.none | exact HCalm.hb hb | exact HCalm.hb (bank_hb hb) | refine HCalm.row ?_ | refine HCalm.box ?_ (by first | rfl | (simp only [cleanA, cleanL, ]; done) | assumption))) ?_
    simp -implicitDefEqProofs +decide only [go_sem]
    refine CallD.make _ [(.obj 0, bankO 0)] 1 Tryz.call18 n1 rfl hb0 (fun l hp => by cases l <;> first | rfl | cases hp) (fun _ _ => rfl) rfl (.inl (by simp)) ?_
    simp -implicitDefEqProofs +decide only [go_sem]
    refine CallD.look _ Tryz.call32 d1 rfl (bank_hb hb0) (by rintro (_ | _ | _ | _ | _) hp <;> first | (cases hp; done) | simp -implicitDefEqProofs +decide only [go_sem]) ?_
    simp -implicitDefEqProofs +decide only [go_sem]
    refine ⟨.mk (by kernel_rfl), ?_⟩
    apply run_sound 200
    simp -implicitDefEqProofs +decide only [go_sem]
    refine Goes.loop (X := Nat) (fun i => ⟨ofL [(5, .bp (.loc 5 0) 0), (9, .t (.slice [])), (59, .t (.int .i64 0)), (60, .t (.int .i64 i))], ofH (upd (fun _ => none) (.obj 0) (some (bankO 0))) [(.loc 5 0, .box [.t (.slice (d.map I)), .t (.slice (xs.map vT))])], 1⟩) (fun i => i = 0) (fun i => 0) 0 ?_ rfl ?_
    · refine Wk.boxes _ _ (bank_hb hb0) rfl rfl ?_ (by rintro (_ | _ | _ | _ | _) hp <;> first | (cases hp; done) | simp -implicitDefEqProofs +decide only [go_sem]) ?_ ?_
      · simp -implicitDefEqProofs +decide only [go_sem] <;> first | rfl | exact ⟨rfl, rfl⟩ | skip
      · simp -implicitDefEqProofs +decide only [go_sem] <;> rfl
      · simp -implicitDefEqProofs +decide only [go_sem]
    rintro i rfl J hJ
    apply run_sound 200
    simp -implicitDefEqProofs +decide only [go_sem, List.length_map]
    refine Goes.loop (X := Nat) (fun i => ⟨ofL [(9, .t (.slice [])), (154, .t (.int .i64 xs.length)), (155, .t (.int .i64 i))], upd (fun _ => none) (.obj 0) (some (bankO 0)), 1⟩) (fun i => i ≤ xs.length) (fun i => xs.length - i) 0 ?_ (by omega) ?_
    · exact Wk.mixed _ (bank_hb hb0) rfl (by rintro (_ | _ | _ | _ | _) hp <;> first | (cases hp; done) | simp -implicitDefEqProofs +decide only [go_sem, ofH]) (by simp -implicitDefEqProofs +decide only [go_sem] <;> rfl) (by simp -implicitDefEqProofs +decide only [go_sem])
    rintro i hi J2 hJ2
    apply run_sound 200
    simp -implicitDefEqProofs +decide only [go_sem]
    refine selP_dec (fun hc => ?_) (fun hc => ?_)
    · have hw := wS (show i < 1000000000000 by omega)
      simp -implicitDefEqProofs +decide only [go_sem, hw]
      refine hJ2 (i + 1) _ (by omega) (by omega) (Wk.mixed _ (bank_hb hb0) rfl (by rintro (_ | _ | _ | _ | _) hp <;> first | (cases hp; done) | simp -implicitDefEqProofs +decide only [go_sem]) (by simp -implicitDefEqProofs +decide only [go_sem] <;> rfl) (by simp -implicitDefEqProofs +decide only [go_sem]))
    · simp -implicitDefEqProofs +decide only [go_sem]
      refine CallG.pure _ Tryz.call25 (cs) (by first | rfl | (simp only [go_sem]; done) | (simp only [go_sem]; rfl)) (by first | rfl | (simp only [go_sem]; done) | (simp only [go_sem]; rfl)) ?_
      apply run_sound 200
      simp -implicitDefEqProofs +decide only [go_sem]
      exact endF.vals [(6, .bool true)] (.inr rfl) (vals_t (by first | rfl | (simp -implicitDefEqProofs +decide only [go_sem]; done) | (simp -implicitDefEqProofs +decide only [go_sem]; rfl)) rfl vals_nil) (by rintro (_ | _ | _ | _ | _) hp <;> first | (cases hp; done) | simp -implicitDefEqProofs +decide only [go_sem]) rfl
end Go.Fm
/- The law on the best of groups: the walk. -/
namespace Go.Fm
open Go.Proofs
set_option maxRecDepth 100000
attribute [local irreducible] tiOf

theorem sgnI_le (r s : Rat) (h : r ≤ s) : sgnI (r - s) ≤ 0 := by
  have h1 := sgnI_neg r s
  have h2 := sgnI_zero r s
  rcases Classical.em (r = s) with e | e
  · rw [decide_eq_true e] at h2; have := of_decide_eq_true h2; omega
  · have : r < s := Rat.lt_of_le_of_ne h e
    rw [decide_eq_true this] at h1; have := of_decide_eq_true h1; omega
theorem sgnI_ge (r s : Rat) (h : s ≤ r) : 0 ≤ sgnI (r - s) := by
  have h1 := sgnI_neg r s
  rw [decide_eq_false (Rat.not_lt.2 h)] at h1
  have := of_decide_eq_false h1; omega
theorem sgnI_bnd (r : Rat) : -1 ≤ sgnI r ∧ sgnI r ≤ 1 := by 
  unfold sgnI
  split
  · omega
  · split <;> omega
def sgnM (mn : Bool) : Int := match mn with | true => -1 | false => 1
/-- What the law finds when it holds an element against the best. -/
theorem best_law {mn : Bool} {x r : Rat} {k q : Nat} (h : notA mn x r ∧ (k < q → x ≠ r)) (hq : k = q → x = r) : ∃ c : Int, sgnM mn * sgnI (x - r) = c ∧ IntKind.wrap .i64 c = c ∧ decide (0 < c) = false ∧ ((decide (c = 0) && decide ((k : Int) < (q : Int))) = false) ∧ ((decide ((k : Int) = (q : Int)) && decide (c ≠ 0)) = false) := by
  have h2 := sgnI_zero x r
  have hb := sgnI_bnd (x - r)
  have hz : sgnI (x - r) = 0 ↔ x = r := by
    constructor
    · intro e; rw [decide_eq_true e] at h2; exact of_decide_eq_true h2.symm
    · intro e; rw [decide_eq_true e] at h2; exact of_decide_eq_true h2
  have hs : sgnM mn * sgnI (x - r) ≤ 0 := by
    cases mn with
    | true => have := sgnI_ge x r h.1; show -1 * _ ≤ (0 : Int); omega
    | false => have := sgnI_le x r h.1; show 1 * _ ≤ (0 : Int); omega
  have hs0 : sgnM mn * sgnI (x - r) = 0 ↔ sgnI (x - r) = 0 := by
    cases mn
    · show 1 * _ = (0 : Int) ↔ _; omega
    · show -1 * _ = (0 : Int) ↔ _; omega
  have hsb : -1 ≤ sgnM mn * sgnI (x - r) := by
    cases mn
    · show -1 ≤ 1 * sgnI (x - r); omega
    · show -1 ≤ -1 * sgnI (x - r); omega
  refine ⟨_, rfl, by rw [w64] <;> omega, decide_eq_false (by omega), ?_, ?_⟩
  · by_cases e : sgnM mn * sgnI (x - r) = 0
    · rw [decide_eq_true e, Bool.true_and]
      refine decide_eq_false fun hlt => h.2 (by omega) (hz.1 (hs0.1 e))
    · rw [decide_eq_false e]; rfl
  · by_cases e : k = q
    · have : sgnM mn * sgnI (x - r) = 0 := hs0.2 (hz.2 (hq e))
      rw [decide_eq_false (p := sgnM mn * sgnI (x - r) ≠ 0) (fun h => h this), Bool.and_false]
    · rw [decide_eq_false (p := (k : Int) = (q : Int)) (by omega)]; rfl
end Go.Fm
/- The law on the best of groups: the walk's main case. -/
namespace Go.Fm
open Go.Proofs
set_option maxRecDepth 100000
attribute [local irreducible] tiOf

theorem metCells_refs (K : List Lab) (L : List (List Int)) (i j : Nat) : refsInL K (metCells L i j) = true := by
  rw [refsInL_iff]
  intro x hx
  obtain ⟨n, _, rfl⟩ := List.mem_map.1 hx
  rfl
theorem refsInL_t (K : List Lab) (a b : T) : refsInL K [.t a, .t b] = true := rfl
set_option maxHeartbeats 8000000 in
theorem reduceBest_yes (ls : Bool) (op : Int) (x : Atr) (d : List Int) (xs : List Rat) (hop : op = match ls with | true => 30 | false => 29) (cr : Pure Tryz.prog 15 [.int .i64 0, .slice [argT d xs]] [.t (.bool true)]) (hd : d.length < 1000000000) (hx : x.list.length < 9000000000000000000) (hl : (xs.length : Int) = cnt d) (hl64 : xs.length ≤ 100) (hxq : ∀ r ∈ xs, QB r 9)
    (h0 : (redE op x d).2 = 0) : Pure Tryz.prog 8 [.bool ls, x.T, argT d xs] [.t (.bool true)] := by
  obtain ⟨mn, hmm⟩ : ∃ mn, mn = ls := ⟨_, rfl⟩
  have cs := same27_ok
  have cc := rCount_ok d hd
  have hb0 : ∀ l, Lab.pool l = false → (fun _ => none : Heap) l = none := fun _ _ => rfl
  have n1 := bankNew_ok (fun _ => none) 0 hb0 rfl
  have c1 := redGroups_ok op x d hd hx h0
  have hop' : op = 29 ∨ op = 30 := by cases ls; exact .inl hop; exact .inr hop
  have hmn : decide (op = 30) = mn := by subst hmm; cases mn <;> subst hop <;> rfl
  have d1 := doBest_ok (upd (fun _ => none) (.obj 0) (some (bankO 0))) 1 0 0 op mn x d xs (bank_hb hb0) (upd_same _ _ _) rfl hop' hmn hd hx h0 hl (fun r hr => (hxq r hr).mono (by decide))
  obtain ⟨_, hc, _, _⟩ := red0 h0
  have hG := grp_of hc (axesI op x)
  have GG := GL_of hG
  have hall := fun z hz => metA_all hG (z := z) hz
  have hcd : cnt d = prodL d := by unfold cnt; rw [if_pos hc]
  have hN := (chk0 hc).2.2
  rw [show (prodL d).toNat = xs.length by omega] at GG
  generalize groupsL (marksI d.length (axesI op x)) d = L at *
  have hget := fun i g => doF_get (mn := mn) (v := xs) GG L.length i g (Nat.le_refl _)
  have hlen := doF_len mn xs L L.length
  have hL64 := GG.len
  have hfl := Nat.le_trans (flat_len (L := L) fun g hg => (GG.each g hg).2.1) (Nat.mul_le_mul_right 64 hL64)
  have dl : decide ((xs.length : Int) ≠ cnt d) = false := decide_eq_false (by omega)
  obtain ⟨⟨vs, wh, mt, ti⟩, hs⟩ : ∃ s, doF mn xs L L.length = s := ⟨_, rfl⟩
  rw [hs] at d1 hget hlen
  dsimp only at d1 hget hlen
  have hvl : (vs.map vT).length = L.length := by rw [List.length_map]; exact hlen.1
  have hwl : (wh.map I).length = L.length := by rw [List.length_map]; exact hlen.2
  have hgl : (L.map sI).length = L.length := by simp
  have dK : decide ((L.length : Int) ≠ (L.length : Int)) = false := by simp
  obtain ⟨a1, a2, a3, a4, a5, a6, a7, a8, ak, al⟩ := x
  simp only [argT, sI, sV, sL, Atr.T, I] at cr cc c1 d1
  refine Pure.drop (h' := bankU (upd (fun _ => none) (.obj 0) (some (bankO 0))) 0 0 mt ti) (m' := 1) ?_ rfl
  refine Ret.intro Tryz.func8 rfl (rt := [6]) rfl (by simp [Tryz.ntmps8]) (by decide) (sites := fun _ => false) (bankU_hb (bank_hb hb0)) (Keeps.none _) ?_
  apply run_sound 200
  simp -implicitDefEqProofs +decide only [go_sem, Atr.T, argT, I, sI, sV]
  refine Goes.drawN mixed ?_
  simp -implicitDefEqProofs +decide only [go_sem]
  refine CallD.pure _ Tryz.call15 cr (by simp only [List.all_cons, List.all_nil, noPtr, noPtrL, noPtr_sW, noPtr_sI, noPtr_sV, noPtrL_U, noPtrL_I, noPtrL_vT, I, List.map_cons, List.map_nil, Bool.and_true, Bool.and_self]) (by first | rfl | (simp only [go_sem]; done) | (simp only [go_sem]; rfl)) ?_
  simp -implicitDefEqProofs +decide only [go_sem, List.length_map]
  refine CallD.pure _ Tryz.call31 cc (by first | rfl | (simp only [go_sem]; done) | (simp only [go_sem]; rfl)) (by first | rfl | (simp only [go_sem]; done) | (simp only [go_sem]; rfl)) ?_
  simp -implicitDefEqProofs +decide only [go_sem, dl]
  refine ⟨.mk (by kernel_rfl), ?_⟩
  apply run_sound 200
  cases ls with
  | true =>
    have hsg : sgnM mn = -1 := by rw [hmm]; rfl
    subst hop
    simp -implicitDefEqProofs +decide only [go_sem]
    refine CallG.pureS _ Tryz.call28 (c1) (by simp only [List.all_cons, List.all_nil, noPtr, noPtrL, noPtr_sW, noPtr_sI, noPtr_sV, noPtrL_U, noPtrL_I, noPtrL_vT, I, List.map_cons, List.map_nil, Bool.and_true, Bool.and_self]) (by first | rfl | (simp only [go_sem]; done) | (simp only [go_sem]; rfl)) ?_
    apply run_sound 200
    simp -implicitDefEqProofs +decide only [go_sem]
    refine Goes.drawP mixed (Calm.of (by repeat first | exact Clean.und | refine Clean.upd ?_ rfl | refine Clean.upd ?_ (by simp only [cleanA, cleanL, ])) (by repeat first | exact HCalm.none | exact HCalm.hb hb | exact HCalm.hb (bank_hb hb) | refine HCalm.row ?_ | refine HCalm.box ?_ (by first | rfl | (simp only [cleanA, cleanL, ]; done) | assumption))) ?_
    simp -implicitDefEqProofs +decide only [go_sem]
    refine CallD.make _ [(.obj 0, bankO 0)] 1 Tryz.call18 n1 rfl hb0 (fun l hp => by cases l <;> first | rfl | cases hp) (fun _ _ => rfl) rfl (.inl (by simp)) ?_
    simp -implicitDefEqProofs +decide only [go_sem]
    obtain ⟨o, hmR⟩ : ∃ o, metR mt = o := ⟨_, rfl⟩
    cases o with
    | none =>
      have hwr : ∀ l, bankU (upd (fun _ => none) (.obj 0) (some (bankO 0))) 0 0 mt ti l = writes (upd (fun _ => none) (.obj 0) (some (bankO 0))) [(.obj 0, bankS 0 0 mt ti)] l := fun l => by
        unfold bankU
        rw [hmR]
        by_cases e : l = .fld 0 4
        · subst e; rfl
        · rw [upd_ne _ _ _ _ e]; rfl
      refine CallD.make _ [(.obj 0, bankS 0 0 mt ti)] 0 Tryz.call32 d1 rfl (bank_hb hb0) (by rintro (_ | _ | _ | _ | _) hp <;> first | (cases hp; done) | simp -implicitDefEqProofs +decide only [go_sem]) (fun l _ => hwr l) rfl (.inr rfl) ?_
      simp -implicitDefEqProofs +decide only [go_sem]
      refine ⟨.mk (by kernel_rfl), ?_⟩
      apply run_sound 200
      simp -implicitDefEqProofs +decide only [go_sem, List.length_map, hvl, hwl, hgl, dK]
      refine Goes.loop (X := Nat) (fun i => ⟨ofL [(5, .bp (.loc 5 0) 0), (8, .t (.int .i64 (sgnM mn))), (9, .t (sL L)), (10, .t (sV vs)), (11, .t (sI wh)), (12, .bp (.loc 12 0) 0), (59, .t (.int .i64 L.length)), (60, .t (.int .i64 i))],
        ofH (bankU (upd (fun _ => none) (.obj 0) (some (bankO 0))) 0 0 mt ti) [(.loc 5 0, .box [.t (.slice (d.map I)), .t (.slice (xs.map vT))]), (.loc 12 0, .box (metCells L i 0))], 1⟩) (fun i => i ≤ L.length) (fun i => L.length - i) 0 ?_ (by omega) ?_
      · refine Wk.boxes _ _ (bankU_hb (bank_hb hb0)) rfl (by simp only [List.all_cons, List.all_nil, metCells_refs, refsInL_t, Lab.pool, Bool.not_false, Bool.and_self]) ?_ (fun l hp => ?_) ?_ ?_
        · have hz := metCells_zero L
          simp -implicitDefEqProofs +decide only [go_sem, hz] <;> first | rfl | exact ⟨rfl, rfl⟩ | skip
        · cases l <;> first | (cases hp; done) | simp -implicitDefEqProofs +decide only [go_sem, hwr]
        · simp -implicitDefEqProofs +decide only [go_sem, sL, sV, sI, hsg] <;> rfl
        · simp -implicitDefEqProofs +decide only [go_sem, sL, sV, sI]
      rintro i hi J hJ
      apply run_sound 200
      simp -implicitDefEqProofs +decide only [go_sem]
      refine selP_dec (fun hc1 => ?_) (fun hc1 => ?_)
      · obtain ⟨g, hg⟩ := getI (show i < L.length by omega)
        obtain ⟨q, r, hwq, hvq, hq, hr, hbest⟩ := hget i g (by omega) hg
        obtain ⟨g1, g64, gz⟩ := GG.each g (List.mem_of_getElem? hg)
        have hwi := wS (show i < 1000000000000 by omega)
        have hq1 : decide (g.length ≤ q) = false := decide_eq_false (by omega)
        refine Goes.drawN mixed ?_
        simp -implicitDefEqProofs +decide only [go_sem, sL, sI, hwq, hg, I, hq1, List.length_map]
        refine ⟨.mk (by kernel_rfl), ?_⟩
        apply run_sound 200
        simp -implicitDefEqProofs +decide only [go_sem, sL, sI, hg, List.length_map]
        refine Goes.loop (X := Nat) (fun j => ⟨ofL [(5, .bp (.loc 5 0) 0), (8, .t (.int .i64 (sgnM mn))), (9, .t (sL L)), (10, .t (sV vs)), (11, .t (sI wh)), (12, .bp (.loc 12 0) 0), (13, .t (.int .i64 i)), (59, .t (.int .i64 L.length)), (60, .t (.int .i64 i)), (84, .t (.int .i64 g.length)), (85, .t (.int .i64 j))],
          ofH (bankU (upd (fun _ => none) (.obj 0) (some (bankO 0))) 0 0 mt ti) [(.loc 5 0, .box [.t (.slice (d.map I)), .t (.slice (xs.map vT))]), (.loc 12 0, .box (metCells L i j))], 1⟩) (fun j => j ≤ g.length) (fun j => g.length - j) 0 ?_ (by omega) ?_
        · refine Wk.boxes _ _ (bankU_hb (bank_hb hb0)) rfl (by simp only [List.all_cons, List.all_nil, metCells_refs, refsInL_t, Lab.pool, Bool.not_false, Bool.and_self]) ?_ (fun l hp => ?_) ?_ ?_
          · simp -implicitDefEqProofs +decide only [go_sem, ofH] <;> first | rfl | exact ⟨rfl, rfl⟩ | skip
          · cases l <;> first | (cases hp; done) | simp -implicitDefEqProofs +decide only [go_sem, ofH]
          · simp -implicitDefEqProofs +decide only [go_sem, sL, sV, sI] <;> rfl
          · simp -implicitDefEqProofs +decide only [go_sem, sL, sV, sI]
        rintro j hj J2 hJ2
        apply run_sound 200
        simp -implicitDefEqProofs +decide only [go_sem]
        refine selP_dec (fun hc2 => ?_) (fun hc2 => ?_)
        · obtain ⟨z, hz⟩ := getI (show j < g.length by omega)
          obtain ⟨n, rfl⟩ : ∃ n : Nat, z = (n : Int) := ⟨z.toNat, by have := gz z (List.mem_of_getElem? hz); omega⟩
          have hnv := gz _ (List.mem_of_getElem? hz)
          obtain ⟨y, hy⟩ := getI (show n < xs.length by omega)
          have hn64 : n < 64 := by omega
          have hwj := wS (show j < 1000000000000 by omega)
          have hrq := hxq y (List.mem_of_getElem? hy)
          have hpy : (pickG xs g).getD j 0 = y := by
            unfold pickG
            rw [List.getD_eq_getElem?_getD, List.getElem?_map, hz, Option.map_some, Option.getD_some, Int.toNat_natCast, List.getD_eq_getElem?_getD, hy]; rfl
          have hbj := hbest j (by omega)
          rw [hpy] at hbj
          have hrr : ∃ y' ∈ xs, r = y' := by
            obtain ⟨y', hy'⟩ := getI (show q < (pickG xs g).length by rw [pickG_length]; exact hq)
            rw [List.getD_eq_getElem?_getD, hy', Option.getD_some] at hr
            subst hr
            exact pickG_mem (P := fun z => ∃ y' ∈ xs, z = y') (fun z hz => ⟨z, hz, rfl⟩) gz _ (List.mem_of_getElem? hy')
          obtain ⟨y', hy'm, hry⟩ := hrr
          have hrr := hxq y' hy'm
          rw [← hry] at hrr
          obtain ⟨c, hc0, hcw, hc1', hc2', hc3'⟩ := best_law (mn := mn) (q := q) hbj (fun e => by rw [← hpy, hr, e])
          have cmp := rCmp_okQ y r (hrq.mono (by decide)) (hrr.mono (by decide)) ((ZB_of hrq).mono (by decide)) ((ZB_of hrr).mono (by decide))
          rw [qT, qT] at cmp
          have hn1 : decide (xs.length ≤ n) = false := decide_eq_false (by omega)
          have hma := metA_le L i j n
          have hwm : IntKind.wrap .i64 ((metA L i j n : Nat) + 1 : Int) = ((metA L i j n + 1 : Nat) : Int) := wS (by omega)
          have hmg := metCells_get (L := L) (i := i) (j := j) hn64
          have hms := metCells_set hg hz hn64
          have hml := metCells_length L i j
          generalize metA L i j n = w at *
          simp -implicitDefEqProofs +decide only [go_sem, hg, sL, sI, hz, I, hn1, List.length_map, ofH]
          simp -implicitDefEqProofs +decide only [go_sem, hn64, hmg, hwm, hms, hml]
          refine Goes.drawN mixed ?_
          simp -implicitDefEqProofs +decide only [go_sem, hy, hvq, vT_eq, sV, Int.toNat_natCast]
          refine CallD.pure _ Tryz.call33 cmp (by first | rfl | (simp only [go_sem]; done) | (simp only [go_sem]; rfl)) (by first | rfl | (simp only [go_sem]; done) | (simp only [go_sem]; rfl)) ?_
          simp -implicitDefEqProofs +decide only [go_sem, hc0, hcw]
          refine ⟨.mk (by kernel_rfl), ?_⟩
          apply run_sound 200
          have wkJ : ∀ s' : St, s'.nxt = 1 → (∀ p ∈ ([(.loc 5 0, .box [.t (.slice (d.map I)), .t (.slice (xs.map vT))]), (.loc 12 0, .box (metCells L i (j + 1)))] : List (Lab × Obj)), s'.h p.1 = some p.2) → (∀ lab, Lab.pool lab = true → s'.h lab = bankU (upd (fun _ => none) (.obj 0) (some (bankO 0))) 0 0 mt ti lab) →
              (∀ p ∈ ([(5, .bp (.loc 5 0) 0), (8, .t (.int .i64 (sgnM mn))), (9, .t (sL L)), (10, .t (sV vs)), (11, .t (sI wh)), (12, .bp (.loc 12 0) 0), (13, .t (.int .i64 i)), (59, .t (.int .i64 L.length)), (60, .t (.int .i64 i)), (84, .t (.int .i64 g.length)), (85, .t (.int .i64 (j + 1 : Nat)))] : List (Nat × AV)), s'.f p.1 = p.2) → J2 s' := fun s' h1 h2 h3 h4 =>
            hJ2 (j + 1) s' (by omega) (by omega) (Wk.boxes _ _ (bankU_hb (bank_hb hb0)) h1 (by simp only [List.all_cons, List.all_nil, metCells_refs, refsInL_t, Lab.pool, Bool.not_false, Bool.and_self]) h2 h3 h4 (by simp -implicitDefEqProofs +decide only [go_sem, sL, sV, sI]))
          by_cases ec : c = 0
          · subst ec
            have hjq : ¬ j < q := fun h => by
              rw [decide_eq_true rfl, Bool.true_and] at hc2'
              have := of_decide_eq_false hc2'; omega
            have e1 : decide (j < q) = false := decide_eq_false hjq
            by_cases ej : j = q
            · subst ej
              simp -implicitDefEqProofs +decide only [go_sem, hwq, sI, I, e1]
              refine wkJ _ rfl ?_ (fun l hp => ?_) ?_
              · simp -implicitDefEqProofs +decide only [go_sem, hwj] <;> first | rfl | exact ⟨rfl, rfl⟩ | skip
              · cases l <;> first | (cases hp; done) | simp -implicitDefEqProofs +decide only [go_sem]
              · simp -implicitDefEqProofs +decide only [go_sem, sL, sV, sI, hwj] <;> rfl
            · have e2 : decide ((j : Int) = (q : Int)) = false := decide_eq_false (by omega)
              simp -implicitDefEqProofs +decide only [go_sem, hwq, sI, I, e1, e2]
              refine wkJ _ rfl ?_ (fun l hp => ?_) ?_
              · simp -implicitDefEqProofs +decide only [go_sem, hwj] <;> first | rfl | exact ⟨rfl, rfl⟩ | skip
              · cases l <;> first | (cases hp; done) | simp -implicitDefEqProofs +decide only [go_sem]
              · simp -implicitDefEqProofs +decide only [go_sem, sL, sV, sI, hwj] <;> rfl
          · have e0 : decide (c = 0) = false := decide_eq_false ec
            have e3 : decide ((j : Int) = (q : Int)) = false := by
              rw [decide_eq_true (p := c ≠ 0) ec, Bool.and_true] at hc3'
              exact hc3'
            simp -implicitDefEqProofs +decide only [go_sem, hwq, sI, I, e0, e3, hc1']
            refine wkJ _ rfl ?_ (fun l hp => ?_) ?_
            · simp -implicitDefEqProofs +decide only [go_sem, hwj] <;> first | rfl | exact ⟨rfl, rfl⟩ | skip
            · cases l <;> first | (cases hp; done) | simp -implicitDefEqProofs +decide only [go_sem]
            · simp -implicitDefEqProofs +decide only [go_sem, sL, sV, sI, hwj] <;> rfl
        · obtain rfl : j = g.length := by omega
          have hnx := metCells_next hg
          simp -implicitDefEqProofs +decide only [go_sem, hwi, ofH]
          refine hJ (i + 1) _ (by omega) (by omega) (Wk.boxes _ _ (bankU_hb (bank_hb hb0)) rfl (by simp only [List.all_cons, List.all_nil, metCells_refs, refsInL_t, Lab.pool, Bool.not_false, Bool.and_self]) ?_ (fun l hp => ?_) ?_ ?_)
          · simp -implicitDefEqProofs +decide only [go_sem, hnx] <;> first | rfl | exact ⟨rfl, rfl⟩ | skip
          · cases l <;> first | (cases hp; done) | simp -implicitDefEqProofs +decide only [go_sem]
          · simp -implicitDefEqProofs +decide only [go_sem, sL, sV, sI] <;> rfl
          · simp -implicitDefEqProofs +decide only [go_sem, sL, sV, sI]
      · obtain rfl : i = L.length := by omega
        simp -implicitDefEqProofs +decide only [go_sem, List.length_map, ofH]
        refine Goes.loop (X := Nat) (fun n => ⟨ofL [(9, .t (sL L)), (12, .bp (.loc 12 0) 0), (154, .t (.int .i64 xs.length)), (155, .t (.int .i64 n))],
          ofH (bankU (upd (fun _ => none) (.obj 0) (some (bankO 0))) 0 0 mt ti) [(.loc 12 0, .box (metCells L L.length 0))], 1⟩) (fun n => n ≤ xs.length) (fun n => xs.length - n) 0 ?_ (by omega) ?_
        · refine Wk.boxes _ _ (bankU_hb (bank_hb hb0)) rfl (by simp only [List.all_cons, List.all_nil, metCells_refs, refsInL_t, Lab.pool, Bool.not_false, Bool.and_self]) ?_ (fun l hp => ?_) ?_ ?_
          · simp -implicitDefEqProofs +decide only [go_sem] <;> first | rfl | exact ⟨rfl, rfl⟩ | skip
          · cases l <;> first | (cases hp; done) | simp -implicitDefEqProofs +decide only [go_sem]
          · simp -implicitDefEqProofs +decide only [go_sem, sL] <;> rfl
          · simp -implicitDefEqProofs +decide only [go_sem, sL]
        rintro n hn J3 hJ3
        apply run_sound 200
        simp -implicitDefEqProofs +decide only [go_sem]
        refine selP_dec (fun hc4 => ?_) (fun hc4 => ?_)
        · have hn100 : n < 100 := by omega
          have hn64 : n < 64 := by omega
          have hmg := metCells_get (L := L) (i := L.length) (j := 0) hn64
          rw [hall n (by rw [← hcd, ← hl]; omega)] at hmg
          have hL0 : decide ((0 : Int) < (L.length : Int)) = true := decide_eq_true (by have := GG.ne; omega)
          have hwn : IntKind.wrap .i64 ((n : Int) + 1) = ((n + 1 : Nat) : Int) := wS (by omega)
          simp -implicitDefEqProofs +decide only [go_sem, sL, hgl, hL0, hn64, hmg, ofH]
          simp -implicitDefEqProofs +decide only [go_sem, hwn]
          refine hJ3 (n + 1) _ (by omega) (by omega) (Wk.boxes _ _ (bankU_hb (bank_hb hb0)) rfl (by simp only [List.all_cons, List.all_nil, metCells_refs, refsInL_t, Lab.pool, Bool.not_false, Bool.and_self]) ?_ (fun l hp => ?_) ?_ ?_)
          · simp -implicitDefEqProofs +decide only [go_sem] <;> first | rfl | exact ⟨rfl, rfl⟩ | skip
          · cases l <;> first | (cases hp; done) | simp -implicitDefEqProofs +decide only [go_sem]
          · simp -implicitDefEqProofs +decide only [go_sem, sL] <;> rfl
          · simp -implicitDefEqProofs +decide only [go_sem, sL]
        · simp -implicitDefEqProofs +decide only [go_sem]
          refine CallG.pure _ Tryz.call25 (cs) (by first | rfl | (simp only [go_sem]; done) | (simp only [go_sem]; rfl)) (by first | rfl | (simp only [go_sem]; done) | (simp only [go_sem]; rfl)) ?_
          apply run_sound 200
          simp -implicitDefEqProofs +decide only [go_sem]
          exact endF.vals [(6, .bool true)] (.inr rfl) (vals_t (by first | rfl | (simp -implicitDefEqProofs +decide only [go_sem]; done) | (simp -implicitDefEqProofs +decide only [go_sem]; rfl)) rfl vals_nil) (by rintro (_ | _ | _ | _ | _) hp <;> first | (cases hp; done) | simp -implicitDefEqProofs +decide only [go_sem, ofH]) rfl
    | some o =>
      have hwr : ∀ l, bankU (upd (fun _ => none) (.obj 0) (some (bankO 0))) 0 0 mt ti l = writes (upd (fun _ => none) (.obj 0) (some (bankO 0))) [(.obj 0, bankS 0 0 mt ti), (.fld 0 4, o)] l := fun l => by
        unfold bankU
        rw [hmR]; rfl
      refine CallD.make _ [(.obj 0, bankS 0 0 mt ti), (.fld 0 4, o)] 0 Tryz.call32 d1 rfl (bank_hb hb0) (by rintro (_ | _ | _ | _ | _) hp <;> first | (cases hp; done) | simp -implicitDefEqProofs +decide only [go_sem]) (fun l _ => hwr l) rfl (.inr rfl) ?_
      simp -implicitDefEqProofs +decide only [go_sem]
      refine ⟨.mk (by kernel_rfl), ?_⟩
      apply run_sound 200
      simp -implicitDefEqProofs +decide only [go_sem, List.length_map, hvl, hwl, hgl, dK]
      refine Goes.loop (X := Nat) (fun i => ⟨ofL [(5, .bp (.loc 5 0) 0), (8, .t (.int .i64 (sgnM mn))), (9, .t (sL L)), (10, .t (sV vs)), (11, .t (sI wh)), (12, .bp (.loc 12 0) 0), (59, .t (.int .i64 L.length)), (60, .t (.int .i64 i))],
        ofH (bankU (upd (fun _ => none) (.obj 0) (some (bankO 0))) 0 0 mt ti) [(.loc 5 0, .box [.t (.slice (d.map I)), .t (.slice (xs.map vT))]), (.loc 12 0, .box (metCells L i 0))], 1⟩) (fun i => i ≤ L.length) (fun i => L.length - i) 0 ?_ (by omega) ?_
      · refine Wk.boxes _ _ (bankU_hb (bank_hb hb0)) rfl (by simp only [List.all_cons, List.all_nil, metCells_refs, refsInL_t, Lab.pool, Bool.not_false, Bool.and_self]) ?_ (fun l hp => ?_) ?_ ?_
        · have hz := metCells_zero L
          simp -implicitDefEqProofs +decide only [go_sem, hz] <;> first | rfl | exact ⟨rfl, rfl⟩ | skip
        · cases l <;> first | (cases hp; done) | simp -implicitDefEqProofs +decide only [go_sem, hwr]
        · simp -implicitDefEqProofs +decide only [go_sem, sL, sV, sI, hsg] <;> rfl
        · simp -implicitDefEqProofs +decide only [go_sem, sL, sV, sI]
      rintro i hi J hJ
      apply run_sound 200
      simp -implicitDefEqProofs +decide only [go_sem]
      refine selP_dec (fun hc1 => ?_) (fun hc1 => ?_)
      · obtain ⟨g, hg⟩ := getI (show i < L.length by omega)
        obtain ⟨q, r, hwq, hvq, hq, hr, hbest⟩ := hget i g (by omega) hg
        obtain ⟨g1, g64, gz⟩ := GG.each g (List.mem_of_getElem? hg)
        have hwi := wS (show i < 1000000000000 by omega)
        have hq1 : decide (g.length ≤ q) = false := decide_eq_false (by omega)
        refine Goes.drawN mixed ?_
        simp -implicitDefEqProofs +decide only [go_sem, sL, sI, hwq, hg, I, hq1, List.length_map]
        refine ⟨.mk (by kernel_rfl), ?_⟩
        apply run_sound 200
        simp -implicitDefEqProofs +decide only [go_sem, sL, sI, hg, List.length_map]
        refine Goes.loop (X := Nat) (fun j => ⟨ofL [(5, .bp (.loc 5 0) 0), (8, .t (.int .i64 (sgnM mn))), (9, .t (sL L)), (10, .t (sV vs)), (11, .t (sI wh)), (12, .bp (.loc 12 0) 0), (13, .t (.int .i64 i)), (59, .t (.int .i64 L.length)), (60, .t (.int .i64 i)), (84, .t (.int .i64 g.length)), (85, .t (.int .i64 j))],
          ofH (bankU (upd (fun _ => none) (.obj 0) (some (bankO 0))) 0 0 mt ti) [(.loc 5 0, .box [.t (.slice (d.map I)), .t (.slice (xs.map vT))]), (.loc 12 0, .box (metCells L i j))], 1⟩) (fun j => j ≤ g.length) (fun j => g.length - j) 0 ?_ (by omega) ?_
        · refine Wk.boxes _ _ (bankU_hb (bank_hb hb0)) rfl (by simp only [List.all_cons, List.all_nil, metCells_refs, refsInL_t, Lab.pool, Bool.not_false, Bool.and_self]) ?_ (fun l hp => ?_) ?_ ?_
          · simp -implicitDefEqProofs +decide only [go_sem, ofH] <;> first | rfl | exact ⟨rfl, rfl⟩ | skip
          · cases l <;> first | (cases hp; done) | simp -implicitDefEqProofs +decide only [go_sem, ofH]
          · simp -implicitDefEqProofs +decide only [go_sem, sL, sV, sI] <;> rfl
          · simp -implicitDefEqProofs +decide only [go_sem, sL, sV, sI]
        rintro j hj J2 hJ2
        apply run_sound 200
        simp -implicitDefEqProofs +decide only [go_sem]
        refine selP_dec (fun hc2 => ?_) (fun hc2 => ?_)
        · obtain ⟨z, hz⟩ := getI (show j < g.length by omega)
          obtain ⟨n, rfl⟩ : ∃ n : Nat, z = (n : Int) := ⟨z.toNat, by have := gz z (List.mem_of_getElem? hz); omega⟩
          have hnv := gz _ (List.mem_of_getElem? hz)
          obtain ⟨y, hy⟩ := getI (show n < xs.length by omega)
          have hn64 : n < 64 := by omega
          have hwj := wS (show j < 1000000000000 by omega)
          have hrq := hxq y (List.mem_of_getElem? hy)
          have hpy : (pickG xs g).getD j 0 = y := by
            unfold pickG
            rw [List.getD_eq_getElem?_getD, List.getElem?_map, hz, Option.map_some, Option.getD_some, Int.toNat_natCast, List.getD_eq_getElem?_getD, hy]; rfl
          have hbj := hbest j (by omega)
          rw [hpy] at hbj
          have hrr : ∃ y' ∈ xs, r = y' := by
            obtain ⟨y', hy'⟩ := getI (show q < (pickG xs g).length by rw [pickG_length]; exact hq)
            rw [List.getD_eq_getElem?_getD, hy', Option.getD_some] at hr
            subst hr
            exact pickG_mem (P := fun z => ∃ y' ∈ xs, z = y') (fun z hz => ⟨z, hz, rfl⟩) gz _ (List.mem_of_getElem? hy')
          obtain ⟨y', hy'm, hry⟩ := hrr
          have hrr := hxq y' hy'm
          rw [← hry] at hrr
          obtain ⟨c, hc0, hcw, hc1', hc2', hc3'⟩ := best_law (mn := mn) (q := q) hbj (fun e => by rw [← hpy, hr, e])
          have cmp := rCmp_okQ y r (hrq.mono (by decide)) (hrr.mono (by decide)) ((ZB_of hrq).mono (by decide)) ((ZB_of hrr).mono (by decide))
          rw [qT, qT] at cmp
          have hn1 : decide (xs.length ≤ n) = false := decide_eq_false (by omega)
          have hma := metA_le L i j n
          have hwm : IntKind.wrap .i64 ((metA L i j n : Nat) + 1 : Int) = ((metA L i j n + 1 : Nat) : Int) := wS (by omega)
          have hmg := metCells_get (L := L) (i := i) (j := j) hn64
          have hms := metCells_set hg hz hn64
          have hml := metCells_length L i j
          generalize metA L i j n = w at *
          simp -implicitDefEqProofs +decide only [go_sem, hg, sL, sI, hz, I, hn1, List.length_map, ofH]
          simp -implicitDefEqProofs +decide only [go_sem, hn64, hmg, hwm, hms, hml]
          refine Goes.drawN mixed ?_
          simp -implicitDefEqProofs +decide only [go_sem, hy, hvq, vT_eq, sV, Int.toNat_natCast]
          refine CallD.pure _ Tryz.call33 cmp (by first | rfl | (simp only [go_sem]; done) | (simp only [go_sem]; rfl)) (by first | rfl | (simp only [go_sem]; done) | (simp only [go_sem]; rfl)) ?_
          simp -implicitDefEqProofs +decide only [go_sem, hc0, hcw]
          refine ⟨.mk (by kernel_rfl), ?_⟩
          apply run_sound 200
          have wkJ : ∀ s' : St, s'.nxt = 1 → (∀ p ∈ ([(.loc 5 0, .box [.t (.slice (d.map I)), .t (.slice (xs.map vT))]), (.loc 12 0, .box (metCells L i (j + 1)))] : List (Lab × Obj)), s'.h p.1 = some p.2) → (∀ lab, Lab.pool lab = true → s'.h lab = bankU (upd (fun _ => none) (.obj 0) (some (bankO 0))) 0 0 mt ti lab) →
              (∀ p ∈ ([(5, .bp (.loc 5 0) 0), (8, .t (.int .i64 (sgnM mn))), (9, .t (sL L)), (10, .t (sV vs)), (11, .t (sI wh)), (12, .bp (.loc 12 0) 0), (13, .t (.int .i64 i)), (59, .t (.int .i64 L.length)), (60, .t (.int .i64 i)), (84, .t (.int .i64 g.length)), (85, .t (.int .i64 (j + 1 : Nat)))] : List (Nat × AV)), s'.f p.1 = p.2) → J2 s' := fun s' h1 h2 h3 h4 =>
            hJ2 (j + 1) s' (by omega) (by omega) (Wk.boxes _ _ (bankU_hb (bank_hb hb0)) h1 (by simp only [List.all_cons, List.all_nil, metCells_refs, refsInL_t, Lab.pool, Bool.not_false, Bool.and_self]) h2 h3 h4 (by simp -implicitDefEqProofs +decide only [go_sem, sL, sV, sI]))
          by_cases ec : c = 0
          · subst ec
            have hjq : ¬ j < q := fun h => by
              rw [decide_eq_true rfl, Bool.true_and] at hc2'
              have := of_decide_eq_false hc2'; omega
            have e1 : decide (j < q) = false := decide_eq_false hjq
            by_cases ej : j = q
            · subst ej
              simp -implicitDefEqProofs +decide only [go_sem, hwq, sI, I, e1]
              refine wkJ _ rfl ?_ (fun l hp => ?_) ?_
              · simp -implicitDefEqProofs +decide only [go_sem, hwj] <;> first | rfl | exact ⟨rfl, rfl⟩ | skip
              · cases l <;> first | (cases hp; done) | simp -implicitDefEqProofs +decide only [go_sem]
              · simp -implicitDefEqProofs +decide only [go_sem, sL, sV, sI, hwj] <;> rfl
            · have e2 : decide ((j : Int) = (q : Int)) = false := decide_eq_false (by omega)
              simp -implicitDefEqProofs +decide only [go_sem, hwq, sI, I, e1, e2]
              refine wkJ _ rfl ?_ (fun l hp => ?_) ?_
              · simp -implicitDefEqProofs +decide only [go_sem, hwj] <;> first | rfl | exact ⟨rfl, rfl⟩ | skip
              · cases l <;> first | (cases hp; done) | simp -implicitDefEqProofs +decide only [go_sem]
              · simp -implicitDefEqProofs +decide only [go_sem, sL, sV, sI, hwj] <;> rfl
          · have e0 : decide (c = 0) = false := decide_eq_false ec
            have e3 : decide ((j : Int) = (q : Int)) = false := by
              rw [decide_eq_true (p := c ≠ 0) ec, Bool.and_true] at hc3'
              exact hc3'
            simp -implicitDefEqProofs +decide only [go_sem, hwq, sI, I, e0, e3, hc1']
            refine wkJ _ rfl ?_ (fun l hp => ?_) ?_
            · simp -implicitDefEqProofs +decide only [go_sem, hwj] <;> first | rfl | exact ⟨rfl, rfl⟩ | skip
            · cases l <;> first | (cases hp; done) | simp -implicitDefEqProofs +decide only [go_sem]
            · simp -implicitDefEqProofs +decide only [go_sem, sL, sV, sI, hwj] <;> rfl
        · obtain rfl : j = g.length := by omega
          have hnx := metCells_next hg
          simp -implicitDefEqProofs +decide only [go_sem, hwi, ofH]
          refine hJ (i + 1) _ (by omega) (by omega) (Wk.boxes _ _ (bankU_hb (bank_hb hb0)) rfl (by simp only [List.all_cons, List.all_nil, metCells_refs, refsInL_t, Lab.pool, Bool.not_false, Bool.and_self]) ?_ (fun l hp => ?_) ?_ ?_)
          · simp -implicitDefEqProofs +decide only [go_sem, hnx] <;> first | rfl | exact ⟨rfl, rfl⟩ | skip
          · cases l <;> first | (cases hp; done) | simp -implicitDefEqProofs +decide only [go_sem]
          · simp -implicitDefEqProofs +decide only [go_sem, sL, sV, sI] <;> rfl
          · simp -implicitDefEqProofs +decide only [go_sem, sL, sV, sI]
      · obtain rfl : i = L.length := by omega
        simp -implicitDefEqProofs +decide only [go_sem, List.length_map, ofH]
        refine Goes.loop (X := Nat) (fun n => ⟨ofL [(9, .t (sL L)), (12, .bp (.loc 12 0) 0), (154, .t (.int .i64 xs.length)), (155, .t (.int .i64 n))],
          ofH (bankU (upd (fun _ => none) (.obj 0) (some (bankO 0))) 0 0 mt ti) [(.loc 12 0, .box (metCells L L.length 0))], 1⟩) (fun n => n ≤ xs.length) (fun n => xs.length - n) 0 ?_ (by omega) ?_
        · refine Wk.boxes _ _ (bankU_hb (bank_hb hb0)) rfl (by simp only [List.all_cons, List.all_nil, metCells_refs, refsInL_t, Lab.pool, Bool.not_false, Bool.and_self]) ?_ (fun l hp => ?_) ?_ ?_
          · simp -implicitDefEqProofs +decide only [go_sem] <;> first | rfl | exact ⟨rfl, rfl⟩ | skip
          · cases l <;> first | (cases hp; done) | simp -implicitDefEqProofs +decide only [go_sem]
          · simp -implicitDefEqProofs +decide only [go_sem, sL] <;> rfl
          · simp -implicitDefEqProofs +decide only [go_sem, sL]
        rintro n hn J3 hJ3
        apply run_sound 200
        simp -implicitDefEqProofs +decide only [go_sem]
        refine selP_dec (fun hc4 => ?_) (fun hc4 => ?_)
        · have hn100 : n < 100 := by omega
          have hn64 : n < 64 := by omega
          have hmg := metCells_get (L := L) (i := L.length) (j := 0) hn64
          rw [hall n (by rw [← hcd, ← hl]; omega)] at hmg
          have hL0 : decide ((0 : Int) < (L.length : Int)) = true := decide_eq_true (by have := GG.ne; omega)
          have hwn : IntKind.wrap .i64 ((n : Int) + 1) = ((n + 1 : Nat) : Int) := wS (by omega)
          simp -implicitDefEqProofs +decide only [go_sem, sL, hgl, hL0, hn64, hmg, ofH]
          simp -implicitDefEqProofs +decide only [go_sem, hwn]
          refine hJ3 (n + 1) _ (by omega) (by omega) (Wk.boxes _ _ (bankU_hb (bank_hb hb0)) rfl (by simp only [List.all_cons, List.all_nil, metCells_refs, refsInL_t, Lab.pool, Bool.not_false, Bool.and_self]) ?_ (fun l hp => ?_) ?_ ?_)
          · simp -implicitDefEqProofs +decide only [go_sem] <;> first | rfl | exact ⟨rfl, rfl⟩ | skip
          · cases l <;> first | (cases hp; done) | simp -implicitDefEqProofs +decide only [go_sem]
          · simp -implicitDefEqProofs +decide only [go_sem, sL] <;> rfl
          · simp -implicitDefEqProofs +decide only [go_sem, sL]
        · simp -implicitDefEqProofs +decide only [go_sem]
          refine CallG.pure _ Tryz.call25 (cs) (by first | rfl | (simp only [go_sem]; done) | (simp only [go_sem]; rfl)) (by first | rfl | (simp only [go_sem]; done) | (simp only [go_sem]; rfl)) ?_
          apply run_sound 200
          simp -implicitDefEqProofs +decide only [go_sem]
          exact endF.vals [(6, .bool true)] (.inr rfl) (vals_t (by first | rfl | (simp -implicitDefEqProofs +decide only [go_sem]; done) | (simp -implicitDefEqProofs +decide only [go_sem]; rfl)) rfl vals_nil) (by rintro (_ | _ | _ | _ | _) hp <;> first | (cases hp; done) | simp -implicitDefEqProofs +decide only [go_sem, ofH]) rfl
  | false =>
    have hsg : sgnM mn = 1 := by rw [hmm]; rfl
    subst hop
    simp -implicitDefEqProofs +decide only [go_sem]
    refine CallG.pureS _ Tryz.call28 (c1) (by simp only [List.all_cons, List.all_nil, noPtr, noPtrL, noPtr_sW, noPtr_sI, noPtr_sV, noPtrL_U, noPtrL_I, noPtrL_vT, I, List.map_cons, List.map_nil, Bool.and_true, Bool.and_self]) (by first | rfl | (simp only [go_sem]; done) | (simp only [go_sem]; rfl)) ?_
    apply run_sound 200
    simp -implicitDefEqProofs +decide only [go_sem]
    refine Goes.drawP mixed (Calm.of (by repeat first | exact Clean.und | refine Clean.upd ?_ rfl | refine Clean.upd ?_ (by simp only [cleanA, cleanL, ])) (by repeat first | exact HCalm.none | exact HCalm.hb hb | exact HCalm.hb (bank_hb hb) | refine HCalm.row ?_ | refine HCalm.box ?_ (by first | rfl | (simp only [cleanA, cleanL, ]; done) | assumption))) ?_
    simp -implicitDefEqProofs +decide only [go_sem]
    refine CallD.make _ [(.obj 0, bankO 0)] 1 Tryz.call18 n1 rfl hb0 (fun l hp => by cases l <;> first | rfl | cases hp) (fun _ _ => rfl) rfl (.inl (by simp)) ?_
    simp -implicitDefEqProofs +decide only [go_sem]
    obtain ⟨o, hmR⟩ : ∃ o, metR mt = o := ⟨_, rfl⟩
    cases o with
    | none =>
      have hwr : ∀ l, bankU (upd (fun _ => none) (.obj 0) (some (bankO 0))) 0 0 mt ti l = writes (upd (fun _ => none) (.obj 0) (some (bankO 0))) [(.obj 0, bankS 0 0 mt ti)] l := fun l => by
        unfold bankU
        rw [hmR]
        by_cases e : l = .fld 0 4
        · subst e; rfl
        · rw [upd_ne _ _ _ _ e]; rfl
      refine CallD.make _ [(.obj 0, bankS 0 0 mt ti)] 0 Tryz.call32 d1 rfl (bank_hb hb0) (by rintro (_ | _ | _ | _ | _) hp <;> first | (cases hp; done) | simp -implicitDefEqProofs +decide only [go_sem]) (fun l _ => hwr l) rfl (.inr rfl) ?_
      simp -implicitDefEqProofs +decide only [go_sem]
      refine ⟨.mk (by kernel_rfl), ?_⟩
      apply run_sound 200
      simp -implicitDefEqProofs +decide only [go_sem, List.length_map, hvl, hwl, hgl, dK]
      refine Goes.loop (X := Nat) (fun i => ⟨ofL [(5, .bp (.loc 5 0) 0), (8, .t (.int .i64 (sgnM mn))), (9, .t (sL L)), (10, .t (sV vs)), (11, .t (sI wh)), (12, .bp (.loc 12 0) 0), (59, .t (.int .i64 L.length)), (60, .t (.int .i64 i))],
        ofH (bankU (upd (fun _ => none) (.obj 0) (some (bankO 0))) 0 0 mt ti) [(.loc 5 0, .box [.t (.slice (d.map I)), .t (.slice (xs.map vT))]), (.loc 12 0, .box (metCells L i 0))], 1⟩) (fun i => i ≤ L.length) (fun i => L.length - i) 0 ?_ (by omega) ?_
      · refine Wk.boxes _ _ (bankU_hb (bank_hb hb0)) rfl (by simp only [List.all_cons, List.all_nil, metCells_refs, refsInL_t, Lab.pool, Bool.not_false, Bool.and_self]) ?_ (fun l hp => ?_) ?_ ?_
        · have hz := metCells_zero L
          simp -implicitDefEqProofs +decide only [go_sem, hz] <;> first | rfl | exact ⟨rfl, rfl⟩ | skip
        · cases l <;> first | (cases hp; done) | simp -implicitDefEqProofs +decide only [go_sem, hwr]
        · simp -implicitDefEqProofs +decide only [go_sem, sL, sV, sI, hsg] <;> rfl
        · simp -implicitDefEqProofs +decide only [go_sem, sL, sV, sI]
      rintro i hi J hJ
      apply run_sound 200
      simp -implicitDefEqProofs +decide only [go_sem]
      refine selP_dec (fun hc1 => ?_) (fun hc1 => ?_)
      · obtain ⟨g, hg⟩ := getI (show i < L.length by omega)
        obtain ⟨q, r, hwq, hvq, hq, hr, hbest⟩ := hget i g (by omega) hg
        obtain ⟨g1, g64, gz⟩ := GG.each g (List.mem_of_getElem? hg)
        have hwi := wS (show i < 1000000000000 by omega)
        have hq1 : decide (g.length ≤ q) = false := decide_eq_false (by omega)
        refine Goes.drawN mixed ?_
        simp -implicitDefEqProofs +decide only [go_sem, sL, sI, hwq, hg, I, hq1, List.length_map]
        refine ⟨.mk (by kernel_rfl), ?_⟩
        apply run_sound 200
        simp -implicitDefEqProofs +decide only [go_sem, sL, sI, hg, List.length_map]
        refine Goes.loop (X := Nat) (fun j => ⟨ofL [(5, .bp (.loc 5 0) 0), (8, .t (.int .i64 (sgnM mn))), (9, .t (sL L)), (10, .t (sV vs)), (11, .t (sI wh)), (12, .bp (.loc 12 0) 0), (13, .t (.int .i64 i)), (59, .t (.int .i64 L.length)), (60, .t (.int .i64 i)), (84, .t (.int .i64 g.length)), (85, .t (.int .i64 j))],
          ofH (bankU (upd (fun _ => none) (.obj 0) (some (bankO 0))) 0 0 mt ti) [(.loc 5 0, .box [.t (.slice (d.map I)), .t (.slice (xs.map vT))]), (.loc 12 0, .box (metCells L i j))], 1⟩) (fun j => j ≤ g.length) (fun j => g.length - j) 0 ?_ (by omega) ?_
        · refine Wk.boxes _ _ (bankU_hb (bank_hb hb0)) rfl (by simp only [List.all_cons, List.all_nil, metCells_refs, refsInL_t, Lab.pool, Bool.not_false, Bool.and_self]) ?_ (fun l hp => ?_) ?_ ?_
          · simp -implicitDefEqProofs +decide only [go_sem, ofH] <;> first | rfl | exact ⟨rfl, rfl⟩ | skip
          · cases l <;> first | (cases hp; done) | simp -implicitDefEqProofs +decide only [go_sem, ofH]
          · simp -implicitDefEqProofs +decide only [go_sem, sL, sV, sI] <;> rfl
          · simp -implicitDefEqProofs +decide only [go_sem, sL, sV, sI]
        rintro j hj J2 hJ2
        apply run_sound 200
        simp -implicitDefEqProofs +decide only [go_sem]
        refine selP_dec (fun hc2 => ?_) (fun hc2 => ?_)
        · obtain ⟨z, hz⟩ := getI (show j < g.length by omega)
          obtain ⟨n, rfl⟩ : ∃ n : Nat, z = (n : Int) := ⟨z.toNat, by have := gz z (List.mem_of_getElem? hz); omega⟩
          have hnv := gz _ (List.mem_of_getElem? hz)
          obtain ⟨y, hy⟩ := getI (show n < xs.length by omega)
          have hn64 : n < 64 := by omega
          have hwj := wS (show j < 1000000000000 by omega)
          have hrq := hxq y (List.mem_of_getElem? hy)
          have hpy : (pickG xs g).getD j 0 = y := by
            unfold pickG
            rw [List.getD_eq_getElem?_getD, List.getElem?_map, hz, Option.map_some, Option.getD_some, Int.toNat_natCast, List.getD_eq_getElem?_getD, hy]; rfl
          have hbj := hbest j (by omega)
          rw [hpy] at hbj
          have hrr : ∃ y' ∈ xs, r = y' := by
            obtain ⟨y', hy'⟩ := getI (show q < (pickG xs g).length by rw [pickG_length]; exact hq)
            rw [List.getD_eq_getElem?_getD, hy', Option.getD_some] at hr
            subst hr
            exact pickG_mem (P := fun z => ∃ y' ∈ xs, z = y') (fun z hz => ⟨z, hz, rfl⟩) gz _ (List.mem_of_getElem? hy')
          obtain ⟨y', hy'm, hry⟩ := hrr
          have hrr := hxq y' hy'm
          rw [← hry] at hrr
          obtain ⟨c, hc0, hcw, hc1', hc2', hc3'⟩ := best_law (mn := mn) (q := q) hbj (fun e => by rw [← hpy, hr, e])
          have cmp := rCmp_okQ y r (hrq.mono (by decide)) (hrr.mono (by decide)) ((ZB_of hrq).mono (by decide)) ((ZB_of hrr).mono (by decide))
          rw [qT, qT] at cmp
          have hn1 : decide (xs.length ≤ n) = false := decide_eq_false (by omega)
          have hma := metA_le L i j n
          have hwm : IntKind.wrap .i64 ((metA L i j n : Nat) + 1 : Int) = ((metA L i j n + 1 : Nat) : Int) := wS (by omega)
          have hmg := metCells_get (L := L) (i := i) (j := j) hn64
          have hms := metCells_set hg hz hn64
          have hml := metCells_length L i j
          generalize metA L i j n = w at *
          simp -implicitDefEqProofs +decide only [go_sem, hg, sL, sI, hz, I, hn1, List.length_map, ofH]
          simp -implicitDefEqProofs +decide only [go_sem, hn64, hmg, hwm, hms, hml]
          refine Goes.drawN mixed ?_
          simp -implicitDefEqProofs +decide only [go_sem, hy, hvq, vT_eq, sV, Int.toNat_natCast]
          refine CallD.pure _ Tryz.call33 cmp (by first | rfl | (simp only [go_sem]; done) | (simp only [go_sem]; rfl)) (by first | rfl | (simp only [go_sem]; done) | (simp only [go_sem]; rfl)) ?_
          simp -implicitDefEqProofs +decide only [go_sem, hc0, hcw]
          refine ⟨.mk (by kernel_rfl), ?_⟩
          apply run_sound 200
          have wkJ : ∀ s' : St, s'.nxt = 1 → (∀ p ∈ ([(.loc 5 0, .box [.t (.slice (d.map I)), .t (.slice (xs.map vT))]), (.loc 12 0, .box (metCells L i (j + 1)))] : List (Lab × Obj)), s'.h p.1 = some p.2) → (∀ lab, Lab.pool lab = true → s'.h lab = bankU (upd (fun _ => none) (.obj 0) (some (bankO 0))) 0 0 mt ti lab) →
              (∀ p ∈ ([(5, .bp (.loc 5 0) 0), (8, .t (.int .i64 (sgnM mn))), (9, .t (sL L)), (10, .t (sV vs)), (11, .t (sI wh)), (12, .bp (.loc 12 0) 0), (13, .t (.int .i64 i)), (59, .t (.int .i64 L.length)), (60, .t (.int .i64 i)), (84, .t (.int .i64 g.length)), (85, .t (.int .i64 (j + 1 : Nat)))] : List (Nat × AV)), s'.f p.1 = p.2) → J2 s' := fun s' h1 h2 h3 h4 =>
            hJ2 (j + 1) s' (by omega) (by omega) (Wk.boxes _ _ (bankU_hb (bank_hb hb0)) h1 (by simp only [List.all_cons, List.all_nil, metCells_refs, refsInL_t, Lab.pool, Bool.not_false, Bool.and_self]) h2 h3 h4 (by simp -implicitDefEqProofs +decide only [go_sem, sL, sV, sI]))
          by_cases ec : c = 0
          · subst ec
            have hjq : ¬ j < q := fun h => by
              rw [decide_eq_true rfl, Bool.true_and] at hc2'
              have := of_decide_eq_false hc2'; omega
            have e1 : decide (j < q) = false := decide_eq_false hjq
            by_cases ej : j = q
            · subst ej
              simp -implicitDefEqProofs +decide only [go_sem, hwq, sI, I, e1]
              refine wkJ _ rfl ?_ (fun l hp => ?_) ?_
              · simp -implicitDefEqProofs +decide only [go_sem, hwj] <;> first | rfl | exact ⟨rfl, rfl⟩ | skip
              · cases l <;> first | (cases hp; done) | simp -implicitDefEqProofs +decide only [go_sem]
              · simp -implicitDefEqProofs +decide only [go_sem, sL, sV, sI, hwj] <;> rfl
            · have e2 : decide ((j : Int) = (q : Int)) = false := decide_eq_false (by omega)
              simp -implicitDefEqProofs +decide only [go_sem, hwq, sI, I, e1, e2]
              refine wkJ _ rfl ?_ (fun l hp => ?_) ?_
              · simp -implicitDefEqProofs +decide only [go_sem, hwj] <;> first | rfl | exact ⟨rfl, rfl⟩ | skip
              · cases l <;> first | (cases hp; done) | simp -implicitDefEqProofs +decide only [go_sem]
              · simp -implicitDefEqProofs +decide only [go_sem, sL, sV, sI, hwj] <;> rfl
          · have e0 : decide (c = 0) = false := decide_eq_false ec
            have e3 : decide ((j : Int) = (q : Int)) = false := by
              rw [decide_eq_true (p := c ≠ 0) ec, Bool.and_true] at hc3'
              exact hc3'
            simp -implicitDefEqProofs +decide only [go_sem, hwq, sI, I, e0, e3, hc1']
            refine wkJ _ rfl ?_ (fun l hp => ?_) ?_
            · simp -implicitDefEqProofs +decide only [go_sem, hwj] <;> first | rfl | exact ⟨rfl, rfl⟩ | skip
            · cases l <;> first | (cases hp; done) | simp -implicitDefEqProofs +decide only [go_sem]
            · simp -implicitDefEqProofs +decide only [go_sem, sL, sV, sI, hwj] <;> rfl
        · obtain rfl : j = g.length := by omega
          have hnx := metCells_next hg
          simp -implicitDefEqProofs +decide only [go_sem, hwi, ofH]
          refine hJ (i + 1) _ (by omega) (by omega) (Wk.boxes _ _ (bankU_hb (bank_hb hb0)) rfl (by simp only [List.all_cons, List.all_nil, metCells_refs, refsInL_t, Lab.pool, Bool.not_false, Bool.and_self]) ?_ (fun l hp => ?_) ?_ ?_)
          · simp -implicitDefEqProofs +decide only [go_sem, hnx] <;> first | rfl | exact ⟨rfl, rfl⟩ | skip
          · cases l <;> first | (cases hp; done) | simp -implicitDefEqProofs +decide only [go_sem]
          · simp -implicitDefEqProofs +decide only [go_sem, sL, sV, sI] <;> rfl
          · simp -implicitDefEqProofs +decide only [go_sem, sL, sV, sI]
      · obtain rfl : i = L.length := by omega
        simp -implicitDefEqProofs +decide only [go_sem, List.length_map, ofH]
        refine Goes.loop (X := Nat) (fun n => ⟨ofL [(9, .t (sL L)), (12, .bp (.loc 12 0) 0), (154, .t (.int .i64 xs.length)), (155, .t (.int .i64 n))],
          ofH (bankU (upd (fun _ => none) (.obj 0) (some (bankO 0))) 0 0 mt ti) [(.loc 12 0, .box (metCells L L.length 0))], 1⟩) (fun n => n ≤ xs.length) (fun n => xs.length - n) 0 ?_ (by omega) ?_
        · refine Wk.boxes _ _ (bankU_hb (bank_hb hb0)) rfl (by simp only [List.all_cons, List.all_nil, metCells_refs, refsInL_t, Lab.pool, Bool.not_false, Bool.and_self]) ?_ (fun l hp => ?_) ?_ ?_
          · simp -implicitDefEqProofs +decide only [go_sem] <;> first | rfl | exact ⟨rfl, rfl⟩ | skip
          · cases l <;> first | (cases hp; done) | simp -implicitDefEqProofs +decide only [go_sem]
          · simp -implicitDefEqProofs +decide only [go_sem, sL] <;> rfl
          · simp -implicitDefEqProofs +decide only [go_sem, sL]
        rintro n hn J3 hJ3
        apply run_sound 200
        simp -implicitDefEqProofs +decide only [go_sem]
        refine selP_dec (fun hc4 => ?_) (fun hc4 => ?_)
        · have hn100 : n < 100 := by omega
          have hn64 : n < 64 := by omega
          have hmg := metCells_get (L := L) (i := L.length) (j := 0) hn64
          rw [hall n (by rw [← hcd, ← hl]; omega)] at hmg
          have hL0 : decide ((0 : Int) < (L.length : Int)) = true := decide_eq_true (by have := GG.ne; omega)
          have hwn : IntKind.wrap .i64 ((n : Int) + 1) = ((n + 1 : Nat) : Int) := wS (by omega)
          simp -implicitDefEqProofs +decide only [go_sem, sL, hgl, hL0, hn64, hmg, ofH]
          simp -implicitDefEqProofs +decide only [go_sem, hwn]
          refine hJ3 (n + 1) _ (by omega) (by omega) (Wk.boxes _ _ (bankU_hb (bank_hb hb0)) rfl (by simp only [List.all_cons, List.all_nil, metCells_refs, refsInL_t, Lab.pool, Bool.not_false, Bool.and_self]) ?_ (fun l hp => ?_) ?_ ?_)
          · simp -implicitDefEqProofs +decide only [go_sem] <;> first | rfl | exact ⟨rfl, rfl⟩ | skip
          · cases l <;> first | (cases hp; done) | simp -implicitDefEqProofs +decide only [go_sem]
          · simp -implicitDefEqProofs +decide only [go_sem, sL] <;> rfl
          · simp -implicitDefEqProofs +decide only [go_sem, sL]
        · simp -implicitDefEqProofs +decide only [go_sem]
          refine CallG.pure _ Tryz.call25 (cs) (by first | rfl | (simp only [go_sem]; done) | (simp only [go_sem]; rfl)) (by first | rfl | (simp only [go_sem]; done) | (simp only [go_sem]; rfl)) ?_
          apply run_sound 200
          simp -implicitDefEqProofs +decide only [go_sem]
          exact endF.vals [(6, .bool true)] (.inr rfl) (vals_t (by first | rfl | (simp -implicitDefEqProofs +decide only [go_sem]; done) | (simp -implicitDefEqProofs +decide only [go_sem]; rfl)) rfl vals_nil) (by rintro (_ | _ | _ | _ | _) hp <;> first | (cases hp; done) | simp -implicitDefEqProofs +decide only [go_sem, ofH]) rfl
    | some o =>
      have hwr : ∀ l, bankU (upd (fun _ => none) (.obj 0) (some (bankO 0))) 0 0 mt ti l = writes (upd (fun _ => none) (.obj 0) (some (bankO 0))) [(.obj 0, bankS 0 0 mt ti), (.fld 0 4, o)] l := fun l => by
        unfold bankU
        rw [hmR]; rfl
      refine CallD.make _ [(.obj 0, bankS 0 0 mt ti), (.fld 0 4, o)] 0 Tryz.call32 d1 rfl (bank_hb hb0) (by rintro (_ | _ | _ | _ | _) hp <;> first | (cases hp; done) | simp -implicitDefEqProofs +decide only [go_sem]) (fun l _ => hwr l) rfl (.inr rfl) ?_
      simp -implicitDefEqProofs +decide only [go_sem]
      refine ⟨.mk (by kernel_rfl), ?_⟩
      apply run_sound 200
      simp -implicitDefEqProofs +decide only [go_sem, List.length_map, hvl, hwl, hgl, dK]
      refine Goes.loop (X := Nat) (fun i => ⟨ofL [(5, .bp (.loc 5 0) 0), (8, .t (.int .i64 (sgnM mn))), (9, .t (sL L)), (10, .t (sV vs)), (11, .t (sI wh)), (12, .bp (.loc 12 0) 0), (59, .t (.int .i64 L.length)), (60, .t (.int .i64 i))],
        ofH (bankU (upd (fun _ => none) (.obj 0) (some (bankO 0))) 0 0 mt ti) [(.loc 5 0, .box [.t (.slice (d.map I)), .t (.slice (xs.map vT))]), (.loc 12 0, .box (metCells L i 0))], 1⟩) (fun i => i ≤ L.length) (fun i => L.length - i) 0 ?_ (by omega) ?_
      · refine Wk.boxes _ _ (bankU_hb (bank_hb hb0)) rfl (by simp only [List.all_cons, List.all_nil, metCells_refs, refsInL_t, Lab.pool, Bool.not_false, Bool.and_self]) ?_ (fun l hp => ?_) ?_ ?_
        · have hz := metCells_zero L
          simp -implicitDefEqProofs +decide only [go_sem, hz] <;> first | rfl | exact ⟨rfl, rfl⟩ | skip
        · cases l <;> first | (cases hp; done) | simp -implicitDefEqProofs +decide only [go_sem, hwr]
        · simp -implicitDefEqProofs +decide only [go_sem, sL, sV, sI, hsg] <;> rfl
        · simp -implicitDefEqProofs +decide only [go_sem, sL, sV, sI]
      rintro i hi J hJ
      apply run_sound 200
      simp -implicitDefEqProofs +decide only [go_sem]
      refine selP_dec (fun hc1 => ?_) (fun hc1 => ?_)
      · obtain ⟨g, hg⟩ := getI (show i < L.length by omega)
        obtain ⟨q, r, hwq, hvq, hq, hr, hbest⟩ := hget i g (by omega) hg
        obtain ⟨g1, g64, gz⟩ := GG.each g (List.mem_of_getElem? hg)
        have hwi := wS (show i < 1000000000000 by omega)
        have hq1 : decide (g.length ≤ q) = false := decide_eq_false (by omega)
        refine Goes.drawN mixed ?_
        simp -implicitDefEqProofs +decide only [go_sem, sL, sI, hwq, hg, I, hq1, List.length_map]
        refine ⟨.mk (by kernel_rfl), ?_⟩
        apply run_sound 200
        simp -implicitDefEqProofs +decide only [go_sem, sL, sI, hg, List.length_map]
        refine Goes.loop (X := Nat) (fun j => ⟨ofL [(5, .bp (.loc 5 0) 0), (8, .t (.int .i64 (sgnM mn))), (9, .t (sL L)), (10, .t (sV vs)), (11, .t (sI wh)), (12, .bp (.loc 12 0) 0), (13, .t (.int .i64 i)), (59, .t (.int .i64 L.length)), (60, .t (.int .i64 i)), (84, .t (.int .i64 g.length)), (85, .t (.int .i64 j))],
          ofH (bankU (upd (fun _ => none) (.obj 0) (some (bankO 0))) 0 0 mt ti) [(.loc 5 0, .box [.t (.slice (d.map I)), .t (.slice (xs.map vT))]), (.loc 12 0, .box (metCells L i j))], 1⟩) (fun j => j ≤ g.length) (fun j => g.length - j) 0 ?_ (by omega) ?_
        · refine Wk.boxes _ _ (bankU_hb (bank_hb hb0)) rfl (by simp only [List.all_cons, List.all_nil, metCells_refs, refsInL_t, Lab.pool, Bool.not_false, Bool.and_self]) ?_ (fun l hp => ?_) ?_ ?_
          · simp -implicitDefEqProofs +decide only [go_sem, ofH] <;> first | rfl | exact ⟨rfl, rfl⟩ | skip
          · cases l <;> first | (cases hp; done) | simp -implicitDefEqProofs +decide only [go_sem, ofH]
          · simp -implicitDefEqProofs +decide only [go_sem, sL, sV, sI] <;> rfl
          · simp -implicitDefEqProofs +decide only [go_sem, sL, sV, sI]
        rintro j hj J2 hJ2
        apply run_sound 200
        simp -implicitDefEqProofs +decide only [go_sem]
        refine selP_dec (fun hc2 => ?_) (fun hc2 => ?_)
        · obtain ⟨z, hz⟩ := getI (show j < g.length by omega)
          obtain ⟨n, rfl⟩ : ∃ n : Nat, z = (n : Int) := ⟨z.toNat, by have := gz z (List.mem_of_getElem? hz); omega⟩
          have hnv := gz _ (List.mem_of_getElem? hz)
          obtain ⟨y, hy⟩ := getI (show n < xs.length by omega)
          have hn64 : n < 64 := by omega
          have hwj := wS (show j < 1000000000000 by omega)
          have hrq := hxq y (List.mem_of_getElem? hy)
          have hpy : (pickG xs g).getD j 0 = y := by
            unfold pickG
            rw [List.getD_eq_getElem?_getD, List.getElem?_map, hz, Option.map_some, Option.getD_some, Int.toNat_natCast, List.getD_eq_getElem?_getD, hy]; rfl
          have hbj := hbest j (by omega)
          rw [hpy] at hbj
          have hrr : ∃ y' ∈ xs, r = y' := by
            obtain ⟨y', hy'⟩ := getI (show q < (pickG xs g).length by rw [pickG_length]; exact hq)
            rw [List.getD_eq_getElem?_getD, hy', Option.getD_some] at hr
            subst hr
            exact pickG_mem (P := fun z => ∃ y' ∈ xs, z = y') (fun z hz => ⟨z, hz, rfl⟩) gz _ (List.mem_of_getElem? hy')
          obtain ⟨y', hy'm, hry⟩ := hrr
          have hrr := hxq y' hy'm
          rw [← hry] at hrr
          obtain ⟨c, hc0, hcw, hc1', hc2', hc3'⟩ := best_law (mn := mn) (q := q) hbj (fun e => by rw [← hpy, hr, e])
          have cmp := rCmp_okQ y r (hrq.mono (by decide)) (hrr.mono (by decide)) ((ZB_of hrq).mono (by decide)) ((ZB_of hrr).mono (by decide))
          rw [qT, qT] at cmp
          have hn1 : decide (xs.length ≤ n) = false := decide_eq_false (by omega)
          have hma := metA_le L i j n
          have hwm : IntKind.wrap .i64 ((metA L i j n : Nat) + 1 : Int) = ((metA L i j n + 1 : Nat) : Int) := wS (by omega)
          have hmg := metCells_get (L := L) (i := i) (j := j) hn64
          have hms := metCells_set hg hz hn64
          have hml := metCells_length L i j
          generalize metA L i j n = w at *
          simp -implicitDefEqProofs +decide only [go_sem, hg, sL, sI, hz, I, hn1, List.length_map, ofH]
          simp -implicitDefEqProofs +decide only [go_sem, hn64, hmg, hwm, hms, hml]
          refine Goes.drawN mixed ?_
          simp -implicitDefEqProofs +decide only [go_sem, hy, hvq, vT_eq, sV, Int.toNat_natCast]
          refine CallD.pure _ Tryz.call33 cmp (by first | rfl | (simp only [go_sem]; done) | (simp only [go_sem]; rfl)) (by first | rfl | (simp only [go_sem]; done) | (simp only [go_sem]; rfl)) ?_
          simp -implicitDefEqProofs +decide only [go_sem, hc0, hcw]
          refine ⟨.mk (by kernel_rfl), ?_⟩
          apply run_sound 200
          have wkJ : ∀ s' : St, s'.nxt = 1 → (∀ p ∈ ([(.loc 5 0, .box [.t (.slice (d.map I)), .t (.slice (xs.map vT))]), (.loc 12 0, .box (metCells L i (j + 1)))] : List (Lab × Obj)), s'.h p.1 = some p.2) → (∀ lab, Lab.pool lab = true → s'.h lab = bankU (upd (fun _ => none) (.obj 0) (some (bankO 0))) 0 0 mt ti lab) →
              (∀ p ∈ ([(5, .bp (.loc 5 0) 0), (8, .t (.int .i64 (sgnM mn))), (9, .t (sL L)), (10, .t (sV vs)), (11, .t (sI wh)), (12, .bp (.loc 12 0) 0), (13, .t (.int .i64 i)), (59, .t (.int .i64 L.length)), (60, .t (.int .i64 i)), (84, .t (.int .i64 g.length)), (85, .t (.int .i64 (j + 1 : Nat)))] : List (Nat × AV)), s'.f p.1 = p.2) → J2 s' := fun s' h1 h2 h3 h4 =>
            hJ2 (j + 1) s' (by omega) (by omega) (Wk.boxes _ _ (bankU_hb (bank_hb hb0)) h1 (by simp only [List.all_cons, List.all_nil, metCells_refs, refsInL_t, Lab.pool, Bool.not_false, Bool.and_self]) h2 h3 h4 (by simp -implicitDefEqProofs +decide only [go_sem, sL, sV, sI]))
          by_cases ec : c = 0
          · subst ec
            have hjq : ¬ j < q := fun h => by
              rw [decide_eq_true rfl, Bool.true_and] at hc2'
              have := of_decide_eq_false hc2'; omega
            have e1 : decide (j < q) = false := decide_eq_false hjq
            by_cases ej : j = q
            · subst ej
              simp -implicitDefEqProofs +decide only [go_sem, hwq, sI, I, e1]
              refine wkJ _ rfl ?_ (fun l hp => ?_) ?_
              · simp -implicitDefEqProofs +decide only [go_sem, hwj] <;> first | rfl | exact ⟨rfl, rfl⟩ | skip
              · cases l <;> first | (cases hp; done) | simp -implicitDefEqProofs +decide only [go_sem]
              · simp -implicitDefEqProofs +decide only [go_sem, sL, sV, sI, hwj] <;> rfl
            · have e2 : decide ((j : Int) = (q : Int)) = false := decide_eq_false (by omega)
              simp -implicitDefEqProofs +decide only [go_sem, hwq, sI, I, e1, e2]
              refine wkJ _ rfl ?_ (fun l hp => ?_) ?_
              · simp -implicitDefEqProofs +decide only [go_sem, hwj] <;> first | rfl | exact ⟨rfl, rfl⟩ | skip
              · cases l <;> first | (cases hp; done) | simp -implicitDefEqProofs +decide only [go_sem]
              · simp -implicitDefEqProofs +decide only [go_sem, sL, sV, sI, hwj] <;> rfl
          · have e0 : decide (c = 0) = false := decide_eq_false ec
            have e3 : decide ((j : Int) = (q : Int)) = false := by
              rw [decide_eq_true (p := c ≠ 0) ec, Bool.and_true] at hc3'
              exact hc3'
            simp -implicitDefEqProofs +decide only [go_sem, hwq, sI, I, e0, e3, hc1']
            refine wkJ _ rfl ?_ (fun l hp => ?_) ?_
            · simp -implicitDefEqProofs +decide only [go_sem, hwj] <;> first | rfl | exact ⟨rfl, rfl⟩ | skip
            · cases l <;> first | (cases hp; done) | simp -implicitDefEqProofs +decide only [go_sem]
            · simp -implicitDefEqProofs +decide only [go_sem, sL, sV, sI, hwj] <;> rfl
        · obtain rfl : j = g.length := by omega
          have hnx := metCells_next hg
          simp -implicitDefEqProofs +decide only [go_sem, hwi, ofH]
          refine hJ (i + 1) _ (by omega) (by omega) (Wk.boxes _ _ (bankU_hb (bank_hb hb0)) rfl (by simp only [List.all_cons, List.all_nil, metCells_refs, refsInL_t, Lab.pool, Bool.not_false, Bool.and_self]) ?_ (fun l hp => ?_) ?_ ?_)
          · simp -implicitDefEqProofs +decide only [go_sem, hnx] <;> first | rfl | exact ⟨rfl, rfl⟩ | skip
          · cases l <;> first | (cases hp; done) | simp -implicitDefEqProofs +decide only [go_sem]
          · simp -implicitDefEqProofs +decide only [go_sem, sL, sV, sI] <;> rfl
          · simp -implicitDefEqProofs +decide only [go_sem, sL, sV, sI]
      · obtain rfl : i = L.length := by omega
        simp -implicitDefEqProofs +decide only [go_sem, List.length_map, ofH]
        refine Goes.loop (X := Nat) (fun n => ⟨ofL [(9, .t (sL L)), (12, .bp (.loc 12 0) 0), (154, .t (.int .i64 xs.length)), (155, .t (.int .i64 n))],
          ofH (bankU (upd (fun _ => none) (.obj 0) (some (bankO 0))) 0 0 mt ti) [(.loc 12 0, .box (metCells L L.length 0))], 1⟩) (fun n => n ≤ xs.length) (fun n => xs.length - n) 0 ?_ (by omega) ?_
        · refine Wk.boxes _ _ (bankU_hb (bank_hb hb0)) rfl (by simp only [List.all_cons, List.all_nil, metCells_refs, refsInL_t, Lab.pool, Bool.not_false, Bool.and_self]) ?_ (fun l hp => ?_) ?_ ?_
          · simp -implicitDefEqProofs +decide only [go_sem] <;> first | rfl | exact ⟨rfl, rfl⟩ | skip
          · cases l <;> first | (cases hp; done) | simp -implicitDefEqProofs +decide only [go_sem]
          · simp -implicitDefEqProofs +decide only [go_sem, sL] <;> rfl
          · simp -implicitDefEqProofs +decide only [go_sem, sL]
        rintro n hn J3 hJ3
        apply run_sound 200
        simp -implicitDefEqProofs +decide only [go_sem]
        refine selP_dec (fun hc4 => ?_) (fun hc4 => ?_)
        · have hn100 : n < 100 := by omega
          have hn64 : n < 64 := by omega
          have hmg := metCells_get (L := L) (i := L.length) (j := 0) hn64
          rw [hall n (by rw [← hcd, ← hl]; omega)] at hmg
          have hL0 : decide ((0 : Int) < (L.length : Int)) = true := decide_eq_true (by have := GG.ne; omega)
          have hwn : IntKind.wrap .i64 ((n : Int) + 1) = ((n + 1 : Nat) : Int) := wS (by omega)
          simp -implicitDefEqProofs +decide only [go_sem, sL, hgl, hL0, hn64, hmg, ofH]
          simp -implicitDefEqProofs +decide only [go_sem, hwn]
          refine hJ3 (n + 1) _ (by omega) (by omega) (Wk.boxes _ _ (bankU_hb (bank_hb hb0)) rfl (by simp only [List.all_cons, List.all_nil, metCells_refs, refsInL_t, Lab.pool, Bool.not_false, Bool.and_self]) ?_ (fun l hp => ?_) ?_ ?_)
          · simp -implicitDefEqProofs +decide only [go_sem] <;> first | rfl | exact ⟨rfl, rfl⟩ | skip
          · cases l <;> first | (cases hp; done) | simp -implicitDefEqProofs +decide only [go_sem]
          · simp -implicitDefEqProofs +decide only [go_sem, sL] <;> rfl
          · simp -implicitDefEqProofs +decide only [go_sem, sL]
        · simp -implicitDefEqProofs +decide only [go_sem]
          refine CallG.pure _ Tryz.call25 (cs) (by first | rfl | (simp only [go_sem]; done) | (simp only [go_sem]; rfl)) (by first | rfl | (simp only [go_sem]; done) | (simp only [go_sem]; rfl)) ?_
          apply run_sound 200
          simp -implicitDefEqProofs +decide only [go_sem]
          exact endF.vals [(6, .bool true)] (.inr rfl) (vals_t (by first | rfl | (simp -implicitDefEqProofs +decide only [go_sem]; done) | (simp -implicitDefEqProofs +decide only [go_sem]; rfl)) rfl vals_nil) (by rintro (_ | _ | _ | _ | _) hp <;> first | (cases hp; done) | simp -implicitDefEqProofs +decide only [go_sem, ofH]) rfl
end Go.Fm
/- The law on the best of groups. -/
namespace Go.Fm
open Go.Proofs
set_option maxRecDepth 100000
attribute [local irreducible] tiOf

theorem reduceBest_ok (ls : Bool) (x : Atr) (a : Ag) (hx : x.list.length < 9000000000000000000) (ha : ∀ s ∈ a.v, WOK s.x.p ∧ WOK s.x.q) : Pure Tryz.prog 8 [.bool ls, x.T, a.T] [.t (.bool true)] := by
  have hw : ∀ b ∈ [a], ∀ s ∈ b.v, WOK s.x.p ∧ WOK s.x.q := by
    intro b hb
    simp only [List.mem_cons, List.not_mem_nil, or_false] at hb
    subst hb
    exact ha
  have cr := argsRight_ok [a] (by simp) (argsSOK hw)
  obtain ⟨b, hb⟩ : ∃ b, (!argsB [a] && [a].all fun a => a.v.all rightB) = b := ⟨_, rfl⟩
  rw [hb] at cr
  simp only [sA, List.map_cons, List.map_nil] at cr
  cases b with
  | false => exact reduceBest_r ls x a cr
  | true =>
    rw [Bool.and_eq_true] at hb
    obtain ⟨hb1, hb2⟩ := hb
    have hb1 : argsB [a] = false := by simpa using hb1
    obtain ⟨_, hsh⟩ := short_of hb1
    obtain ⟨t1, t2, t3⟩ := hsh a (by simp)
    simp only [List.all_cons, List.all_nil, Bool.and_true] at hb2
    by_cases hl : (a.v.length : Int) = cnt a.d
    · obtain ⟨xs, hxs, hq⟩ := rightNum ha hb2 t3
      obtain ⟨d, v⟩ := a
      dsimp only at *
      subst hxs
      rw [List.length_map] at hl t2
      rw [Ag_scR] at cr ⊢
      obtain ⟨op, hop⟩ : ∃ op : Int, op = match ls with | true => 30 | false => 29 := ⟨_, rfl⟩
      by_cases h0 : (redE op x d).2 = 0
      · exact reduceBest_yes ls op x d xs hop cr (by omega) hx hl t2 hq h0
      · exact reduceBest_no ls op x d xs hop cr (by omega) hx hl t2 h0
    · exact reduceBest_l ls x a cr (by omega) hl
end Go.Fm
