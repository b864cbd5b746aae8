/- The reference of the tape: Reach by marks that spread. -/
import Derived.Test.YtjfckpofcpaiiaaTapeA
import Derived.Test.YtjfckpofcpaiiaaFmB
set_option linter.unusedVariables false
set_option linter.unusedSimpArgs false
namespace Go.Fm
open Go.Proofs
set_option maxRecDepth 100000

def markRow (n : Nat) (m : List Bool) (r : List Int) : List Bool := r.foldl (fun m x => if m.getD n false = true ∧ 0 ≤ x then m.set x.toNat true else m) m
def sweepL : Nat → List (List Int) → List Bool → List Bool
  | _, [], m => m
  | n, r :: rs, m => sweepL (n + 1) rs (markRow n m r)
def rounds (rows : List (List Int)) : Nat → List Bool → List Bool
  | 0, m => m
  | k + 1, m => rounds rows k (sweepL 0 rows m)
def descL (p : Nat → Bool) : Nat → List Int
  | 0 => []
  | k + 1 => if p k then (k : Int) :: descL p k else descL p k
def refMarks (rows : List (List Int)) (root : Nat) : List Bool := rounds rows rows.length ((List.replicate rows.length false).set root true)
def reachR (rows : List (List Int)) (root : Int) : List Int :=
  if root < 0 ∨ (rows.length : Int) ≤ root then [] else descL (fun n => (refMarks rows root.toNat).getD n false) rows.length

theorem drop_cons {α : Type} {l : List α} {j : Nat} {x : α} (h : l[j]? = some x) : l.drop j = x :: l.drop (j + 1) := by
  have hlt := (List.getElem?_eq_some_iff.1 h).1
  rw [List.drop_eq_getElem_cons hlt]
  rw [List.getElem?_eq_getElem hlt] at h
  rw [Option.some.inj h]
theorem markRow_length (n : Nat) (r : List Int) : ∀ m : List Bool, (markRow n m r).length = m.length := by
  induction r with
  | nil => intro m; rfl
  | cons x r ih => intro m; unfold markRow at ih ⊢; rw [List.foldl_cons, ih]; split <;> simp
theorem rep_get' {k i : Nat} {x : T} (h : i < k) : (List.replicate k x)[i]? = some x := by simp [h]

theorem refReach_ok (rows : List (List Int)) (root : Int) (hr : rows.length < 1000000) (hs : ∀ r ∈ rows, r.length < 1000000) (hw : WellT rows) : Pure Try.prog 15 [sR rows, .int .i64 root] [.t (sI (reachR rows root))] := by
  refine Pure.intro Try.func15 rfl (rt := [4]) rfl (by simp [Try.ntmps15]) (by decide) (sites := fun _ => false) ?_
  apply run_sound 200
  simp -implicitDefEqProofs +decide only [go_sem, sR]
  refine selP_dec (fun hn => ?_) (fun hn => ?_)
  · simp -implicitDefEqProofs +decide only [go_sem]
    rw [show reachR rows root = [] by simp [reachR, hn]]
    exact endF.nil (.inr rfl) (by simp -implicitDefEqProofs +decide only [go_sem]) (fun _ _ => rfl) rfl
  obtain ⟨k, rfl⟩ : ∃ k : Nat, root = k := ⟨root.toNat, by omega⟩
  simp -implicitDefEqProofs +decide only [go_sem]
  refine selP_dec (fun hk => ?_) (fun hk => ?_)
  · simp -implicitDefEqProofs +decide only [go_sem]
    rw [show reachR rows (k : Int) = [] by simp [reachR, hk]]
    exact endF.nil (.inr rfl) (by simp -implicitDefEqProofs +decide only [go_sem]) (fun _ _ => rfl) rfl
  have hk' : k < rows.length := by omega
  have hk1 : rows.length < big := by unfold big; omega
  have hfin : reachR rows k = descL (fun n => (refMarks rows k).getD n false) rows.length := by
    unfold reachR
    rw [if_neg (by omega)]; rfl
  simp -implicitDefEqProofs +decide only [go_sem, hk', hk1, rep_get' (x := .bool false) hk']
  refine Goes.loop (X := Nat × List Bool) (fun x => ⟨ofL [(0, tR rows), (5, .sl (.loc 21 0) 0 0 rows.length), (26, .t (.int .i64 rows.length)), (27, .t (.int .i64 x.1))],
      ofH (fun _ => none) [(.loc 21 0, .arr 1 (x.2.map .bool) 0 0)], 0⟩)
    (fun x => x.1 ≤ rows.length ∧ x.2.length = rows.length ∧ rounds rows (rows.length - x.1) x.2 = refMarks rows k) (fun x => rows.length - x.1) (0, (List.replicate rows.length false).set k true) ?_ ?_ ?_
  · refine Wk.rows _ _ (fun _ _ => rfl) rfl rfl ?_ (fun lab hp => by cases lab <;> first | rfl | cases hp) ?_ ?_
    · simp -implicitDefEqProofs +decide only [go_sem, List.map_set, List.map_replicate, List.map_nil]
    · simp -implicitDefEqProofs +decide only [go_sem, tR, sR]
    · simp -implicitDefEqProofs +decide only [go_sem, tR, sR]
  · exact ⟨Nat.zero_le _, by simp, rfl⟩
  rintro ⟨i, m⟩ ⟨hi, hm, he⟩ J hJ
  dsimp only at hi hm he hJ ⊢
  apply run_sound 200
  simp -implicitDefEqProofs +decide only [go_sem, ofH, tR, sR]
  refine selP_dec (fun hlt => ?_) (fun hlt => ?_)
  · simp -implicitDefEqProofs +decide only [go_sem, ofH, tR, sR]
    have hd : rows.length - i = (rows.length - (i + 1)) + 1 := by omega
    rw [hd, rounds] at he
    refine Goes.loop (X := Nat × List Bool) (fun x => ⟨ofL [(0, tR rows), (5, .sl (.loc 21 0) 0 0 rows.length), (26, .t (.int .i64 rows.length)), (27, .t (.int .i64 i)), (30, .t (.int .i64 rows.length)), (31, .t (.int .i64 x.1))],
        ofH (fun _ => none) [(.loc 21 0, .arr 1 (x.2.map .bool) 0 0)], 0⟩)
      (fun x => x.1 ≤ rows.length ∧ x.2.length = rows.length ∧ sweepL x.1 (rows.drop x.1) x.2 = sweepL 0 rows m) (fun x => rows.length - x.1) (0, m) ?_ ?_ ?_
    · refine Wk.rows _ _ (fun _ _ => rfl) rfl rfl ?_ (fun lab hp => by cases lab <;> first | rfl | cases hp) ?_ ?_
      · simp -implicitDefEqProofs +decide only [go_sem]
      · simp -implicitDefEqProofs +decide only [go_sem, tR, sR]
      · simp -implicitDefEqProofs +decide only [go_sem, tR, sR]
    · exact ⟨Nat.zero_le _, hm, rfl⟩
    rintro ⟨n, m2⟩ ⟨hn2, hm2, he2⟩ J2 hJ2
    dsimp only at hn2 hm2 he2 hJ2 ⊢
    apply run_sound 200
    simp -implicitDefEqProofs +decide only [go_sem, ofH, tR, sR]
    refine selP_dec (fun hlt2 => ?_) (fun hlt2 => ?_)
    · obtain ⟨r, hr'⟩ := getI hlt2
      have hr2 : (rows.map sI)[n]? = some (sI r) := by simp [hr']
      have hrl := hs r (List.mem_of_getElem? hr')
      rw [drop_cons hr', sweepL] at he2
      simp -implicitDefEqProofs +decide only [go_sem, ofH, tR, sR, hr2, sI_cells, List.getElem?_cons_zero]
      simp -implicitDefEqProofs +decide only [go_sem, sI]
      refine Goes.loop (X := Nat × List Bool) (fun x => ⟨ofL [(0, tR rows), (5, .sl (.loc 21 0) 0 0 rows.length), (6, .t (.int .i64 n)), (26, .t (.int .i64 rows.length)), (27, .t (.int .i64 i)), (30, .t (.int .i64 rows.length)), (31, .t (.int .i64 n)), (38, .t (.int .i64 r.length)), (39, .t (.int .i64 x.1))],
          ofH (fun _ => none) [(.loc 21 0, .arr 1 (x.2.map .bool) 0 0)], 0⟩)
        (fun x => x.1 ≤ r.length ∧ x.2.length = rows.length ∧ markRow n x.2 (r.drop x.1) = markRow n m2 r) (fun x => r.length - x.1) (0, m2) ?_ ?_ ?_
      · refine Wk.rows _ _ (fun _ _ => rfl) rfl rfl ?_ (fun lab hp => by cases lab <;> first | rfl | cases hp) ?_ ?_
        · simp -implicitDefEqProofs +decide only [go_sem]
        · simp -implicitDefEqProofs +decide only [go_sem, tR, sR, sI]
        · simp -implicitDefEqProofs +decide only [go_sem, tR, sR]
      · exact ⟨Nat.zero_le _, hm2, rfl⟩
      rintro ⟨j, m3⟩ ⟨hj, hm3, he3⟩ J3 hJ3
      dsimp only at hj hm3 he3 hJ3 ⊢
      apply run_sound 200
      simp -implicitDefEqProofs +decide only [go_sem, ofH, tR, sR]
      refine selP_dec (fun hlt3 => ?_) (fun hlt3 => ?_)
      · obtain ⟨x, hx⟩ := getI hlt3
        have hxl : x < (n : Int) := hw _ r hr' x (List.mem_of_getElem? hx)
        obtain ⟨b, hb⟩ : ∃ b, m3[n]? = some b := getI (by omega)
        have hb' : (m3.map T.bool)[n]? = some (.bool b) := by simp [hb]
        have hg : m3.getD n false = b := by simp [List.getD, hb]
        rw [drop_cons hx, markRow, List.foldl_cons, hg] at he3
        change markRow n _ (r.drop (j + 1)) = _ at he3
        simp -implicitDefEqProofs +decide only [go_sem, ofH, tR, sR, hb', hlt2]
        refine selP_bool (fun h1 => ?_) (fun h1 => ?_)
        · subst h1
          simp -implicitDefEqProofs +decide only [go_sem, ofH, tR, sR, hb', hlt2, hr2, sI_cells, List.getElem?_cons_zero]
          simp -implicitDefEqProofs +decide only [go_sem, sI, hx]
          refine selP_dec (fun hx0 => ?_) (fun hx0 => ?_)
          · obtain ⟨y, rfl⟩ : ∃ y : Nat, x = y := ⟨x.toNat, by omega⟩
            obtain ⟨b, hbit2⟩ : ∃ b, m3[y]? = some b := getI (by omega)
            have hbit3 : (m3.map T.bool)[y]? = some (.bool b) := by simp [hbit2]
            have hlt5 : y < rows.length := by omega
            simp -implicitDefEqProofs +decide only [go_sem, ofH, tR, sR, hb', hlt2, hr2, sI_cells, List.getElem?_cons_zero]
            simp -implicitDefEqProofs +decide only [go_sem, sI, hx, hbit3, hlt5]
            refine hJ3 (j + 1, m3.set y true) _ ⟨hlt3, by simpa using hm3, ?_⟩ (by first | omega | (dsimp only; omega)) (Wk.rows _ _ (fun _ _ => rfl) rfl rfl ?_ (fun lab hp => by cases lab <;> first | rfl | cases hp) ?_ ?_)
            · rw [← he3]; simp
            · simp -implicitDefEqProofs +decide only [go_sem, set_map]
            · simp -implicitDefEqProofs +decide only [go_sem, tR, sR, wS (show j < 1000000000000 by omega)]
            · simp -implicitDefEqProofs +decide only [go_sem, tR, sR]
          · simp -implicitDefEqProofs +decide only [go_sem, ofH, tR, sR]
            refine hJ3 (j + 1, m3) _ ⟨hlt3, hm3, ?_⟩ (by first | omega | (dsimp only; omega)) (Wk.rows _ _ (fun _ _ => rfl) rfl rfl ?_ (fun lab hp => by cases lab <;> first | rfl | cases hp) ?_ ?_)
            · rw [← he3]; simp [show ¬ 0 ≤ x by omega]
            · simp -implicitDefEqProofs +decide only [go_sem]
            · simp -implicitDefEqProofs +decide only [go_sem, tR, sR, wS (show j < 1000000000000 by omega)]
            · simp -implicitDefEqProofs +decide only [go_sem, tR, sR]
        · subst h1
          simp -implicitDefEqProofs +decide only [go_sem, ofH, tR, sR]
          refine hJ3 (j + 1, m3) _ ⟨hlt3, hm3, ?_⟩ (by first | omega | (dsimp only; omega)) (Wk.rows _ _ (fun _ _ => rfl) rfl rfl ?_ (fun lab hp => by cases lab <;> first | rfl | cases hp) ?_ ?_)
          · rw [← he3]; simp
          · simp -implicitDefEqProofs +decide only [go_sem]
          · simp -implicitDefEqProofs +decide only [go_sem, tR, sR, wS (show j < 1000000000000 by omega)]
          · simp -implicitDefEqProofs +decide only [go_sem, tR, sR]
      · simp -implicitDefEqProofs +decide only [go_sem, ofH, tR, sR]
        refine hJ2 (n + 1, m3) _ ⟨hlt2, hm3, ?_⟩ (by first | omega | (dsimp only; omega)) (Wk.rows _ _ (fun _ _ => rfl) rfl rfl ?_ (fun lab hp => by cases lab <;> first | rfl | cases hp) ?_ ?_)
        · rw [List.drop_of_length_le (by omega)] at he3
          rw [← he2, ← he3]; rfl
        · simp -implicitDefEqProofs +decide only [go_sem]
        · simp -implicitDefEqProofs +decide only [go_sem, tR, sR, wS (show n < 1000000000000 by omega)]
        · simp -implicitDefEqProofs +decide only [go_sem, tR, sR]
    · simp -implicitDefEqProofs +decide only [go_sem, ofH, tR, sR]
      refine hJ (i + 1, m2) _ ⟨hlt, hm2, ?_⟩ (by first | omega | (dsimp only; omega)) (Wk.rows _ _ (fun _ _ => rfl) rfl rfl ?_ (fun lab hp => by cases lab <;> first | rfl | cases hp) ?_ ?_)
      · rw [List.drop_of_length_le (by omega)] at he2
        rw [← he, ← he2]; rfl
      · simp -implicitDefEqProofs +decide only [go_sem]
      · simp -implicitDefEqProofs +decide only [go_sem, tR, sR, wS (show i < 1000000000000 by omega)]
      · simp -implicitDefEqProofs +decide only [go_sem, tR, sR]
  · rw [show rows.length - i = 0 by omega] at he
    have he : m = refMarks rows k := he
    subst he
    simp -implicitDefEqProofs +decide only [go_sem, ofH, tR, sR]
    refine Goes.wk (Wk.nilRow (d := 8) (lab := .loc 85 0) (size := 1) (by simp -implicitDefEqProofs +decide only [go_sem]) (by simp -implicitDefEqProofs +decide only [go_sem]) rfl (by decide)) ?_
    generalize refMarks rows k = m at hm hfin ⊢
    refine Goes.loop (X := Nat × List Int × Nat) (fun x => ⟨ofL [(0, tR rows), (5, .sl (.loc 21 0) 0 0 rows.length), (8, .sl (.loc 85 0) x.2.2 0 x.2.1.length), (69, .t (.int .i64 rows.length)), (70, .t (.int .i64 x.1))],
        ofH (fun _ => none) [(.loc 21 0, .arr 1 (m.map .bool) 0 0), (.loc 85 0, .arr 1 (x.2.1.map (.int .i64)) x.2.2 0)], 0⟩)
      (fun x => x.1 ≤ rows.length ∧ x.2.1.length ≤ x.1 ∧ x.2.1 ++ descL (fun n => m.getD n false) (rows.length - x.1) = reachR rows k) (fun x => rows.length - x.1) (0, [], 0) ?_ ?_ ?_
    · refine Wk.rows _ _ (fun _ _ => rfl) rfl rfl ?_ (fun lab hp => by cases lab <;> first | rfl | cases hp) ?_ ?_
      · simp -implicitDefEqProofs +decide only [go_sem]
      · simp -implicitDefEqProofs +decide only [go_sem, tR, sR]
      · simp -implicitDefEqProofs +decide only [go_sem, tR, sR]
    · exact ⟨Nat.zero_le _, Nat.le_refl _, hfin.symm⟩
    rintro ⟨i, out, v⟩ ⟨hi, ho, he⟩ J hJ
    dsimp only at hi ho he hJ ⊢
    apply run_sound 200
    simp -implicitDefEqProofs +decide only [go_sem, ofH, tR, sR]
    refine selP_dec (fun hlt => ?_) (fun hlt => ?_)
    · obtain ⟨b, hb⟩ : ∃ b, m[rows.length - 1 - i]? = some b := getI (by omega)
      have hb' : (m.map T.bool)[rows.length - 1 - i]? = some (.bool b) := by simp [hb]
      have hg : m.getD (rows.length - 1 - i) false = b := by simp [List.getD, hb]
      have hlt2 : rows.length - 1 - i < rows.length := by omega
      have hb2 : out.length + 1 < big := by unfold big; omega
      have ha1 : IntKind.wrap .i64 ((rows.length : Int) - 1) = ((rows.length - 1 : Nat) : Int) := by rw [w64] <;> omega
      have hd : rows.length - i = (rows.length - 1 - i) + 1 := by omega
      rw [hd, descL, hg] at he
      simp -implicitDefEqProofs +decide only [go_sem, ofH, tR, sR, ha1, wSub (show i ≤ rows.length - 1 by omega) (show rows.length - 1 < 1000000000000 by omega), hb', hlt2]
      refine selP_bool (fun h1 => ?_) (fun h1 => ?_)
      · subst h1
        simp -implicitDefEqProofs +decide only [go_sem, ofH, tR, sR, hb2]
        refine hJ (i + 1, out ++ [((rows.length - 1 - i : Nat) : Int)], v + 1) _ ⟨hlt, by simp; omega, ?_⟩ (by first | omega | (dsimp only; omega)) (Wk.rows _ _ (fun _ _ => rfl) rfl rfl ?_ (fun lab hp => by cases lab <;> first | rfl | cases hp) ?_ ?_)
        · rw [← he, show rows.length - (i + 1) = rows.length - 1 - i by omega]; simp
        · simp -implicitDefEqProofs +decide only [go_sem, List.map_append, List.map_cons, List.map_nil]
        · simp -implicitDefEqProofs +decide only [go_sem, tR, sR, wS (show i < 1000000000000 by omega), List.length_append, List.length_cons, List.length_nil]
        · simp -implicitDefEqProofs +decide only [go_sem, tR, sR]
      · subst h1
        simp -implicitDefEqProofs +decide only [go_sem, ofH, tR, sR]
        refine hJ (i + 1, out, v) _ ⟨hlt, (by first | omega | (dsimp only; omega)), ?_⟩ (by first | omega | (dsimp only; omega)) (Wk.rows _ _ (fun _ _ => rfl) rfl rfl ?_ (fun lab hp => by cases lab <;> first | rfl | cases hp) ?_ ?_)
        · rw [← he, show rows.length - (i + 1) = rows.length - 1 - i by omega]; simp
        · simp -implicitDefEqProofs +decide only [go_sem]
        · simp -implicitDefEqProofs +decide only [go_sem, tR, sR, wS (show i < 1000000000000 by omega)]
        · simp -implicitDefEqProofs +decide only [go_sem, tR, sR]
    · simp -implicitDefEqProofs +decide only [go_sem, ofH, tR, sR]
      rw [show rows.length - i = 0 by omega, descL, List.append_nil] at he
      rw [← he]
      refine endF.whole (lab := .loc 85 0) (v := v) (len := out.length) (size := 1) (frz := 0) (.inr rfl) (by simp -implicitDefEqProofs +decide only [go_sem]) (by simp -implicitDefEqProofs +decide only [go_sem]) (by simp) rfl (fun l hp => by cases l <;> first | rfl | cases hp) rfl
end Go.Fm
/- The tape: what the program reaches is what the reference reaches. -/
namespace Go.Fm

/-- What hangs below the root. -/
inductive Rch (rows : List (List Int)) (root : Nat) : Nat → Prop
  | root : Rch rows root root
  | step {p c : Nat} {r : List Int} : Rch rows root p → rows[p]? = some r → (c : Int) ∈ r → Rch rows root c

section
variable {rows : List (List Int)} {root : Nat}

theorem Rch.le (hw : WellT rows) {n : Nat} (h : Rch rows root n) : n ≤ root := by
  induction h with
  | root => exact Nat.le_refl _
  | step _ hp hc ih => have := hw _ _ hp _ hc; omega

theorem markRow_iff (n : Nat) (r : List Int) : ∀ (m : List Bool), (∀ x ∈ r, x < (n : Int)) → n < m.length → ∀ c, (markRow n m r).getD c false = true ↔ (m.getD c false = true ∨ (m.getD n false = true ∧ (c : Int) ∈ r ∧ c < m.length)) := by
  induction r with
  | nil => intro m _ _ c; simp [markRow]
  | cons x r ih =>
    intro m hx hn c
    have hx0 := hx x (by simp)
    have e : markRow n m (x :: r) = markRow n (if m.getD n false = true ∧ 0 ≤ x then m.set x.toNat true else m) r := rfl
    rw [e]
    split
    · rename_i h
      rw [ih _ (fun y hy => hx y (by simp [hy])) (by simpa using hn)]
      have hne : x.toNat ≠ n := by omega
      have e1 : (m.set x.toNat true).getD n false = m.getD n false := by simp [List.getD, List.getElem?_set, hne]
      rw [e1, List.length_set]
      by_cases hc : x.toNat = c
      · subst hc
        have e2 : (m.set x.toNat true).getD x.toNat false = true := by
          have : x.toNat < m.length := by omega
          simp [List.getD, List.getElem?_set, this]
        have e3 : ((x.toNat : Nat) : Int) = x := by omega
        simp only [e2, e3, List.mem_cons, true_or, true_and, true_iff]
        exact .inr ⟨h.1, by omega⟩
      · have e2 : (m.set x.toNat true).getD c false = m.getD c false := by simp [List.getD, List.getElem?_set, hc]
        rw [e2, List.mem_cons]
        have : ¬ (c : Int) = x := by omega
        simp [this]
    · rename_i h
      rw [ih _ (fun y hy => hx y (by simp [hy])) hn]
      rw [List.mem_cons]
      constructor
      · rintro (h1 | ⟨h1, h2, h3⟩)
        · exact .inl h1
        · exact .inr ⟨h1, .inr h2, h3⟩
      · rintro (h1 | ⟨h1, rfl | h2, h3⟩)
        · exact .inl h1
        · exact absurd ⟨h1, by omega⟩ h
        · exact .inr ⟨h1, h2, h3⟩

/-- Marks that speak true. -/
def Sound (rows : List (List Int)) (root : Nat) (m : List Bool) : Prop := ∀ c, m.getD c false = true → Rch rows root c

theorem sweep_spec (hw : WellT rows) : ∀ (rs : List (List Int)) (n : Nat) (m : List Bool), rs = rows.drop n → n + rs.length = rows.length → m.length = rows.length → Sound rows root m →
    (sweepL n rs m).length = rows.length ∧ Sound rows root (sweepL n rs m) ∧ (∀ c, m.getD c false = true → (sweepL n rs m).getD c false = true) ∧
    ∀ p r, n ≤ p → rows[p]? = some r → m.getD p false = true → ∀ c : Nat, (c : Int) ∈ r → (sweepL n rs m).getD c false = true
  | [], n, m, he, hl, hm, hs => ⟨hm, hs, fun _ h => h, fun p r hp hr _ => by
      have := (List.getElem?_eq_some_iff.1 hr).1
      simp at hl; omega⟩
  | r0 :: rs, n, m, he, hl, hm, hs => by
    have hn : n < rows.length := by simp at hl; omega
    have hr0 : rows[n]? = some r0 := by
      have := congrArg (fun l => l[0]?) he
      simpa using this.symm
    have hrs : rs = rows.drop (n + 1) := by
      have := drop_cons hr0
      rw [← he] at this
      exact (List.cons.inj this).2
    have hx := hw _ _ hr0
    have hmk := markRow_iff n r0 m hx (by omega)
    have hs' : Sound rows root (markRow n m r0) := fun c hc => by
      rcases (hmk c).1 hc with h | ⟨h1, h2, _⟩
      · exact hs c h
      · exact .step (hs n h1) hr0 h2
    obtain ⟨g1, g2, g3, g4⟩ := sweep_spec hw rs (n + 1) (markRow n m r0) hrs (by simp at hl; omega) (by rw [markRow_length]; exact hm) hs'
    refine ⟨g1, g2, fun c hc => g3 c ((hmk c).2 (.inl hc)), fun p r hp hr hpm c hc => ?_⟩
    by_cases e : p = n
    · subst e
      rw [hr0] at hr; cases hr
      refine g3 c ((hmk c).2 (.inr ⟨hpm, hc, ?_⟩))
      have := hx _ hc; omega
    · exact g4 p r (by omega) hr ((hmk p).2 (.inl hpm)) c hc

/-- Reached in at most d steps. -/
def At (rows : List (List Int)) (root : Nat) : Nat → Nat → Prop
  | 0, c => c = root
  | d + 1, c => At rows root d c ∨ ∃ p r, At rows root d p ∧ rows[p]? = some r ∧ (c : Int) ∈ r

theorem at_mono {d c : Nat} (h : At rows root d c) : ∀ e, At rows root (d + e) c
  | 0 => h
  | e + 1 => .inl (at_mono h e)

theorem rch_at (hw : WellT rows) {c : Nat} (h : Rch rows root c) : ∃ d, At rows root d c ∧ d + c ≤ root := by
  induction h with
  | root => exact ⟨0, rfl, by omega⟩
  | @step p c r hp hr hc ih =>
    obtain ⟨d, h1, h2⟩ := ih
    have := hw _ _ hr _ hc
    exact ⟨d + 1, .inr ⟨p, r, h1, hr, hc⟩, by omega⟩

theorem rounds_spec (hw : WellT rows) : ∀ (k d : Nat) (m : List Bool), m.length = rows.length → Sound rows root m → (∀ c, At rows root d c → m.getD c false = true) →
    (rounds rows k m).length = rows.length ∧ Sound rows root (rounds rows k m) ∧ ∀ c, At rows root (d + k) c → (rounds rows k m).getD c false = true
  | 0, d, m, hm, hs, ha => ⟨hm, hs, ha⟩
  | k + 1, d, m, hm, hs, ha => by
    obtain ⟨g1, g2, g3, g4⟩ := sweep_spec (root := root) hw rows 0 m (by simp) (by simp) hm hs
    have := rounds_spec hw k (d + 1) (sweepL 0 rows m) g1 g2 (fun c hc => by
      rcases hc with h | ⟨p, r, h1, h2, h3⟩
      · exact g3 c (ha c h)
      · exact g4 p r (Nat.zero_le _) h2 (ha p h1) c h3)
    rwa [show d + (k + 1) = d + 1 + k by omega]

theorem init_get {n : Nat} (h : root < n) (c : Nat) : ((List.replicate n false).set root true).getD c false = true ↔ c = root := by
  simp only [List.getD, List.getElem?_set, List.length_replicate]
  by_cases e : root = c
  · subst e; simp [h]
  · simp only [if_neg e, List.getElem?_replicate]
    constructor
    · split <;> simp
    · intro h; exact absurd h.symm e

theorem refMarks_iff (hw : WellT rows) (hr : root < rows.length) (c : Nat) : (refMarks rows root).getD c false = true ↔ Rch rows root c := by
  obtain ⟨g1, g2, g3⟩ := rounds_spec (root := root) hw rows.length 0 ((List.replicate rows.length false).set root true) (by simp) (fun c hc => by rw [(init_get hr c).1 hc]; exact .root) (fun c hc => (init_get hr c).2 hc)
  refine ⟨g2 c, fun h => ?_⟩
  obtain ⟨d, h1, h2⟩ := rch_at hw h
  have := at_mono h1 (rows.length - d)
  exact g3 c (by rwa [show 0 + rows.length = d + (rows.length - d) by omega])

theorem marks_iff (r : List Int) : ∀ (m : List Bool) (c : Nat), c < m.length → ((marks m r).getD c false = true ↔ (m.getD c false = true ∨ (c : Int) ∈ r)) := by
  induction r with
  | nil => intro m c _; simp [marks]
  | cons x r ih =>
    intro m c hc
    have e : marks m (x :: r) = marks (if 0 ≤ x then m.set x.toNat true else m) r := rfl
    rw [e]
    split
    · rename_i h
      rw [ih _ c (by simpa using hc)]
      by_cases hc' : x.toNat = c
      · subst hc'
        have e2 : (m.set x.toNat true).getD x.toNat false = true := by simp [List.getD, List.getElem?_set, hc]
        have e3 : ((x.toNat : Nat) : Int) = x := by omega
        rw [e2, e3]; simp
      · have e2 : (m.set x.toNat true).getD c false = m.getD c false := by simp [List.getD, List.getElem?_set, hc']
        rw [e2, List.mem_cons]
        have : ¬ (c : Int) = x := by omega
        simp [this]
    · rw [ih _ c hc, List.mem_cons]
      have : ¬ (c : Int) = x := by omega
      simp [this]

theorem descL_congr {p q : Nat → Bool} : ∀ k, (∀ n, n < k → p n = q n) → descL p k = descL q k
  | 0, _ => rfl
  | k + 1, h => by
    unfold descL
    rw [h k (by omega), descL_congr k fun n hn => h n (by omega)]

theorem reachGo_spec (hw : WellT rows) (p : Nat → Bool) (hp : ∀ c, p c = true ↔ Rch rows root c) : ∀ (k : Nat) (m : List Bool) (out : List Int), k ≤ root + 1 → root < rows.length → m.length = root + 1 → Sound rows root m → m.getD root false = true →
    (∀ q r, k ≤ q → rows[q]? = some r → Rch rows root q → ∀ c : Nat, (c : Int) ∈ r → m.getD c false = true) → reachGo rows k m out = out ++ descL p k
  | 0, m, out, _, _, _, _, _, _ => by simp [reachGo, descL]
  | k + 1, m, out, hk, hr, hm, hs, h0, hc => by
    have key : m.getD k false = p k := by
      rw [Bool.eq_iff_iff, hp]
      refine ⟨hs k, fun h => ?_⟩
      cases h with
      | root => exact h0
      | step hq hr' hc' => exact hc _ _ (by have := hw _ _ hr' _ hc'; omega) hr' hq _ hc'
    unfold reachGo descL
    rw [key]
    obtain ⟨r, hr'⟩ := getI (show k < rows.length by omega)
    have hg : rows.getD k [] = r := by simp [List.getD, hr']
    by_cases h : p k = true
    · rw [if_pos h, if_pos h, hg]
      have hmk := fun c hc => marks_iff r m c hc
      rw [reachGo_spec hw p hp k (marks m r) _ (by omega) hr (by rw [marks_length]; exact hm) ?_ ((hmk root (by omega)).2 (.inl h0)) ?_]
      · simp
      · intro c hc'
        by_cases hcl : c < m.length
        · rcases (hmk c hcl).1 hc' with h1 | h1
          · exact hs c h1
          · exact .step ((hp k).1 h) hr' h1
        · rw [List.getD, List.getElem?_eq_none (by rw [marks_length]; omega)] at hc'
          cases hc'
      · intro q rq hq hrq hR c hcq
        have hcl : c < m.length := by
          have := hw _ _ hrq _ hcq
          have := Rch.le hw hR
          omega
        by_cases e : q = k
        · subst e
          rw [hr'] at hrq; cases hrq
          exact (hmk c hcl).2 (.inr hcq)
        · exact (hmk c hcl).2 (.inl (hc q rq (by omega) hrq hR c hcq))
    · rw [if_neg h, if_neg h]
      refine reachGo_spec hw p hp k m out (by omega) hr hm hs h0 fun q rq hq hrq hR c hcq => ?_
      by_cases e : q = k
      · subst e; exact absurd ((hp q).2 hR) h
      · exact hc q rq (by omega) hrq hR c hcq
end

theorem descL_tail {p : Nat → Bool} {a : Nat} : ∀ b, (∀ n, a ≤ n → p n = false) → descL p (a + b) = descL p a
  | 0, _ => rfl
  | b + 1, h => by
    have : descL p (a + (b + 1)) = descL p (a + b) := by
      show (if p (a + b) then _ else _) = _
      rw [h (a + b) (by omega)]; rfl
    rw [this, descL_tail b h]

theorem reach_eq {rows : List (List Int)} (hw : WellT rows) (root : Int) : reachT rows root = reachR rows root := by
  unfold reachT reachR
  split
  · rfl
  · rename_i h
    have hr : root.toNat < rows.length := by omega
    have hp := refMarks_iff hw hr
    rw [reachGo_spec hw (fun n => (refMarks rows root.toNat).getD n false) hp (root.toNat + 1) _ [] (Nat.le_refl _) hr (by simp) (fun c hc => by rw [(init_get (Nat.lt_succ_self _) c).1 hc]; exact .root) ((init_get (Nat.lt_succ_self _) _).2 rfl) ?_, List.nil_append]
    · have : rows.length = root.toNat + 1 + (rows.length - (root.toNat + 1)) := by omega
      rw [this]
      refine (descL_tail _ fun n hn => ?_).symm
      cases e : (refMarks rows root.toNat).getD n false with
      | false => rfl
      | true => have := Rch.le hw ((hp n).1 e); omega
    · intro q r hq hr' hR
      have := Rch.le hw hR; omega
end Go.Fm
/- The tape: made. -/
namespace Go.Fm
open Go.Proofs
set_option maxRecDepth 100000

def madeR (l : List (List Int)) : List (List Int) := l.foldl addR []
def smallR (l : List (List Int)) : Prop := l.length ≤ 220 ∧ ∀ r ∈ l, r.length ≤ 20
theorem not_many {l : List (List Int)} (h : manyOf l = false) : smallR l := by
  unfold manyOf at h
  rw [Bool.or_eq_false_iff, List.any_eq_false] at h
  refine ⟨by simpa using h.2, fun r hr => ?_⟩
  have := h.1 r hr
  simpa using this

theorem addR_spec {rows : List (List Int)} {ins : List Int} (hw : WellT rows) (hs : ∀ r ∈ rows, r.length ≤ 20) (hi : ins.length ≤ 20) : WellT (addR rows ins) ∧ (∀ r ∈ addR rows ins, r.length ≤ 20) ∧ (addR rows ins).length ≤ rows.length + 1 := by
  unfold addR
  split
  · rename_i h
    have ho : okIns rows.length ins = true := by
      cases e : okIns rows.length ins with
      | true => rfl
      | false => simp [addE, e] at h
    refine ⟨fun n r hr x hx => ?_, fun r hr => ?_, by simp⟩
    · by_cases hn : n < rows.length
      · rw [List.getElem?_append_left hn] at hr
        exact hw n r hr x hx
      · rw [List.getElem?_append_right (by omega)] at hr
        have hn' : n = rows.length := by
          have := (List.getElem?_eq_some_iff.1 hr).1
          simp at this; omega
        subst hn'
        simp at hr; subst hr
        have := List.all_eq_true.1 ho x hx
        simp at this; exact this.2
    · rcases List.mem_append.1 hr with h | h
      · exact hs r h
      · simp at h; subst h; exact hi
  · exact ⟨hw, hs, by omega⟩

theorem foldl_take_succ {α β : Type} (f : β → α → β) (b : β) (l : List α) {i : Nat} {x : α} (h : l[i]? = some x) : (l.take (i + 1)).foldl f b = f ((l.take i).foldl f b) x := by
  rw [List.take_add_one, h]; simp

theorem fold_spec : ∀ (l rows : List (List Int)), (∀ r ∈ l, r.length ≤ 20) → WellT rows → (∀ r ∈ rows, r.length ≤ 20) → WellT (l.foldl addR rows) ∧ (∀ r ∈ l.foldl addR rows, r.length ≤ 20) ∧ (l.foldl addR rows).length ≤ rows.length + l.length
  | [], rows, _, hw, hs => ⟨hw, hs, by simp⟩
  | x :: l, rows, hl, hw, hs => by
    obtain ⟨g1, g2, g3⟩ := addR_spec hw hs (hl x (by simp))
    obtain ⟨k1, k2, k3⟩ := fold_spec l (addR rows x) (fun r hr => hl r (by simp [hr])) g1 g2
    exact ⟨k1, k2, by simp only [List.length_cons]; show (List.foldl addR (addR rows x) l).length ≤ _; omega⟩

theorem made_spec {l : List (List Int)} (hm : smallR l) (i : Nat) : WellT (madeR (l.take i)) ∧ (∀ r ∈ madeR (l.take i), r.length ≤ 20) ∧ (madeR (l.take i)).length ≤ i := by
  obtain ⟨h1, h2, h3⟩ := fold_spec (l.take i) [] (fun r hr => hm.2 r (List.mem_of_mem_take hr)) (fun n r h => by cases h) (fun r h => by cases h)
  exact ⟨h1, h2, by have := h3; simp at this; unfold madeR; omega⟩

theorem chain {P : Nat → Heap → Prop} {R : Nat → Heap → Heap → Prop} (h0 : Heap) (p0 : P 0 h0) (step : ∀ i h, P i h → ∃ h', P (i + 1) h' ∧ R i h h') : ∃ H : Nat → Heap, H 0 = h0 ∧ ∀ i, P i (H i) ∧ R i (H i) (H (i + 1)) := by
  let G : (i : Nat) → { h // P i h } := fun i => Nat.rec (motive := fun i => { h // P i h }) ⟨h0, p0⟩ (fun i h => ⟨Classical.choose (step i h.1 h.2), (Classical.choose_spec (step i h.1 h.2)).1⟩) i
  exact ⟨fun i => (G i).1, rfl, fun i => ⟨(G i).2, (Classical.choose_spec (step i (G i).1 (G i).2)).2⟩⟩

theorem made_ok (l : List (List Int)) (hm : smallR l) : ∃ h', (∀ l, Lab.pool l = false → h' l = none) ∧ TapeAt h' 0 (madeR l) ∧
    Ret Try.prog 8 [sR l] (fun _ => none) 0 [.t (.ptr 0), .t (sR (madeR l)), .t (.bool true)] h' 1 := by
  obtain ⟨h0, hb0, t0, r0⟩ := new_tape (fun _ => none) 0 (fun _ _ => rfl) rfl rfl
  obtain ⟨H, rfl, hH⟩ := chain (P := fun i h => (∀ l, Lab.pool l = false → h l = none) ∧ TapeAt h 0 (madeR (l.take i)))
    (R := fun i h h' => ∀ ins, l[i]? = some ins → Ret Try.prog 16 [.ptr 0, sI ins] h 1 [.t (.int .i64 (addN (madeR (l.take i)) ins)), .t (.int .i64 (addE (madeR (l.take i)) ins))] h' 1) h0 ⟨hb0, t0⟩ (by
      rintro i h ⟨hb, ht⟩
      by_cases hi : i < l.length
      · obtain ⟨x, hx⟩ := getI hi
        obtain ⟨g1, g2, g3⟩ := made_spec hm i
        have := hm.1
        have := hm.2 x (List.mem_of_getElem? hx)
        obtain ⟨h', k1, k2, k3⟩ := add_ok h 1 0 (madeR (l.take i)) x hb ht (by omega) (by omega)
        refine ⟨h', ⟨k1, ?_⟩, fun ins hins => ?_⟩
        · rw [madeR, foldl_take_succ _ _ _ hx]; exact k2
        · rw [hx] at hins; cases hins; exact k3
      · refine ⟨h, ⟨hb, ?_⟩, fun ins hins => ?_⟩
        · rwa [List.take_of_length_le (by omega)] at ht ⊢
        · rw [List.getElem?_eq_none (by omega)] at hins; cases hins)
  have hll := hm.1
  have hbL := (hH l.length).1.1
  have htL := (hH l.length).1.2
  rw [List.take_length] at htL
  refine ⟨H l.length, hbL, htL, ?_⟩
  refine Ret.intro Try.func8 rfl (rt := [2, 3, 4]) rfl (by simp [Try.ntmps8]) (by decide) (sites := fun _ => false) hbL (fun id cs hc => by cases hc) ?_
  apply run_sound 200
  simp -implicitDefEqProofs +decide only [go_sem, sR]
  refine CallG.pool _ Try.call17 r0 (fun _ _ => rfl) (fun l hp => rfl) ?_
  apply run_sound 200
  simp -implicitDefEqProofs +decide only [go_sem, sR]
  refine Goes.wk (Wk.mixed (base := H 0) (m := 1) [(0, tR l), (5, .t (.ptr 0)), (6, .nil), (13, .t (.int .i64 l.length)), (14, .t (.int .i64 0))] hb0 rfl (fun l hp => by cases l <;> first | rfl | cases hp) (by simp -implicitDefEqProofs +decide only [go_sem, tR, sR]) (by simp -implicitDefEqProofs +decide only [go_sem, tR, sR])) ?_
  refine Goes.wk (Wk.nilRow (d := 6) (lab := .loc 68 0) (size := 1) (by simp -implicitDefEqProofs +decide only [go_sem]) (hb0 _ rfl) rfl (by decide)) ?_
  refine Goes.loop (X := Nat × Nat) (fun x => ⟨ofL [(0, tR l), (5, .t (.ptr 0)), (6, .sl (.loc 68 0) x.2 0 (madeR (l.take x.1)).length), (13, .t (.int .i64 l.length)), (14, .t (.int .i64 x.1))],
      ofH (H x.1) [(.loc 68 0, .arr 1 ((madeR (l.take x.1)).map sI) x.2 0)], 1⟩)
    (fun x => x.1 ≤ l.length) (fun x => l.length - x.1) (0, 0) ?_ ?_ ?_
  · refine Wk.rows _ _ hb0 rfl rfl ?_ (fun lab hp => by cases lab <;> first | rfl | cases hp) ?_ ?_
    · simp -implicitDefEqProofs +decide only [go_sem, List.take_zero, madeR]
    · simp -implicitDefEqProofs +decide only [go_sem, tR, sR, List.take_zero, madeR]
    · simp -implicitDefEqProofs +decide only [go_sem, tR, sR]
  · exact Nat.zero_le _
  rintro ⟨i, v⟩ hi J hJ
  dsimp only at hi hJ ⊢
  have hb := (hH i).1.1
  have hl : ∀ d j, H i (.loc d j) = none := fun d j => hb _ rfl
  apply run_sound 200
  simp -implicitDefEqProofs +decide only [go_sem, ofH, tR, sR]
  refine selP_dec (fun hlt => ?_) (fun hlt => ?_)
  · obtain ⟨x, hx⟩ := getI hlt
    have hx2 : (l.map sI)[i]? = some (sI x) := by simp [hx]
    have hadd := (hH i).2 x hx
    have hxl := hm.2 x (List.mem_of_getElem? hx)
    obtain ⟨w1, w2, w3⟩ := made_spec hm i
    have hnext : madeR (l.take (i + 1)) = addR (madeR (l.take i)) x := by rw [madeR, foldl_take_succ _ _ _ hx]; rfl
    simp -implicitDefEqProofs +decide only [go_sem, ofH, tR, sR, hx2, sI_cells, List.getElem?_cons_zero]
    generalize hrows : madeR (l.take i) = rows at *
    refine CallG.pool _ Try.call16 hadd hb (fun l hp => by cases l <;> first | rfl | cases hp) ?_
    have hb' := (hH (i + 1)).1.1
    have hl' : ∀ d j, H (i + 1) (.loc d j) = none := fun d j => hb' _ rfl
    apply run_sound 200
    simp -implicitDefEqProofs +decide only [go_sem, ofH, tR, sR, hx2, sI_cells, List.getElem?_cons_zero]
    have hb2 : rows.length + 1 < big := by unfold big; omega
    refine selP_dec (fun h200 => ?_) (fun h200 => ?_)
    · have h200 : 200 ≤ rows.length := by omega
      simp -implicitDefEqProofs +decide only [go_sem, ofH, tR, sR, hx2, sI_cells, List.getElem?_cons_zero]
      refine CallG.pure [.t (.bool (okIns rows.length x))] Try.call18 (right_ok x rows.length (by omega)) (by rw [List.all_cons, sI, noPtr_ints]; rfl) rfl ?_
      apply run_sound 200
      simp -implicitDefEqProofs +decide only [go_sem]
      refine selP_bool (fun ho => ?_) (fun ho => ?_)
      · have ho : okIns rows.length x = false := by simpa using ho
        have hE : addE rows x = 11 := by simp [addE, ho, h200]
        have hN : addN rows x = 0 := by simp [addN, hE]
        have hR : addR rows x = rows := by simp [addR, hE]
        simp -implicitDefEqProofs +decide only [go_sem, hE, hN, hl']
        refine hJ (i + 1, v) _ hlt (by first | omega | (dsimp only; omega)) (Wk.rows _ _ hb' rfl rfl ?_ (fun lab hp => by cases lab <;> first | rfl | cases hp) ?_ ?_)
        · simp -implicitDefEqProofs +decide only [go_sem, hnext, hR]
        · simp -implicitDefEqProofs +decide only [go_sem, tR, sR, hnext, hR, wS (show i < 1000000000000 by omega)]
        · simp -implicitDefEqProofs +decide only [go_sem, tR, sR, hnext, hR]
      · have ho : okIns rows.length x = true := by simpa using ho
        have hE : addE rows x = 13 := by simp [addE, ho, h200]
        have hN : addN rows x = 0 := by simp [addN, hE]
        have hR : addR rows x = rows := by simp [addR, hE]
        simp -implicitDefEqProofs +decide only [go_sem, hE, hN, hl']
        refine hJ (i + 1, v) _ hlt (by first | omega | (dsimp only; omega)) (Wk.rows _ _ hb' rfl rfl ?_ (fun lab hp => by cases lab <;> first | rfl | cases hp) ?_ ?_)
        · simp -implicitDefEqProofs +decide only [go_sem, hnext, hR]
        · simp -implicitDefEqProofs +decide only [go_sem, tR, sR, hnext, hR, wS (show i < 1000000000000 by omega)]
        · simp -implicitDefEqProofs +decide only [go_sem, tR, sR, hnext, hR]
    · have h200 : ¬ 200 ≤ rows.length := by omega
      simp -implicitDefEqProofs +decide only [go_sem, ofH, tR, sR, hx2, sI_cells, List.getElem?_cons_zero]
      refine CallG.pure [.t (.bool (okIns rows.length x))] Try.call18 (right_ok x rows.length (by omega)) (by rw [List.all_cons, sI, noPtr_ints]; rfl) rfl ?_
      apply run_sound 200
      simp -implicitDefEqProofs +decide only [go_sem]
      refine selP_bool (fun ho => ?_) (fun ho => ?_)
      · have ho : okIns rows.length x = false := by simpa using ho
        have hE : addE rows x = 11 := by simp [addE, ho, h200]
        have hN : addN rows x = 0 := by simp [addN, hE]
        have hR : addR rows x = rows := by simp [addR, hE]
        simp -implicitDefEqProofs +decide only [go_sem, hE, hN, hl']
        refine hJ (i + 1, v) _ hlt (by first | omega | (dsimp only; omega)) (Wk.rows _ _ hb' rfl rfl ?_ (fun lab hp => by cases lab <;> first | rfl | cases hp) ?_ ?_)
        · simp -implicitDefEqProofs +decide only [go_sem, hnext, hR]
        · simp -implicitDefEqProofs +decide only [go_sem, tR, sR, hnext, hR, wS (show i < 1000000000000 by omega)]
        · simp -implicitDefEqProofs +decide only [go_sem, tR, sR, hnext, hR]
      · have ho : okIns rows.length x = true := by simpa using ho
        have hE : addE rows x = 0 := by simp [addE, ho, h200]
        have hN : addN rows x = rows.length := by simp [addN, hE]
        have hR : addR rows x = rows ++ [x] := by simp [addR, hE]
        simp -implicitDefEqProofs +decide only [go_sem, hE, hN, hl', hb2, sI_cells, ne_eq, not_true_eq_false, hx, hl]
        refine hJ (i + 1, v + 1) _ hlt (by first | omega | (dsimp only; omega)) (Wk.rows _ _ hb' rfl rfl ?_ (fun lab hp => by cases lab <;> first | rfl | cases hp) ?_ ?_)
        · simp -implicitDefEqProofs +decide only [go_sem, hnext, hR]
        · simp -implicitDefEqProofs +decide only [go_sem, tR, sR, hnext, hR, wS (show i < 1000000000000 by omega)]
        · simp -implicitDefEqProofs +decide only [go_sem, tR, sR, hnext, hR]
  · have : i = l.length := by omega
    subst this
    simp -implicitDefEqProofs +decide only [go_sem, ofH, tR, sR]
    refine endF.tst (lab := .loc 68 0) (v := v) (len := (madeR l).length) (size := 1) (frz := 0) (.inr rfl) (by simp -implicitDefEqProofs +decide only [go_sem]) rfl (by simp -implicitDefEqProofs +decide only [go_sem]) (by simp -implicitDefEqProofs +decide only [go_sem]) (by simp) rfl (by simp -implicitDefEqProofs +decide only [go_sem]) rfl (fun l hp => by cases l <;> first | rfl | cases hp) rfl
end Go.Fm
/- The tape: TapeActs. -/
namespace Go.Fm
open Go.Proofs
set_option maxRecDepth 100000

theorem noPtr_rows (l : List (List Int)) : noPtr (.slice (l.map sI)) = true := by
  simp only [noPtr]
  rw [noPtrL_iff]
  intro t ht
  obtain ⟨x, _, rfl⟩ := List.mem_map.1 ht
  exact noPtr_ints _ _

theorem descL_length (p : Nat → Bool) : ∀ k, (descL p k).length ≤ k
  | 0 => Nat.le_refl _
  | k + 1 => by unfold descL; have := descL_length p k; split <;> simp <;> omega

theorem reachR_length (rows : List (List Int)) (root : Int) : (reachR rows root).length ≤ rows.length := by
  unfold reachR; split
  · simp
  · exact descL_length _ _

theorem tapeActs_ok (l : List (List Int)) (root on : Int) (hl : l.length < 10000000000000) : Pure Try.prog 4 [sR l, .int .i64 root, .int .i64 on] [.t (.bool true)] := by
  have hmany := many_ok l hl
  cases hm : manyOf l with
  | true =>
    rw [hm] at hmany
    refine Pure.intro Try.func4 rfl (rt := [6]) rfl (by simp [Try.ntmps4]) (by decide) (sites := fun _ => false) ?_
    apply run_sound 200
    simp -implicitDefEqProofs +decide only [go_sem, sR]
    refine CallG.pure _ Try.call6 hmany (by rw [List.all_cons, noPtr_rows]; rfl) rfl ?_
    apply run_sound 200
    simp -implicitDefEqProofs +decide only [go_sem]
    refine CallG.pure _ Try.call7 same_ok rfl rfl ?_
    apply run_sound 200
    simp -implicitDefEqProofs +decide only [go_sem]
    exact endF.one (.inr rfl) (by simp -implicitDefEqProofs +decide only [go_sem]) rfl (fun _ _ => rfl) rfl
  | false =>
    rw [hm] at hmany
    have hs := not_many hm
    obtain ⟨h, hb, ht, hmade⟩ := made_ok l hs
    obtain ⟨hw, hr20, hlen⟩ := made_spec hs l.length
    rw [List.take_length] at hw hr20 hlen
    have hll := hs.1
    generalize madeR l = rows at *
    have hr6 : ∀ r ∈ rows, r.length < 1000000 := fun r hr => by have := hr20 r hr; omega
    have hrl := reachR_length rows root
    refine Pure.drop (h' := h) (m' := 1) ?_ rfl
    refine Ret.intro Try.func4 rfl (rt := [6]) rfl (by simp [Try.ntmps4]) (by decide) (sites := fun _ => false) hb (fun id cs hc => by cases hc) ?_
    apply run_sound 200
    simp -implicitDefEqProofs +decide only [go_sem, sR]
    refine CallG.pure _ Try.call6 hmany (by rw [List.all_cons, noPtr_rows]; rfl) rfl ?_
    apply run_sound 200
    simp -implicitDefEqProofs +decide only [go_sem, sR]
    refine CallG.pool _ Try.call8 hmade (fun _ _ => rfl) (fun l hp => rfl) ?_
    apply run_sound 200
    simp -implicitDefEqProofs +decide only [go_sem, sR]
    refine CallG.pool [.t (.int .i64 rows.length)] Try.call12 (len_ok h 1 0 rows hb ht) hb (fun l hp => by cases l <;> first | rfl | cases hp) ?_
    apply run_sound 200
    simp -implicitDefEqProofs +decide only [go_sem, sR, ne_eq, not_true_eq_false]
    refine Goes.loop (X := Nat) (fun i => ⟨ofL [(1, .t (.int .i64 root)), (2, .t (.int .i64 on)), (7, .t (.ptr 0)), (8, tR rows), (31, .t (.int .i64 rows.length)), (32, .t (.int .i64 i))], h, 1⟩) (fun i => i ≤ rows.length) (fun i => rows.length - i) 0 ?_ ?_ ?_
    · refine Wk.mixed _ hb rfl (fun l hp => by cases l <;> first | rfl | cases hp) ?_ ?_
      · simp -implicitDefEqProofs +decide only [go_sem, tR, sR]
      · simp -implicitDefEqProofs +decide only [go_sem, tR, sR]
    · exact Nat.zero_le _
    rintro i hi J hJ
    apply run_sound 200
    simp -implicitDefEqProofs +decide only [go_sem, tR, sR]
    refine selP_dec (fun hlt => ?_) (fun hlt => ?_)
    · obtain ⟨r, hr⟩ := getI hlt
      have hr2 : (rows.map sI)[i]? = some (sI r) := by simp [hr]
      have hrl := hr6 r (List.mem_of_getElem? hr)
      have hins := ins_ok h 1 0 rows i hb ht (by omega) hr6
      have hio : insOf rows i = r := by unfold insOf; rw [if_neg (by omega)]; simp [hr]
      rw [hio] at hins
      have hint := ints_ok r r hrl hrl
      rw [decide_eq_true rfl] at hint
      have hl : ∀ d j, h (.loc d j) = none := fun d j => hb _ rfl
      simp -implicitDefEqProofs +decide only [go_sem, tR, sR]
      refine Goes.drawP mixed ?_ ?_
      · refine Calm.pool ?_ hb
        repeat first | exact Clean.und | refine Clean.upd ?_ rfl
      simp -implicitDefEqProofs +decide only [go_sem, tR, sR, hr2]
      refine CallD.look [.t (sI r)] Try.call14 hins rfl hb (fun _ _ => rfl) ?_
      simp -implicitDefEqProofs +decide only [go_sem, tR, sR, hr2, sI_cells, List.getElem?_cons_zero]
      refine CallD.pure [.t (.bool true)] Try.call13 hint (by rw [List.all_cons, List.all_cons, sI, noPtr_ints]; rfl) rfl ?_
      simp -implicitDefEqProofs +decide only [go_sem]
      refine ⟨.mk (by kernel_rfl), ?_⟩
      apply run_sound 200
      simp -implicitDefEqProofs +decide only [go_sem]
      refine hJ (i + 1) _ hlt (by omega) (Wk.mixed _ hb rfl (fun l hp => by cases l <;> first | rfl | cases hp) ?_ ?_)
      · simp -implicitDefEqProofs +decide only [go_sem, tR, sR, wS (show i < 1000000000000 by omega)]
      · simp -implicitDefEqProofs +decide only [go_sem, tR, sR]
    · simp -implicitDefEqProofs +decide only [go_sem, tR, sR]
      have href := refReach_ok rows root (by omega) hr6 hw
      refine CallG.pureS _ Try.call15 href (by rw [List.all_cons, noPtr_rows]; rfl) rfl ?_
      have hrea := reach_ok h 1 0 rows root hb ht (by omega) hr6 hw
      have hhan := hangs_ok h 1 0 rows root on hb ht (by omega) hr6 hw (by rw [reach_eq hw]; omega)
      rw [reach_eq hw] at hrea hhan
      have hint := ints_ok (reachR rows root) (reachR rows root) (by omega) (by omega)
      rw [decide_eq_true rfl] at hint
      have hhas := has_ok (reachR rows root) on (by omega)
      have hi1 := ins_ok h 1 0 rows (-1) hb ht (by omega) hr6
      have hi2 := ins_ok h 1 0 rows rows.length hb ht (by omega) hr6
      rw [show insOf rows (-1) = [] by rfl] at hi1
      rw [show insOf rows rows.length = [] by unfold insOf; rw [if_neg (by omega)]; simp] at hi2
      generalize reachR rows root = rr at *
      apply run_sound 200
      simp -implicitDefEqProofs +decide only [go_sem, tR, sR]
      refine CallG.pool [.t (sI rr)] Try.call9 hrea hb (fun l hp => by cases l <;> first | rfl | cases hp) ?_
      apply run_sound 200
      simp -implicitDefEqProofs +decide only [go_sem, tR, sR]
      refine CallG.pure [.t (.bool true)] Try.call13 hint (by rw [List.all_cons, List.all_cons, sI, noPtr_ints]; rfl) rfl ?_
      apply run_sound 200
      simp -implicitDefEqProofs +decide only [go_sem, tR, sR]
      refine CallG.pool [.t (.bool (decide (on ∈ rr)))] Try.call11 hhan hb (fun l hp => by cases l <;> first | rfl | cases hp) ?_
      apply run_sound 200
      simp -implicitDefEqProofs +decide only [go_sem, tR, sR]
      refine CallG.pure [.t (.bool (decide (on ∈ rr)))] Try.call10 hhas (by rw [List.all_cons, sI, noPtr_ints]; rfl) rfl ?_
      apply run_sound 200
      simp -implicitDefEqProofs +decide only [go_sem, tR, sR]
      refine CallG.pool [.t (sI [])] Try.call14 hi1 hb (fun l hp => by cases l <;> first | rfl | cases hp) ?_
      apply run_sound 200
      simp -implicitDefEqProofs +decide only [go_sem, tR, sR, sI, List.map_nil]
      refine CallG.pool [.t (sI [])] Try.call14 hi2 hb (fun l hp => by cases l <;> first | rfl | cases hp) ?_
      apply run_sound 200
      simp -implicitDefEqProofs +decide only [go_sem, tR, sR, sI, List.map_nil]
      refine CallG.pure _ Try.call7 same_ok rfl rfl ?_
      apply run_sound 200
      simp -implicitDefEqProofs +decide only [go_sem, tR, sR]
      exact endF.oneH (.inr rfl) (by simp -implicitDefEqProofs +decide only [go_sem]) rfl (fun l hp => by cases l <;> first | rfl | cases hp) rfl
end Go.Fm
/- The tape: TapeOrder. -/
namespace Go.Fm
open Go.Proofs
set_option maxRecDepth 100000

theorem mem_descL {p : Nat → Bool} {y : Int} : ∀ k, y ∈ descL p k ↔ ∃ n : Nat, n < k ∧ p n = true ∧ y = n
  | 0 => by simp [descL]
  | k + 1 => by
    unfold descL
    have ih := mem_descL (p := p) (y := y) k
    by_cases h : p k = true
    · rw [if_pos h, List.mem_cons, ih]
      constructor
      · rintro (rfl | ⟨n, h1, h2, h3⟩)
        · exact ⟨k, by omega, h, rfl⟩
        · exact ⟨n, by omega, h2, h3⟩
      · rintro ⟨n, h1, h2, h3⟩
        by_cases e : n = k
        · subst e; exact .inl h3
        · exact .inr ⟨n, by omega, h2, h3⟩
    · rw [if_neg h, ih]
      constructor
      · rintro ⟨n, h1, h2, h3⟩; exact ⟨n, by omega, h2, h3⟩
      · rintro ⟨n, h1, h2, h3⟩
        by_cases e : n = k
        · subst e; exact absurd h2 h
        · exact ⟨n, by omega, h2, h3⟩

theorem descL_pairwise (p : Nat → Bool) : ∀ k, (descL p k).Pairwise (· > ·)
  | 0 => List.Pairwise.nil
  | k + 1 => by
    unfold descL
    split
    · refine List.Pairwise.cons (fun y hy => ?_) (descL_pairwise p k)
      obtain ⟨n, h1, _, rfl⟩ := (mem_descL k).1 hy
      show (n : Int) < k
      omega
    · exact descL_pairwise p k

theorem mem_reachR {rows : List (List Int)} (hw : WellT rows) (root y : Int) : y ∈ reachR rows root ↔ 0 ≤ root ∧ root < rows.length ∧ ∃ n : Nat, Rch rows root.toNat n ∧ y = n := by
  unfold reachR
  split
  · constructor
    · intro h; cases h
    · rintro ⟨h1, h2, _⟩; omega
  · rename_i h
    have hr : root.toNat < rows.length := by omega
    rw [mem_descL]
    constructor
    · rintro ⟨n, h1, h2, h3⟩
      exact ⟨by omega, by omega, n, (refMarks_iff hw hr n).1 h2, h3⟩
    · rintro ⟨_, _, n, h1, h2⟩
      have := Rch.le hw h1
      exact ⟨n, by omega, (refMarks_iff hw hr n).2 h1, h2⟩

theorem reachR_pairwise (rows : List (List Int)) (root : Int) : (reachR rows root).Pairwise (· > ·) := by
  unfold reachR; split
  · exact List.Pairwise.nil
  · exact descL_pairwise _ _

theorem pair_lt {l : List Int} (h : l.Pairwise (· > ·)) {i j : Nat} {x y : Int} (hi : l[i]? = some x) (hj : l[j]? = some y) (hij : i < j) : y < x := by
  obtain ⟨h1, rfl⟩ := List.getElem?_eq_some_iff.1 hi
  obtain ⟨h2, rfl⟩ := List.getElem?_eq_some_iff.1 hj
  exact List.pairwise_iff_getElem.1 h i j h1 h2 hij

theorem Rch.trans {rows : List (List Int)} {a b c : Nat} (h : Rch rows a b) (k : Rch rows b c) : Rch rows a c := by
  induction k with
  | root => exact h
  | step _ hr hc ih => exact .step ih hr hc

structure RFacts (rows : List (List Int)) (root : Int) (rr : List Int) : Prop where
  bound : ∀ (i : Nat) (x : Int), rr[i]? = some x → 0 ≤ x ∧ x < rows.length
  desc : ∀ (i : Nat) (x y : Int), rr[i]? = some x → rr[i + 1]? = some y → y < x
  first : ∀ x, rr[0]? = some x → x = root
  below : ∀ (i : Nat) (x : Int) (r : List Int), rr[i]? = some x → rows[x.toNat]? = some r → ∀ y ∈ r, 0 ≤ y → y ∈ rr.drop (i + 1)
  through : ∀ mid, mid ∈ rr → ∀ y ∈ reachR rows mid, y ∈ rr

theorem facts_ok {rows : List (List Int)} (hw : WellT rows) (root : Int) : RFacts rows root (reachR rows root) where
  bound i x h := by
    obtain ⟨h1, h2, n, h3, rfl⟩ := (mem_reachR hw root x).1 (List.mem_of_getElem? h)
    have := Rch.le hw h3
    omega
  desc i x y hx hy := pair_lt (reachR_pairwise rows root) hx hy (by omega)
  first x hx := by
    obtain ⟨h1, h2, n, h3, rfl⟩ := (mem_reachR hw root x).1 (List.mem_of_getElem? hx)
    have hr : root ∈ reachR rows root := (mem_reachR hw root root).2 ⟨h1, h2, root.toNat, .root, by omega⟩
    obtain ⟨j, hj⟩ := List.mem_iff_getElem?.1 hr
    by_cases e : j = 0
    · subst e; rw [hx] at hj; exact Option.some.inj hj
    · have := pair_lt (reachR_pairwise rows root) hx hj (by omega)
      have := Rch.le hw h3
      omega
  below i x r hx hr y hy h0 := by
    obtain ⟨h1, h2, n, h3, rfl⟩ := (mem_reachR hw root x).1 (List.mem_of_getElem? hx)
    have hyn : y < (n : Int) := hw _ r (by simpa using hr) y hy
    have hy2 : y ∈ reachR rows root := (mem_reachR hw root y).2 ⟨h1, h2, y.toNat, .step h3 (by simpa using hr) (by rwa [show ((y.toNat : Nat) : Int) = y by omega]), by omega⟩
    obtain ⟨j, hj⟩ := List.mem_iff_getElem?.1 hy2
    have hij : i < j := by
      rcases Nat.lt_trichotomy i j with h | h | h
      · exact h
      · subst h; rw [hx] at hj; have := Option.some.inj hj; omega
      · have := pair_lt (reachR_pairwise rows root) hj hx h; omega
    refine List.mem_of_getElem? (i := j - (i + 1)) ?_
    rw [List.getElem?_drop, show i + 1 + (j - (i + 1)) = j by omega]
    exact hj
  through mid hm y hy := by
    obtain ⟨h1, h2, n, h3, rfl⟩ := (mem_reachR hw root mid).1 hm
    obtain ⟨_, _, k, h4, rfl⟩ := (mem_reachR hw n y).1 hy
    exact (mem_reachR hw root k).2 ⟨h1, h2, k, h3.trans (by simpa using h4), rfl⟩

theorem tapeOrder_ok (l : List (List Int)) (root mid : Int) (hl : l.length < 10000000000000) : Pure Try.prog 3 [sR l, .int .i64 root, .int .i64 mid] [.t (.bool true)] := by
  have hmany := many_ok l hl
  cases hm : manyOf l with
  | true =>
    rw [hm] at hmany
    refine Pure.intro Try.func3 rfl (rt := [6]) rfl (by simp [Try.ntmps3]) (by decide) (sites := fun _ => false) ?_
    apply run_sound 200
    simp -implicitDefEqProofs +decide only [go_sem, sR]
    refine CallG.pure _ Try.call6 hmany (by rw [List.all_cons, noPtr_rows]; rfl) rfl ?_
    apply run_sound 200
    simp -implicitDefEqProofs +decide only [go_sem]
    refine CallG.pure _ Try.call7 same_ok rfl rfl ?_
    apply run_sound 200
    simp -implicitDefEqProofs +decide only [go_sem]
    exact endF.one (.inr rfl) (by simp -implicitDefEqProofs +decide only [go_sem]) rfl (fun _ _ => rfl) rfl
  | false =>
    rw [hm] at hmany
    have hs := not_many hm
    obtain ⟨h, hb, ht, hmade⟩ := made_ok l hs
    obtain ⟨hw, hr20, hlen⟩ := made_spec hs l.length
    rw [List.take_length] at hw hr20 hlen
    have hll := hs.1
    generalize madeR l = rows at *
    have hr6 : ∀ r ∈ rows, r.length < 1000000 := fun r hr => by have := hr20 r hr; omega
    have hrl := reachR_length rows root
    have hrl2 := reachR_length rows mid
    have hrea := reach_ok h 1 0 rows root hb ht (by omega) hr6 hw
    have hrea2 := reach_ok h 1 0 rows mid hb ht (by omega) hr6 hw
    have hhan := hangs_ok h 1 0 rows root mid hb ht (by omega) hr6 hw (by rw [reach_eq hw]; omega)
    rw [reach_eq hw] at hrea hhan hrea2
    have hf := facts_ok hw root
    generalize reachR rows root = rr at *
    refine Pure.drop (h' := h) (m' := 1) ?_ rfl
    refine Ret.intro Try.func3 rfl (rt := [6]) rfl (by simp [Try.ntmps3]) (by decide) (sites := fun _ => false) hb (fun id cs hc => by cases hc) ?_
    apply run_sound 200
    simp -implicitDefEqProofs +decide only [go_sem, sR]
    refine CallG.pure _ Try.call6 hmany (by rw [List.all_cons, noPtr_rows]; rfl) rfl ?_
    apply run_sound 200
    simp -implicitDefEqProofs +decide only [go_sem, sR]
    refine CallG.pool _ Try.call8 hmade (fun _ _ => rfl) (fun l hp => rfl) ?_
    apply run_sound 200
    simp -implicitDefEqProofs +decide only [go_sem, sR]
    refine CallG.pool [.t (sI rr)] Try.call9 hrea hb (fun l hp => by cases l <;> first | rfl | cases hp) ?_
    apply run_sound 200
    simp -implicitDefEqProofs +decide only [go_sem, sR, sI]
    refine Goes.loop (X := Nat) (fun i => ⟨ofL [(1, .t (.int .i64 root)), (2, .t (.int .i64 mid)), (7, .t (.ptr 0)), (8, tR rows), (10, tI rr), (31, .t (.int .i64 rr.length)), (32, .t (.int .i64 i))], h, 1⟩) (fun i => i ≤ rr.length) (fun i => rr.length - i) 0 ?_ ?_ ?_
    · refine Wk.mixed _ hb rfl (fun l hp => by cases l <;> first | rfl | cases hp) ?_ ?_
      · simp -implicitDefEqProofs +decide only [go_sem, tR, sR, tI, sI]
      · simp -implicitDefEqProofs +decide only [go_sem, tR, sR, tI, sI]
    · exact Nat.zero_le _
    rintro i hi J hJ
    apply run_sound 200
    simp -implicitDefEqProofs +decide only [go_sem, tR, sR, tI, sI]
    refine selP_dec (fun hlt => ?_) (fun hlt => ?_)
    · obtain ⟨x, hx⟩ := getI hlt
      obtain ⟨hx0, hxl⟩ := hf.bound i x hx
      obtain ⟨n, rfl⟩ : ∃ n : Nat, x = n := ⟨x.toNat, by omega⟩
      obtain ⟨r, hr⟩ := getI (show n < rows.length by omega)
      have hr2 : (rows.map sI)[n]? = some (sI r) := by simp [hr]
      have hx2 : (rr.map (T.int .i64))[i]? = some (.int .i64 n) := by simp [hx]
      have hbl := hf.below i n r hx (by simpa using hr)
      have hrl3 := hr6 r (List.mem_of_getElem? hr)
      simp -implicitDefEqProofs +decide only [go_sem, tR, sR, tI, sI]
      refine Goes.drawN mixed ?_
      have hn0 : ((n : Int) < 0) = False := by simp
      have hnl : ((rows.length : Int) ≤ n) = False := by simp; omega
      refine runD_split ⟨ofL [(1, .t (.int .i64 root)), (2, .t (.int .i64 mid)), (7, .t (.ptr 0)), (8, tR rows), (10, tI rr), (11, .t (.int .i64 i)), (31, .t (.int .i64 rr.length)), (32, .t (.int .i64 i)), (76, .t (.bool false))], h, 1⟩ ?_ (fun key => ?_)
      · apply run_sound 200
        simp -implicitDefEqProofs +decide only [go_sem, tR, sR, tI, sI, hx, hr]
        refine Goes.loop (X := Nat) (fun j => ⟨ofL [(1, .t (.int .i64 root)), (2, .t (.int .i64 mid)), (7, .t (.ptr 0)), (8, tR rows), (10, tI rr), (11, .t (.int .i64 i)), (31, .t (.int .i64 rr.length)), (32, .t (.int .i64 i)), (84, .t (.int .i64 r.length)), (85, .t (.int .i64 j))], h, 1⟩) (fun j => j ≤ r.length) (fun j => r.length - j) 0 ?_ ?_ ?_
        · refine Wk.mixed _ hb rfl (fun l hp => by cases l <;> first | rfl | cases hp) ?_ ?_
          · simp -implicitDefEqProofs +decide only [go_sem, tR, sR, tI, sI]
          · simp -implicitDefEqProofs +decide only [go_sem, tR, sR, tI, sI]
        · exact Nat.zero_le _
        rintro j hj J' hJ'
        apply run_sound 200
        simp -implicitDefEqProofs +decide only [go_sem, tR, sR, tI, sI]
        refine selP_dec (fun hlt2 => ?_) (fun hlt2 => ?_)
        · obtain ⟨y, hy⟩ := getI hlt2
          simp -implicitDefEqProofs +decide only [go_sem, tR, sR, tI, sI, hx, hr, hy]
          refine selP_dec (fun hy0 => ?_) (fun hy0 => ?_)
          · have hin := hbl y (List.mem_of_getElem? hy) hy0
            have hhas := has_ok (rr.drop (i + 1)) y (by simp; omega)
            rw [decide_eq_true hin] at hhas
            have hc1 : ((0 : Int) ≤ ((i + 1 : Nat) : Int)) = True := by simp; omega
            have hc2 : (((i + 1 : Nat) : Int) ≤ rr.length) = True := by simp; omega
            have hc3 : ∀ k, (rr.map (T.int .i64)).drop k = (rr.drop k).map (T.int .i64) := fun k => List.map_drop.symm
            simp -implicitDefEqProofs +decide only [go_sem, tR, sR, tI, sI, hx, hr, hy, wS (show i < 1000000000000 by omega), Option.getD_some, Option.getD_none, hc1, hc2, hc3, Int.toNat_natCast]
            refine CallG.pure _ Try.call10 hhas (by rw [List.all_cons, noPtr_ints]; rfl) rfl ?_
            apply run_sound 200
            simp -implicitDefEqProofs +decide only [go_sem, tR, sR, tI, sI]
            refine hJ' (j + 1) _ hlt2 (by omega) (Wk.mixed _ hb rfl (fun l hp => by cases l <;> first | rfl | cases hp) ?_ ?_)
            · simp -implicitDefEqProofs +decide only [go_sem, tR, sR, tI, sI, wS (show j < 1000000000000 by omega)]
            · simp -implicitDefEqProofs +decide only [go_sem, tR, sR, tI, sI]
          · simp -implicitDefEqProofs +decide only [go_sem]
            refine hJ' (j + 1) _ hlt2 (by omega) (Wk.mixed _ hb rfl (fun l hp => by cases l <;> first | rfl | cases hp) ?_ ?_)
            · simp -implicitDefEqProofs +decide only [go_sem, tR, sR, tI, sI, wS (show j < 1000000000000 by omega)]
            · simp -implicitDefEqProofs +decide only [go_sem, tR, sR, tI, sI]
        · simp -implicitDefEqProofs +decide only [go_sem]
          refine hJ (i + 1) _ hlt (by omega) (Wk.mixed _ hb rfl (fun l hp => by cases l <;> first | rfl | cases hp) ?_ ?_)
          · simp -implicitDefEqProofs +decide only [go_sem, tR, sR, tI, sI, wS (show i < 1000000000000 by omega)]
          · simp -implicitDefEqProofs +decide only [go_sem, tR, sR, tI, sI]
      by_cases hi0 : i = 0
      · subst hi0
        have hroot := hf.first n hx
        have hroot2 : ((n : Int) = root) = True := by simp [hroot]
        simp -implicitDefEqProofs +decide only [go_sem, tR, sR, tI, sI, hx, hn0, hnl, ne_eq, not_true_eq_false, Int.toNat_zero, hroot2]
        refine ⟨.mk (by kernel_rfl), key _ (Wk.mixed _ hb rfl (fun l hp => by cases l <;> first | rfl | cases hp) ?_ ?_)⟩
        · simp -implicitDefEqProofs +decide only [go_sem, tR, sR, tI, sI]
        · simp -implicitDefEqProofs +decide only [go_sem, tR, sR, tI, sI]
      · obtain ⟨i', rfl⟩ : ∃ i', i = i' + 1 := ⟨i - 1, by omega⟩
        obtain ⟨y, hy⟩ := getI (show i' < rr.length by omega)
        have hd := hf.desc i' y n hy hx
        have hd2 : (y ≤ (n : Int)) = False := by simp; omega
        have hp1 : ((0 : Int) < ((i' + 1 : Nat) : Int)) = True := by simp
        have hp2 : IntKind.wrap .i64 (((i' + 1 : Nat) : Int) - 1) = i' := by rw [w64] <;> omega
        have hp3 : (((i' + 1 : Nat) : Int) = 0) = False := by simp; omega
        simp -implicitDefEqProofs +decide only [go_sem, tR, sR, tI, sI, hx, hy, hd2, hn0, hnl, hp1, hp2, hp3, ne_eq, not_true_eq_false]
        refine ⟨.mk (by kernel_rfl), key _ (Wk.mixed _ hb rfl (fun l hp => by cases l <;> first | rfl | cases hp) ?_ ?_)⟩
        · simp -implicitDefEqProofs +decide only [go_sem, tR, sR, tI, sI]
        · simp -implicitDefEqProofs +decide only [go_sem, tR, sR, tI, sI]
    · simp -implicitDefEqProofs +decide only [go_sem, tR, sR, tI, sI]
      refine CallG.pool _ Try.call11 hhan hb (fun l hp => by cases l <;> first | rfl | cases hp) ?_
      apply run_sound 200
      simp -implicitDefEqProofs +decide only [go_sem, tR, sR, tI, sI]
      refine selP_bool (fun hmid => ?_) (fun hmid => ?_)
      · have hmid : mid ∉ rr := by simpa using hmid
        have hhas := has_ok rr mid (by omega)
        rw [decide_eq_false hmid] at hhas
        simp -implicitDefEqProofs +decide only [go_sem, tR, sR, tI, sI]
        refine CallG.pure _ Try.call10 hhas (by rw [List.all_cons, noPtr_ints]; rfl) rfl ?_
        apply run_sound 200
        simp -implicitDefEqProofs +decide only [go_sem, tR, sR, tI, sI]
        refine CallG.pure _ Try.call7 same_ok rfl rfl ?_
        apply run_sound 200
        simp -implicitDefEqProofs +decide only [go_sem, tR, sR]
        exact endF.oneH (.inr rfl) (by simp -implicitDefEqProofs +decide only [go_sem]) rfl (fun l hp => by cases l <;> first | rfl | cases hp) rfl
      · have hmid : mid ∈ rr := by simpa using hmid
        have hth := hf.through mid hmid
        simp -implicitDefEqProofs +decide only [go_sem, tR, sR, tI, sI]
        refine CallG.pool _ Try.call9 hrea2 hb (fun l hp => by cases l <;> first | rfl | cases hp) ?_
        generalize reachR rows mid = mm at *
        apply run_sound 200
        simp -implicitDefEqProofs +decide only [go_sem, tR, sR, tI, sI]
        refine Goes.loop (X := Nat) (fun i => ⟨ofL [(10, tI rr), (14, tI mm), (127, .t (.int .i64 mm.length)), (128, .t (.int .i64 i))], h, 1⟩) (fun i => i ≤ mm.length) (fun i => mm.length - i) 0 ?_ ?_ ?_
        · refine Wk.mixed _ hb rfl (fun l hp => by cases l <;> first | rfl | cases hp) ?_ ?_
          · simp -implicitDefEqProofs +decide only [go_sem, tR, sR, tI, sI]
          · simp -implicitDefEqProofs +decide only [go_sem, tR, sR, tI, sI]
        · exact Nat.zero_le _
        rintro i hi J hJ
        apply run_sound 200
        simp -implicitDefEqProofs +decide only [go_sem, tR, sR, tI, sI]
        refine selP_dec (fun hlt => ?_) (fun hlt => ?_)
        · obtain ⟨y, hy⟩ := getI hlt
          have hhas := has_ok rr y (by omega)
          rw [decide_eq_true (hth y (List.mem_of_getElem? hy))] at hhas
          simp -implicitDefEqProofs +decide only [go_sem, tR, sR, tI, sI, hy]
          refine CallG.pure _ Try.call10 hhas (by rw [List.all_cons, noPtr_ints]; rfl) rfl ?_
          apply run_sound 200
          simp -implicitDefEqProofs +decide only [go_sem, tR, sR, tI, sI]
          refine hJ (i + 1) _ hlt (by omega) (Wk.mixed _ hb rfl (fun l hp => by cases l <;> first | rfl | cases hp) ?_ ?_)
          · simp -implicitDefEqProofs +decide only [go_sem, tR, sR, tI, sI, wS (show i < 1000000000000 by omega)]
          · simp -implicitDefEqProofs +decide only [go_sem, tR, sR, tI, sI]
        · simp -implicitDefEqProofs +decide only [go_sem]
          refine CallG.pure _ Try.call7 same_ok rfl rfl ?_
          apply run_sound 200
          simp -implicitDefEqProofs +decide only [go_sem, tR, sR]
          exact endF.oneH (.inr rfl) (by simp -implicitDefEqProofs +decide only [go_sem]) rfl (fun l hp => by cases l <;> first | rfl | cases hp) rfl
end Go.Fm
