/- The tape: what its functions do. -/
import Derived.Test.YtjfckpofcpaiiaaFmB
import Derived.Test.YtjfckpofcpaiiaaChecked
set_option linter.unusedVariables false
set_option linter.unusedSimpArgs false
namespace Go.Fm
open Go.Proofs
set_option maxRecDepth 100000

theorem mixed : Try.prog.follows .mixedOrders = true := by rfl
@[go_sem] theorem ti3 : tiOf Try.prog 3 = { d := .int .i64, size := 1, bytes := 8, zero := [.int .i64 0] } := by rfl
@[go_sem] theorem ti4 : tiOf Try.prog 4 = { d := .bool, size := 1, bytes := 1, zero := [.bool false] } := by rfl
@[go_sem] theorem ti22 : tiOf Try.prog 22 = { d := .slice 28, size := 1, bytes := 24, zero := [.slice none 0 0] } := by rfl
@[go_sem] theorem ti25 : tiOf Try.prog 25 = { d := .pointer 41, size := 1, bytes := 8, zero := [.pointer none] } := by rfl
@[go_sem] theorem ti28 : tiOf Try.prog 28 = { d := .slice 3, size := 1, bytes := 24, zero := [.slice none 0 0] } := by rfl
@[go_sem] theorem ti36 : tiOf Try.prog 36 = { d := .int .i64, size := 1, bytes := 8, zero := [.int .i64 0] } := by rfl
@[go_sem] theorem ti41 : tiOf Try.prog 41 = { d := .struct #[{ name := "ins", type := 22, offset := 0, embedded := false, tag := "", pkgPath := "gradine/tape", byteOffset := 0 }], size := 1, bytes := 24, zero := [.slice none 0 0] } := by rfl
@[go_sem] theorem ti42 : tiOf Try.prog 42 = { d := .slice 4, size := 1, bytes := 24, zero := [.slice none 0 0] } := by rfl

/-- A slice of whole numbers, as data. -/
def sI (l : List Int) : T := .slice (l.map (.int .i64))
theorem sI_cells (l : List Int) : (sI l).cells = [sI l] := rfl
def tI (l : List Int) : AV := .t (sI l)

/-- A tape's memory. -/
def TapeAt (h : Heap) (id : Nat) (rows : List (List Int)) : Prop :=
  (rows = [] ∧ h (.obj id) = some (.box [.nil]) ∧ h (.fld id 0) = none) ∨ ∃ ver frz, h (.obj id) = some (.box [.sl (.fld id 0) ver 0 rows.length]) ∧ h (.fld id 0) = some (.arr 1 (rows.map sI) ver frz)

/-- May a node hang on these? -/
def okIns (n : Nat) (ins : List Int) : Bool := ins.all fun x => decide (-1 ≤ x) && decide (x < n)

theorem new_ok (h : Heap) (n : Nat) (hb : ∀ l, Lab.pool l = false → h l = none) (h0 : h (.obj n) = none) : Ret Try.prog 17 [] h n [.t (.ptr n)] (upd h (.obj n) (some (.box [.nil]))) (n + 1) := by
  refine Ret.intro Try.func17 rfl (rt := [0]) rfl (by simp [Try.ntmps17]) (by decide) (sites := fun d => d == 2) (fun l hl => ?_) (fun id cs hc => ?_) ?_
  · rw [upd_ne _ _ _ _ (fun e => by subst e; cases hl)]; exact hb l hl
  · by_cases e : Lab.obj id = Lab.obj n
    · rw [e, upd_same]; exact ⟨_, rfl⟩
    · rw [upd_ne _ _ _ _ e]; exact ⟨_, hc⟩
  apply run_sound 200
  simp -implicitDefEqProofs +decide only [go_sem, h0]
  exact endF.ptr (.inr rfl) (by simp -implicitDefEqProofs +decide only [go_sem]) (fun _ _ => rfl) rfl

theorem len_nil : Pure Try.prog 12 [.nilp] [.t (.int .i64 0)] := by
  refine Pure.intro Try.func12 rfl (rt := [2]) rfl (by simp [Try.ntmps12]) (by decide) (sites := fun _ => false) ?_
  apply run_sound 200
  simp -implicitDefEqProofs +decide only [go_sem]
  exact endF.one (.inr rfl) (by simp -implicitDefEqProofs +decide only [go_sem]) rfl (fun _ _ => rfl) rfl

theorem len_ok (h : Heap) (n id : Nat) (rows : List (List Int)) (hb : ∀ l, Lab.pool l = false → h l = none) (ht : TapeAt h id rows) : Ret Try.prog 12 [.ptr id] h n [.t (.int .i64 rows.length)] h n := by
  refine Ret.intro Try.func12 rfl (rt := [2]) rfl (by simp [Try.ntmps12]) (by decide) (sites := fun _ => false) hb (fun id cs hc => ⟨_, hc⟩) ?_
  apply run_sound 200
  rcases ht with ⟨rfl, h1, h2⟩ | ⟨ver, frz, h1, h2⟩
  · simp -implicitDefEqProofs +decide only [go_sem, h1, h2]
    exact endF.oneH (.inr rfl) (by simp -implicitDefEqProofs +decide only [go_sem]) rfl (fun _ _ => rfl) rfl
  · simp -implicitDefEqProofs +decide only [go_sem, h1, h2]
    exact endF.oneH (.inr rfl) (by simp -implicitDefEqProofs +decide only [go_sem]) rfl (fun _ _ => rfl) rfl

theorem ins_nil (n : Int) : Pure Try.prog 14 [.nilp, .int .i64 n] [.t (.slice [])] := by
  refine Pure.intro Try.func14 rfl (rt := [4]) rfl (by simp [Try.ntmps14]) (by decide) (sites := fun _ => false) ?_
  apply run_sound 200
  simp -implicitDefEqProofs +decide only [go_sem]
  exact endF.nil (.inr rfl) (by simp -implicitDefEqProofs +decide only [go_sem]) (fun _ _ => rfl) rfl

/-- What 'Ins' answers. -/
def insOf (rows : List (List Int)) (n : Int) : List Int := if n < 0 then [] else (rows[n.toNat]?).getD []

theorem ins_ok (h : Heap) (m id : Nat) (rows : List (List Int)) (n : Int) (hb : ∀ l, Lab.pool l = false → h l = none) (ht : TapeAt h id rows) (hr : rows.length < 1000000) (hs : ∀ r ∈ rows, r.length < 1000000) :
    Ret Try.prog 14 [.ptr id, .int .i64 n] h m [.t (sI (insOf rows n))] h m := by
  refine Ret.intro Try.func14 rfl (rt := [4]) rfl (by simp [Try.ntmps14]) (by decide) (sites := fun _ => false) hb (fun id cs hc => ⟨_, hc⟩) ?_
  apply run_sound 200
  simp -implicitDefEqProofs +decide only [go_sem]
  refine selP_dec (fun hn => ?_) (fun hn => ?_)
  · simp -implicitDefEqProofs +decide only [go_sem]
    have : insOf rows n = [] := by simp [insOf, hn]
    rw [this]
    exact endF.nil (.inr rfl) (by simp -implicitDefEqProofs +decide only [go_sem]) (fun _ _ => rfl) rfl
  · obtain ⟨k, rfl⟩ : ∃ k : Nat, n = k := ⟨n.toNat, by omega⟩
    have hl : ∀ d j, h (.loc d j) = none := fun d j => hb _ rfl
    rcases ht with ⟨rfl, h1, h2⟩ | ⟨ver, frz, h1, h2⟩
    · simp -implicitDefEqProofs +decide only [go_sem, h1, h2]
      have : insOf [] (k : Int) = [] := by simp [insOf]
      rw [this]
      exact endF.nil (.inr rfl) (by simp -implicitDefEqProofs +decide only [go_sem]) (fun _ _ => rfl) rfl
    · simp -implicitDefEqProofs +decide only [go_sem, h1, h2]
      refine selP_dec (fun hk => ?_) (fun hk => ?_)
      ·
        simp -implicitDefEqProofs +decide only [go_sem, h1, h2]
        have : insOf rows (k : Int) = [] := by simp [insOf, List.getElem?_eq_none hk]
        rw [this]
        exact endF.nil (.inr rfl) (by simp -implicitDefEqProofs +decide only [go_sem]) (fun _ _ => rfl) rfl
      · obtain ⟨r, hr'⟩ : ∃ r, rows[k]? = some r := ⟨_, List.getElem?_eq_getElem (by omega)⟩
        have hk' : k < rows.length := by omega
        have hb' : r.length < big := by
          have := hs r (List.mem_of_getElem? hr')
          unfold big; omega
        simp -implicitDefEqProofs +decide only [go_sem, h1, h2, hr', sI, hk, hk', hl, hb']
        have e : insOf rows (k : Int) = r := by unfold insOf; rw [if_neg hn]; simp [hr']
        rw [e]
        exact endF.whole (lab := .loc 20 0) (v := 1) (len := r.length) (size := 1) (frz := 0) (.inr rfl) (by simp -implicitDefEqProofs +decide only [go_sem]) (by simp -implicitDefEqProofs +decide only [go_sem]) (by simp) rfl (fun l hp => by cases l <;> first | rfl | cases hp) rfl

end Go.Fm
/- The tape: Add. -/
namespace Go.Fm
open Go.Proofs
set_option maxRecDepth 100000

theorem add_nil (ins : List Int) : Pure Try.prog 16 [.nilp, sI ins] [.t (.int .i64 0), .t (.int .i64 21)] := by
  refine Pure.intro Try.func16 rfl (rt := [4, 5]) rfl (by simp [Try.ntmps16]) (by decide) (sites := fun _ => false) ?_
  apply run_sound 200
  simp -implicitDefEqProofs +decide only [go_sem]
  exact endF.two (.inr rfl) (by simp -implicitDefEqProofs +decide only [go_sem]) rfl (by simp -implicitDefEqProofs +decide only [go_sem]) rfl (fun _ _ => rfl) rfl

theorem add_row (h : Heap) (m id ver frz : Nat) (rows : List (List Int)) (ins : List Int) (hb : ∀ l, Lab.pool l = false → h l = none) (h1 : h (.obj id) = some (.box [.sl (.fld id 0) ver 0 rows.length])) (h2 : h (.fld id 0) = some (.arr 1 (rows.map sI) ver frz)) (hr : rows.length < 1000000) (hi : ins.length < 1000000) (h' : Heap)
    (hh : h' = if okIns rows.length ins = true ∧ rows.length < 200 then upd (upd h (.fld id 0) (some (.arr 1 (rows.map sI ++ [sI ins]) (ver + 1) (if frz = 0 then 0 else rows.length + 1)))) (.obj id) (some (.box [.sl (.fld id 0) (ver + 1) 0 (rows.length + 1)])) else h) :
    Ret Try.prog 16 [.ptr id, sI ins] h m (if okIns rows.length ins = false then [.t (.int .i64 0), .t (.int .i64 11)] else if 200 ≤ rows.length then [.t (.int .i64 0), .t (.int .i64 13)] else [.t (.int .i64 rows.length), .t (.int .i64 0)]) h' m := by
  have hl : ∀ d j, h (.loc d j) = none := fun d j => hb _ rfl
  refine Ret.intro Try.func16 rfl (rt := [4, 5]) rfl (by simp [Try.ntmps16]) (by decide) (sites := fun _ => false) ?_ ?_ ?_
  · intro l hl
    subst hh
    split
    · rw [upd_ne _ _ _ _ (fun e => by subst e; cases hl), upd_ne _ _ _ _ (fun e => by subst e; cases hl)]; exact hb l hl
    · exact hb l hl
  · intro i cs hc
    subst hh
    split
    · by_cases e : i = id
      · subst e; exact ⟨_, upd_same _ _ _⟩
      · rw [upd_ne _ _ _ _ (fun e' => e (by cases e'; rfl)), upd_ne _ _ _ _ (fun e => by cases e)]; exact ⟨_, hc⟩
    · exact ⟨_, hc⟩
  apply run_sound 200
  simp -implicitDefEqProofs +decide only [go_sem, sI]
  refine Goes.loop (X := Nat) (fun i => ⟨ofL [(0, .t (.ptr id)), (1, tI ins), (4, .t (.int .i64 0)), (5, .t (.int .i64 0)), (10, tI ins), (11, .t (.int .i64 ins.length)), (12, .t (.int .i64 i))], h, m⟩)
    (fun i => i ≤ ins.length ∧ okIns rows.length (ins.take i) = true) (fun i => ins.length - i) 0 ?_ ?_ ?_
  · exact Wk.slotsH _ hb rfl rfl (by simp -implicitDefEqProofs +decide only [go_sem, tI, sI]) (by simp -implicitDefEqProofs +decide only [go_sem, tI, sI])
  · simp [okIns]
  rintro i ⟨hi', hn⟩ J hJ
  apply run_sound 200
  simp -implicitDefEqProofs +decide only [go_sem, tI, sI]
  refine selP_dec (fun hlt => ?_) (fun hlt => ?_)
  · obtain ⟨x, hx⟩ : ∃ x, ins[i]? = some x := ⟨_, List.getElem?_eq_getElem hlt⟩
    have bad : (x < -1 ∨ (rows.length : Int) ≤ x) → okIns rows.length ins = false := by
      intro hbad
      have hm := List.mem_of_getElem? hx
      cases hok : okIns rows.length ins with
      | false => rfl
      | true =>
        have := List.all_eq_true.1 hok x hm
        simp at this; omega
    simp -implicitDefEqProofs +decide only [go_sem, hx, h1, h2]
    refine selP_dec (fun hx1 => ?_) (fun hx1 => ?_)
    · simp -implicitDefEqProofs +decide only [go_sem, hx, h1, h2]
      have hbd := bad (.inl hx1)
      rw [if_pos hbd]
      rw [hbd] at hh
      exact endF.two (.inr rfl) (by simp -implicitDefEqProofs +decide only [go_sem]) rfl (by simp -implicitDefEqProofs +decide only [go_sem]) rfl (fun l _ => by rw [hh]; simp) rfl
    · simp -implicitDefEqProofs +decide only [go_sem, hx, h1, h2]
      refine selP_dec (fun hx2 => ?_) (fun hx2 => ?_)
      · simp -implicitDefEqProofs +decide only [go_sem, hx, h1, h2]
        have hbd := bad (.inr hx2)
        rw [if_pos hbd]
        rw [hbd] at hh
        exact endF.two (.inr rfl) (by simp -implicitDefEqProofs +decide only [go_sem]) rfl (by simp -implicitDefEqProofs +decide only [go_sem]) rfl (fun l _ => by rw [hh]; simp) rfl
      · simp -implicitDefEqProofs +decide only [go_sem, hx, h1, h2]
        refine hJ (i + 1) _ ⟨hlt, ?_⟩ (by omega) ?_
        · rw [List.take_add_one, hx]
          unfold okIns at hn ⊢
          rw [List.all_append, hn]
          simp; omega
        · exact Wk.slotsH _ hb rfl rfl (by simp -implicitDefEqProofs +decide only [go_sem, tI, sI, wS (show i < 1000000000000 by omega)]) (by simp -implicitDefEqProofs +decide only [go_sem, tI, sI])
  · have hok : okIns rows.length ins = true := by rwa [List.take_of_length_le (by omega)] at hn
    rw [hok, if_neg (by simp)]
    simp -implicitDefEqProofs +decide only [go_sem, h1, h2]
    refine selP_dec (fun h200 => ?_) (fun h200 => ?_)
    · simp -implicitDefEqProofs +decide only [go_sem, h1, h2]
      have h200 : 200 ≤ rows.length := by omega
      rw [if_pos h200]
      exact endF.two (.inr rfl) (by simp -implicitDefEqProofs +decide only [go_sem]) rfl (by simp -implicitDefEqProofs +decide only [go_sem]) rfl (fun l _ => by rw [hh, if_neg (by omega)]) rfl
    · simp -implicitDefEqProofs +decide only [go_sem, h1, h2]
      have h200 : rows.length < 200 := by omega
      rw [if_neg (by omega)]
      rw [hok, if_pos ⟨rfl, h200⟩] at hh
      refine Goes.drawN mixed ?_
      have hb1 : ins.length < big := by unfold big; omega
      have hb2 : rows.length + 1 < big := by unfold big; omega
      simp -implicitDefEqProofs +decide only [go_sem, h1, h2, hl, hb1, hb2, sI]
      refine ⟨.mk (by kernel_rfl), ?_⟩
      apply run_sound 200
      simp -implicitDefEqProofs +decide only [go_sem, h1, h2, hl, hb1, hb2, sI]
      have hw : IntKind.wrap .i64 (((rows.length + 1 : Nat) : Int) - 1) = (rows.length : Int) := by rw [w64] <;> omega
      refine endF.two (.inr rfl) (by simp -implicitDefEqProofs +decide only [go_sem, hw]) rfl (by simp -implicitDefEqProofs +decide only [go_sem]) rfl (fun l hp => ?_) rfl
      rw [hh]
      cases l <;> first | (cases hp; done) | simp [upd, sI]

end Go.Fm
/- The tape: the first row. -/
namespace Go.Fm
open Go.Proofs
set_option maxRecDepth 100000

theorem add_first (h : Heap) (m id : Nat) (ins : List Int) (hb : ∀ l, Lab.pool l = false → h l = none) (h1 : h (.obj id) = some (.box [.nil])) (h2 : h (.fld id 0) = none) (hi : ins.length < 1000000) (h' : Heap)
    (hh : h' = if okIns 0 ins = true then upd (upd h (.fld id 0) (some (.arr 1 [sI ins] 0 0))) (.obj id) (some (.box [.sl (.fld id 0) 0 0 1])) else h) :
    Ret Try.prog 16 [.ptr id, sI ins] h m (if okIns 0 ins = false then [.t (.int .i64 0), .t (.int .i64 11)] else [.t (.int .i64 0), .t (.int .i64 0)]) h' m := by
  have hl : ∀ d j, h (.loc d j) = none := fun d j => hb _ rfl
  refine Ret.intro Try.func16 rfl (rt := [4, 5]) rfl (by simp [Try.ntmps16]) (by decide) (sites := fun _ => false) ?_ ?_ ?_
  · intro l hl
    subst hh
    split
    · rw [upd_ne _ _ _ _ (fun e => by subst e; cases hl), upd_ne _ _ _ _ (fun e => by subst e; cases hl)]; exact hb l hl
    · exact hb l hl
  · intro i cs hc
    subst hh
    split
    · by_cases e : i = id
      · subst e; exact ⟨_, upd_same _ _ _⟩
      · rw [upd_ne _ _ _ _ (fun e' => e (by cases e'; rfl)), upd_ne _ _ _ _ (fun e => by cases e)]; exact ⟨_, hc⟩
    · exact ⟨_, hc⟩
  apply run_sound 200
  simp -implicitDefEqProofs +decide only [go_sem, sI]
  refine Goes.loop (X := Nat) (fun i => ⟨ofL [(0, .t (.ptr id)), (1, tI ins), (4, .t (.int .i64 0)), (5, .t (.int .i64 0)), (10, tI ins), (11, .t (.int .i64 ins.length)), (12, .t (.int .i64 i))], h, m⟩)
    (fun i => i ≤ ins.length ∧ okIns 0 (ins.take i) = true) (fun i => ins.length - i) 0 ?_ ?_ ?_
  · exact Wk.slotsH _ hb rfl rfl (by simp -implicitDefEqProofs +decide only [go_sem, tI, sI]) (by simp -implicitDefEqProofs +decide only [go_sem, tI, sI])
  · simp [okIns]
  rintro i ⟨hi', hn⟩ J hJ
  apply run_sound 200
  simp -implicitDefEqProofs +decide only [go_sem, tI, sI]
  refine selP_dec (fun hlt => ?_) (fun hlt => ?_)
  · obtain ⟨x, hx⟩ : ∃ x, ins[i]? = some x := ⟨_, List.getElem?_eq_getElem hlt⟩
    have bad : (x < -1 ∨ 0 ≤ x) → okIns 0 ins = false := by
      intro hbad
      have hm := List.mem_of_getElem? hx
      cases hok : okIns 0 ins with
      | false => rfl
      | true =>
        have := List.all_eq_true.1 hok x hm
        simp at this; omega
    simp -implicitDefEqProofs +decide only [go_sem, hx, h1, h2]
    refine selP_dec (fun hx1 => ?_) (fun hx1 => ?_)
    · simp -implicitDefEqProofs +decide only [go_sem, hx, h1, h2]
      have hbd := bad (.inl hx1)
      rw [if_pos hbd]
      rw [hbd] at hh
      exact endF.two (.inr rfl) (by simp -implicitDefEqProofs +decide only [go_sem]) rfl (by simp -implicitDefEqProofs +decide only [go_sem]) rfl (fun l _ => by rw [hh]; simp) rfl
    · simp -implicitDefEqProofs +decide only [go_sem, hx, h1, h2]
      refine selP_dec (fun hx2 => ?_) (fun hx2 => ?_)
      · simp -implicitDefEqProofs +decide only [go_sem, hx, h1, h2]
        have hbd := bad (.inr hx2)
        rw [if_pos hbd]
        rw [hbd] at hh
        exact endF.two (.inr rfl) (by simp -implicitDefEqProofs +decide only [go_sem]) rfl (by simp -implicitDefEqProofs +decide only [go_sem]) rfl (fun l _ => by rw [hh]; simp) rfl
      · simp -implicitDefEqProofs +decide only [go_sem, hx, h1, h2]
        refine hJ (i + 1) _ ⟨hlt, ?_⟩ (by omega) ?_
        · rw [List.take_add_one, hx]
          unfold okIns at hn ⊢
          rw [List.all_append, hn]
          simp; omega
        · exact Wk.slotsH _ hb rfl rfl (by simp -implicitDefEqProofs +decide only [go_sem, tI, sI, wS (show i < 1000000000000 by omega)]) (by simp -implicitDefEqProofs +decide only [go_sem, tI, sI])
  · have hok : okIns 0 ins = true := by rwa [List.take_of_length_le (by omega)] at hn
    rw [hok, if_neg (by simp)]
    simp -implicitDefEqProofs +decide only [go_sem, h1, h2]
    rw [hok, if_pos rfl] at hh
    refine Goes.drawN mixed ?_
    have hb1 : ins.length < big := by unfold big; omega
    simp -implicitDefEqProofs +decide only [go_sem, h1, h2, hl  , hb1, sI]
    refine ⟨.mk (by kernel_rfl), ?_⟩
    apply run_sound 200
    simp -implicitDefEqProofs +decide only [go_sem, h1, h2, hl  , hb1, sI]
    have hw : IntKind.wrap .i64 ((1 : Int) - 1) = 0 := by rw [w64] <;> omega
    refine endF.two (.inr rfl) (by simp -implicitDefEqProofs +decide only [go_sem, hw]) rfl (by simp -implicitDefEqProofs +decide only [go_sem]) rfl (fun l hp => ?_) rfl
    rw [hh]
    cases l <;> first | (cases hp; done) | simp [upd, sI]

end Go.Fm
/- The tape: Has, Right, many. -/
namespace Go.Fm
open Go.Proofs
set_option maxRecDepth 100000

theorem getI {α : Type} {l : List α} {i : Nat} (h : i < l.length) : ∃ x, l[i]? = some x := ⟨_, List.getElem?_eq_getElem h⟩

theorem noPtr_ints (k : IntKind) (l : List Int) : noPtr (.slice (l.map (.int k))) = true := by
  simp only [noPtr]
  rw [noPtrL_iff]
  intro t ht
  obtain ⟨x, _, rfl⟩ := List.mem_map.1 ht
  rfl

theorem has_ok (l : List Int) (n : Int) (hl : l.length < 1000000) : Pure Try.prog 10 [sI l, .int .i64 n] [.t (.bool (decide (n ∈ l)))] := by
  refine Pure.intro Try.func10 rfl (rt := [4]) rfl (by simp [Try.ntmps10]) (by decide) (sites := fun _ => false) ?_
  apply run_sound 200
  simp -implicitDefEqProofs +decide only [go_sem, sI]
  refine Goes.loop (X := Nat) (fun i => ⟨ofL [(0, tI l), (1, .t (.int .i64 n)), (4, .t (.bool false)), (7, .t (.int .i64 l.length)), (8, .t (.int .i64 i))], fun _ => none, 0⟩) (fun i => i ≤ l.length ∧ n ∉ l.take i) (fun i => l.length - i) 0 ?_ ?_ ?_
  · exact (Wk.slots _ rfl rfl (by simp -implicitDefEqProofs +decide only [go_sem, tI, sI]) (by simp -implicitDefEqProofs +decide only [go_sem, tI, sI]))
  · simp
  rintro i ⟨hi, hn⟩ J hJ
  apply run_sound 200
  simp -implicitDefEqProofs +decide only [go_sem, tI, sI]
  refine selP_dec (fun h => ?_) (fun h => ?_)
  · obtain ⟨x, hx⟩ := getI h
    simp -implicitDefEqProofs +decide only [go_sem, hx, tI, sI]
    refine selP_dec (fun he => ?_) (fun he => ?_)
    · rw [show decide (n ∈ l) = true from decide_eq_true (he ▸ List.mem_of_getElem? hx)]
      exact endF.one (.inr rfl) (by simp -implicitDefEqProofs +decide only [go_sem]) rfl (fun _ _ => rfl) rfl
    · refine hJ (i + 1) _ ⟨h, ?_⟩ (by omega) (Wk.slots _ rfl rfl (by simp -implicitDefEqProofs +decide only [go_sem, tI, sI, wS (show i < 1000000000000 by omega)]) (by simp -implicitDefEqProofs +decide only [go_sem, tI, sI, wS (show i < 1000000000000 by omega)]))
      rw [List.take_add_one, hx]
      simp [hn]; exact fun e => he e.symm
  · rw [show decide (n ∈ l) = false from decide_eq_false (by rwa [List.take_of_length_le (by omega)] at hn)]
    exact endF.one (.inr rfl) (by simp -implicitDefEqProofs +decide only [go_sem]) rfl (fun _ _ => rfl) rfl

theorem right_ok (l : List Int) (n : Nat) (hl : l.length < 1000000) : Pure Try.prog 18 [sI l, .int .i64 n] [.t (.bool (okIns n l))] := by
  refine Pure.intro Try.func18 rfl (rt := [4]) rfl (by simp [Try.ntmps18]) (by decide) (sites := fun _ => false) ?_
  apply run_sound 200
  simp -implicitDefEqProofs +decide only [go_sem, sI]
  refine Goes.loop (X := Nat) (fun i => ⟨ofL [(0, tI l), (1, .t (.int .i64 n)), (4, .t (.bool false)), (7, .t (.int .i64 l.length)), (8, .t (.int .i64 i))], fun _ => none, 0⟩) (fun i => i ≤ l.length ∧ okIns n (l.take i) = true) (fun i => l.length - i) 0 ?_ ?_ ?_
  · exact (Wk.slots _ rfl rfl (by simp -implicitDefEqProofs +decide only [go_sem, tI, sI]) (by simp -implicitDefEqProofs +decide only [go_sem, tI, sI]))
  · simp [okIns]
  rintro i ⟨hi, hn⟩ J hJ
  apply run_sound 200
  simp -implicitDefEqProofs +decide only [go_sem, tI, sI]
  refine selP_dec (fun h => ?_) (fun h => ?_)
  · obtain ⟨x, hx⟩ := getI h
    have bad : (x < -1 ∨ (n : Int) ≤ x) → okIns n l = false := by
      intro hbad
      have hm := List.mem_of_getElem? hx
      cases hok : okIns n l with
      | false => rfl
      | true =>
        have := List.all_eq_true.1 hok x hm
        simp at this; omega
    simp -implicitDefEqProofs +decide only [go_sem, hx, tI, sI]
    refine selP_dec (fun hx1 => ?_) (fun hx1 => ?_)
    · simp -implicitDefEqProofs +decide only [go_sem, hx, tI, sI]
      rw [bad (.inl hx1)]
      exact endF.one (.inr rfl) (by simp -implicitDefEqProofs +decide only [go_sem]) rfl (fun _ _ => rfl) rfl
    · simp -implicitDefEqProofs +decide only [go_sem, hx, tI, sI]
      refine selP_dec (fun hx2 => ?_) (fun hx2 => ?_)
      · simp -implicitDefEqProofs +decide only [go_sem, hx, tI, sI]
        rw [bad (.inr hx2)]
        exact endF.one (.inr rfl) (by simp -implicitDefEqProofs +decide only [go_sem]) rfl (fun _ _ => rfl) rfl
      · simp -implicitDefEqProofs +decide only [go_sem, hx, tI, sI]
        refine hJ (i + 1) _ ⟨h, ?_⟩ (by omega) (Wk.slots _ rfl rfl (by simp -implicitDefEqProofs +decide only [go_sem, tI, sI, wS (show i < 1000000000000 by omega)]) (by simp -implicitDefEqProofs +decide only [go_sem, tI, sI, wS (show i < 1000000000000 by omega)]))
        rw [List.take_add_one, hx]
        unfold okIns at hn ⊢
        rw [List.all_append, hn]
        simp; omega
  · rw [show okIns n l = true by rwa [List.take_of_length_le (by omega)] at hn]
    exact endF.one (.inr rfl) (by simp -implicitDefEqProofs +decide only [go_sem]) rfl (fun _ _ => rfl) rfl

/-- 'many'. -/
def manyOf (l : List (List Int)) : Bool := l.any (fun r => decide (20 < r.length)) || decide (220 < l.length)
def sR (l : List (List Int)) : T := .slice (l.map sI)
def tR (l : List (List Int)) : AV := .t (sR l)
theorem sR_get {l : List (List Int)} {i : Nat} {r : List Int} (h : l[i]? = some r) : (l.map sI)[i]? = some (sI r) := by simp [h]

theorem many_ok (l : List (List Int)) (hl : l.length < 10000000000000) : Pure Try.prog 6 [sR l] [.t (.bool (manyOf l))] := by
  refine Pure.intro Try.func6 rfl (rt := [2]) rfl (by simp [Try.ntmps6]) (by decide) (sites := fun _ => false) ?_
  apply run_sound 200
  simp -implicitDefEqProofs +decide only [go_sem, sR]
  refine Goes.loop (X := Nat) (fun i => ⟨ofL [(0, tR l), (2, .t (.bool false)), (5, .t (.int .i64 l.length)), (6, .t (.int .i64 i))], fun _ => none, 0⟩) (fun i => i ≤ l.length ∧ (l.take i).any (fun r => decide (20 < r.length)) = false) (fun i => l.length - i) 0 ?_ ?_ ?_
  · exact (Wk.slots _ rfl rfl (by simp -implicitDefEqProofs +decide only [go_sem, tR, sR]) (by simp -implicitDefEqProofs +decide only [go_sem, tR, sR]))
  · simp
  rintro i ⟨hi, hn⟩ J hJ
  apply run_sound 200
  simp -implicitDefEqProofs +decide only [go_sem, tR, sR]
  refine selP_dec (fun h => ?_) (fun h => ?_)
  · obtain ⟨x, hx⟩ := getI h
    simp -implicitDefEqProofs +decide only [go_sem, hx, tR, sR, sI]
    refine selP_dec (fun he => ?_) (fun he => ?_)
    · have : manyOf l = true := by
        unfold manyOf
        rw [Bool.or_eq_true, List.any_eq_true]
        exact .inl ⟨x, List.mem_of_getElem? hx, decide_eq_true (by omega)⟩
      rw [this]
      simp -implicitDefEqProofs +decide only [go_sem, hx, tR, sR, sI]
      exact endF.one (.inr rfl) (by simp -implicitDefEqProofs +decide only [go_sem]) rfl (fun _ _ => rfl) rfl
    · simp -implicitDefEqProofs +decide only [go_sem, hx, tR, sR, sI]
      refine hJ (i + 1) _ ⟨h, ?_⟩ (by omega) (Wk.slots _ rfl rfl (by simp -implicitDefEqProofs +decide only [go_sem, tR, sR, wS' (show i < 4000000000000000000 by omega)]) (by simp -implicitDefEqProofs +decide only [go_sem, tR, sR, wS' (show i < 4000000000000000000 by omega)]))
      rw [List.take_add_one, hx, List.any_append, hn]
      simp; omega
  · rw [show manyOf l = decide (220 < (l.length : Int)) by
      rw [List.take_of_length_le (by omega)] at hn
      unfold manyOf
      rw [hn]; simp; omega]
    simp -implicitDefEqProofs +decide only [go_sem, tR, sR, sI]
    exact endF.one (.inr rfl) (by simp -implicitDefEqProofs +decide only [go_sem]) rfl (fun _ _ => rfl) rfl
theorem ints_ok (a b : List Int) (ha : a.length < 1000000) (hb : b.length < 1000000) : Pure Try.prog 13 [sI a, sI b] [.t (.bool (decide (a = b)))] := by
  refine Pure.intro Try.func13 rfl (rt := [4]) rfl (by simp [Try.ntmps13]) (by decide) (sites := fun _ => false) ?_
  apply run_sound 200
  simp -implicitDefEqProofs +decide only [go_sem, tI, sI]
  refine selP_dec (fun h => ?_) (fun h => ?_)
  · rw [show decide (a = b) = false from decide_eq_false fun e => h (by rw [e])]
    exact endF.one (.inr rfl) (by simp -implicitDefEqProofs +decide only [go_sem]) rfl (fun _ _ => rfl) rfl
  · have hl : a.length = b.length := by omega
    refine Goes.loop (X := Nat) (fun i => ⟨ofL [(0, tI a), (1, tI b), (4, .t (.bool false)), (12, .t (.int .i64 a.length)), (13, .t (.int .i64 i))], fun _ => none, 0⟩) (fun i => i ≤ a.length ∧ a.take i = b.take i) (fun i => a.length - i) 0 ?_ ?_ ?_
    · exact Wk.slots _ rfl rfl (by simp -implicitDefEqProofs +decide only [go_sem, tI, sI]) (by simp -implicitDefEqProofs +decide only [go_sem, tI, sI])
    · simp
    rintro i ⟨hi, hn⟩ J hJ
    apply run_sound 200
    simp -implicitDefEqProofs +decide only [go_sem, tI, sI]
    refine selP_dec (fun h => ?_) (fun h => ?_)
    · obtain ⟨x, hx⟩ : ∃ x, a[i]? = some x := ⟨_, List.getElem?_eq_getElem h⟩
      obtain ⟨y, hy⟩ : ∃ y, b[i]? = some y := ⟨_, List.getElem?_eq_getElem (hl ▸ h)⟩
      refine Goes.drawN mixed ?_
      simp -implicitDefEqProofs +decide only [go_sem, hx, hy, tI, sI]
      refine ⟨.mk (by kernel_rfl), ?_⟩
      apply run_sound 200
      simp -implicitDefEqProofs +decide only [go_sem, hx, hy, tI, sI]
      refine selP_dec (fun he => ?_) (fun he => ?_)
      · rw [show decide (a = b) = false from decide_eq_false fun e => he (by rw [e, hy] at hx; exact (Option.some.inj hx).symm)]
        exact endF.one (.inr rfl) (by simp -implicitDefEqProofs +decide only [go_sem]) rfl (fun _ _ => rfl) rfl
      · refine hJ (i + 1) _ ⟨h, ?_⟩ (by omega) ?_
        · rw [List.take_add_one, List.take_add_one, hn, hx, hy]
          simp at he
          rw [he]
        · exact Wk.slots _ rfl rfl (by simp -implicitDefEqProofs +decide only [go_sem, tI, sI, wS (show i < 1000000000000 by omega)]) (by simp -implicitDefEqProofs +decide only [go_sem, tI, sI])
    · rw [show decide (a = b) = true from decide_eq_true (by
        have h : a.length ≤ i := by omega
        rw [← List.take_of_length_le h, hn, List.take_of_length_le (hl ▸ h)])]
      exact endF.one (.inr rfl) (by simp -implicitDefEqProofs +decide only [go_sem]) rfl (fun _ _ => rfl) rfl
end Go.Fm
/- The tape: Reach. -/
namespace Go.Fm
open Go.Proofs
set_option maxRecDepth 100000

/-- The marks of a node's row. -/
def marks (m : List Bool) (r : List Int) : List Bool := r.foldl (fun m x => if 0 ≤ x then m.set x.toNat true else m) m
theorem marks_length (r : List Int) : ∀ m : List Bool, (marks m r).length = m.length := by
  induction r with
  | nil => intro m; rfl
  | cons x r ih => intro m; unfold marks at ih ⊢; rw [List.foldl_cons, ih]; split <;> simp

/-- From node k-1 downwards. -/
def reachGo (rows : List (List Int)) : Nat → List Bool → List Int → List Int
  | 0, _, out => out
  | k + 1, m, out => if m.getD k false then reachGo rows k (marks m (rows.getD k [])) (out ++ [(k : Int)]) else reachGo rows k m out
def reachT (rows : List (List Int)) (root : Int) : List Int :=
  if root < 0 ∨ (rows.length : Int) ≤ root then [] else reachGo rows (root.toNat + 1) ((List.replicate (root.toNat + 1) false).set root.toNat true) []

/-- Every node hangs on earlier ones. -/
def WellT (rows : List (List Int)) : Prop := ∀ (n : Nat) (r : List Int), rows[n]? = some r → ∀ x ∈ r, x < (n : Int)
def sB (l : List Bool) : T := .slice (l.map .bool)

theorem rep_get {k : Nat} {x : T} : (List.replicate (k + 1) x)[k]? = some x := by simp

theorem reach_nil (n : Int) : Pure Try.prog 9 [.nilp, .int .i64 n] [.t (.slice [])] := by
  refine Pure.intro Try.func9 rfl (rt := [4]) rfl (by simp [Try.ntmps9]) (by decide) (sites := fun _ => false) ?_
  apply run_sound 200
  simp -implicitDefEqProofs +decide only [go_sem]
  exact endF.nil (.inr rfl) (by simp -implicitDefEqProofs +decide only [go_sem]) (fun _ _ => rfl) rfl

theorem reach_ok (h : Heap) (m id : Nat) (rows : List (List Int)) (root : Int) (hb : ∀ l, Lab.pool l = false → h l = none) (ht : TapeAt h id rows) (hr : rows.length < 1000000) (hs : ∀ r ∈ rows, r.length < 1000000) (hw : WellT rows) :
    Ret Try.prog 9 [.ptr id, .int .i64 root] h m [.t (sI (reachT rows root))] h m := by
  have hl : ∀ d j, h (.loc d j) = none := fun d j => hb _ rfl
  refine Ret.intro Try.func9 rfl (rt := [4]) rfl (by simp [Try.ntmps9]) (by decide) (sites := fun _ => false) hb (fun id cs hc => ⟨_, hc⟩) ?_
  apply run_sound 200
  simp -implicitDefEqProofs +decide only [go_sem]
  refine selP_dec (fun hn => ?_) (fun hn => ?_)
  · simp -implicitDefEqProofs +decide only [go_sem]
    rw [show reachT rows root = [] by simp [reachT, hn]]
    exact endF.nil (.inr rfl) (by simp -implicitDefEqProofs +decide only [go_sem]) (fun _ _ => rfl) rfl
  obtain ⟨k, rfl⟩ : ∃ k : Nat, root = k := ⟨root.toNat, by omega⟩
  rcases ht with ⟨rfl, h1, h2⟩ | ⟨ver, frz, h1, h2⟩
  · simp -implicitDefEqProofs +decide only [go_sem, h1, h2]
    rw [show reachT [] (k : Int) = [] by simp [reachT]]
    exact endF.nil (.inr rfl) (by simp -implicitDefEqProofs +decide only [go_sem]) (fun _ _ => rfl) rfl
  simp -implicitDefEqProofs +decide only [go_sem, h1, h2]
  refine selP_dec (fun hk => ?_) (fun hk => ?_)
  · simp -implicitDefEqProofs +decide only [go_sem, h1, h2]
    rw [show reachT rows (k : Int) = [] by simp [reachT, hk]]
    exact endF.nil (.inr rfl) (by simp -implicitDefEqProofs +decide only [go_sem]) (fun _ _ => rfl) rfl
  have hk' : k < rows.length := by omega
  have hk1 : k + 1 < big := by unfold big; omega
  simp -implicitDefEqProofs +decide only [go_sem, h1, h2, wS (show k < 1000000000000 by omega), hl, hk1, Nat.lt_succ_self, List.headD_cons, rep_get]
  refine Goes.wk (Wk.nilRow (d := 6) (lab := .loc 48 0) (size := 1) (by simp -implicitDefEqProofs +decide only [go_sem]) (by simp -implicitDefEqProofs +decide only [go_sem, hl]) rfl (by decide)) ?_
  refine Goes.loop (X := Nat × List Bool × List Int × Nat) (fun x => ⟨ofL [(0, .t (.ptr id)), (1, .t (.int .i64 k)), (5, .sl (.loc 28 0) 0 0 (k + 1)), (6, .sl (.loc 48 0) x.2.2.2 0 x.2.2.1.length), (33, .t (.int .i64 ((k + 1 : Nat) : Int))), (34, .t (.int .i64 x.1))],
      ofH h [(.loc 28 0, .arr 1 (x.2.1.map .bool) 0 0), (.loc 48 0, .arr 1 (x.2.2.1.map (.int .i64)) x.2.2.2 0)], m⟩)
    (fun x => x.1 ≤ k + 1 ∧ x.2.1.length = k + 1 ∧ x.2.2.1.length ≤ x.1 ∧ reachGo rows (k + 1 - x.1) x.2.1 x.2.2.1 = reachT rows k) (fun x => k + 1 - x.1) (0, (List.replicate (k + 1) false).set k true, [], 0) ?_ ?_ ?_
  · refine Wk.rows _ _ hb rfl rfl ?_ (fun lab hp => by cases lab <;> first | rfl | cases hp) ?_ ?_
    · simp -implicitDefEqProofs +decide only [go_sem, List.map_set, List.map_replicate, List.map_nil]
    · simp -implicitDefEqProofs +decide only [go_sem]
    · simp -implicitDefEqProofs +decide only [go_sem]
  · refine ⟨by simp, by simp, by simp, ?_⟩
    rw [show reachT rows k = reachGo rows (k + 1) ((List.replicate (k + 1) false).set k true) [] by simp [reachT, hk]; omega]
    rfl
  rintro ⟨i, met, out, v⟩ ⟨hi, hm, ho, he⟩ J hJ
  dsimp only at hi hm ho he hJ ⊢
  apply run_sound 200
  simp -implicitDefEqProofs +decide only [go_sem, ofH]
  refine selP_dec (fun hlt => ?_) (fun hlt => ?_)
  · obtain ⟨b, hbit⟩ : ∃ b, met[k - i]? = some b := getI (by omega)
    have hbit' : (met.map T.bool)[k - i]? = some (.bool b) := by simp [hbit]
    have hlt2 : k - i < k + 1 := by omega
    simp -implicitDefEqProofs +decide only [go_sem, ofH, wSub (show i ≤ k by omega) (show k < 1000000000000 by omega), hbit', hlt2]
    have hd : k + 1 - i = (k - i) + 1 := by omega
    have hg : met.getD (k - i) false = b := by simp [List.getD, hbit]
    rw [hd, reachGo, hg] at he
    refine selP_bool (fun hb1 => ?_) (fun hb1 => ?_)
    · have hb1 : b = false := by simpa using hb1
      subst hb1
      simp -implicitDefEqProofs +decide only [go_sem, ofH]
      refine hJ (i + 1, met, out, v) _ ⟨(by first | omega | (dsimp only; omega)), hm, (by first | omega | (dsimp only; omega)), ?_⟩ (by first | omega | (dsimp only; omega)) (Wk.rows _ _ hb rfl rfl ?_ (fun lab hp => by cases lab <;> first | rfl | cases hp) ?_ ?_)
      · rw [show k + 1 - (i + 1) = k - i by omega]
        simpa using he
      · simp -implicitDefEqProofs +decide only [go_sem]
      · simp -implicitDefEqProofs +decide only [go_sem, wS (show i < 1000000000000 by omega)]
      · simp -implicitDefEqProofs +decide only [go_sem]
    have hb1 : b = true := by simpa using hb1
    subst hb1
    simp only [if_true] at he
    obtain ⟨r, hr'⟩ := getI (show k - i < rows.length by omega)
    have hr2 : (rows.map sI)[k - i]? = some (sI r) := by simp [hr']
    have hr3 : rows.getD (k - i) [] = r := by simp [List.getD, hr']
    have hb2 : out.length + 1 < big := by unfold big; omega
    have hlt3 : k - i < rows.length := by omega
    rw [hr3] at he
    simp -implicitDefEqProofs +decide only [go_sem, ofH, h1, h2, hr2, hl, hb2, hlt3, sI_cells, List.getElem?_cons_zero]
    simp -implicitDefEqProofs +decide only [go_sem, sI]
    refine Goes.loop (X := Nat × List Bool) (fun x => ⟨ofL [(0, .t (.ptr id)), (1, .t (.int .i64 k)), (5, .sl (.loc 28 0) 0 0 (k + 1)), (6, .sl (.loc 48 0) (v + 1) 0 (out.length + 1)), (33, .t (.int .i64 ((k + 1 : Nat) : Int))), (34, .t (.int .i64 i)), (55, tI r), (56, .t (.int .i64 r.length)), (57, .t (.int .i64 x.1))],
        ofH h [(.loc 28 0, .arr 1 (x.2.map .bool) 0 0), (.loc 48 0, .arr 1 ((out ++ [((k - i : Nat) : Int)]).map (.int .i64)) (v + 1) 0)], m⟩)
      (fun x => x.1 ≤ r.length ∧ x.2.length = k + 1 ∧ marks x.2 (r.drop x.1) = marks met r) (fun x => r.length - x.1) (0, met) ?_ ?_ ?_
    · refine Wk.rows _ _ hb rfl rfl ?_ (fun lab hp => by cases lab <;> first | rfl | cases hp) ?_ ?_
      · simp -implicitDefEqProofs +decide only [go_sem, List.map_append, List.map_cons, List.map_nil]
      · simp -implicitDefEqProofs +decide only [go_sem, tI, sI]
      · simp -implicitDefEqProofs +decide only [go_sem, tI, sI]
    · exact ⟨Nat.zero_le _, hm, rfl⟩
    rintro ⟨j, met'⟩ ⟨hj, hm', hmk⟩ J' hJ'
    dsimp only at hj hm' hmk hJ' ⊢
    have hrl := hs r (List.mem_of_getElem? hr')
    apply run_sound 200
    simp -implicitDefEqProofs +decide only [go_sem, ofH, tI, sI]
    refine selP_dec (fun hlt4 => ?_) (fun hlt4 => ?_)
    · obtain ⟨x, hx⟩ := getI hlt4
      have hxl : x < ((k - i : Nat) : Int) := hw _ r hr' x (List.mem_of_getElem? hx)
      have hdr : r.drop j = x :: r.drop (j + 1) := by
        rw [List.drop_eq_getElem_cons hlt4]
        rw [List.getElem?_eq_getElem hlt4] at hx
        rw [Option.some.inj hx]
      simp -implicitDefEqProofs +decide only [go_sem, ofH, hx]
      refine selP_dec (fun hx0 => ?_) (fun hx0 => ?_)
      · obtain ⟨y, rfl⟩ : ∃ y : Nat, x = y := ⟨x.toNat, by omega⟩
        obtain ⟨b, hbit2⟩ : ∃ b, met'[y]? = some b := getI (by omega)
        have hbit3 : (met'.map T.bool)[y]? = some (.bool b) := by simp [hbit2]
        have hlt5 : y < k + 1 := by omega
        simp -implicitDefEqProofs +decide only [go_sem, ofH, hx, hbit3, hlt5]
        refine hJ' (j + 1, met'.set y true) _ ⟨hlt4, by simpa using hm', ?_⟩ (by first | omega | (dsimp only; omega)) (Wk.rows _ _ hb rfl rfl ?_ (fun lab hp => by cases lab <;> first | rfl | cases hp) ?_ ?_)
        · rw [← hmk, hdr]
          simp [marks]
        · simp -implicitDefEqProofs +decide only [go_sem, List.map_append, List.map_cons, List.map_nil, set_map]
        · simp -implicitDefEqProofs +decide only [go_sem, tI, sI, wS (show j < 1000000000000 by omega)]
        · simp -implicitDefEqProofs +decide only [go_sem, tI, sI]
      · simp -implicitDefEqProofs +decide only [go_sem, ofH, hx]
        refine hJ' (j + 1, met') _ ⟨hlt4, hm', ?_⟩ (by first | omega | (dsimp only; omega)) (Wk.rows _ _ hb rfl rfl ?_ (fun lab hp => by cases lab <;> first | rfl | cases hp) ?_ ?_)
        · rw [← hmk, hdr]
          simp [marks, show ¬ 0 ≤ x by omega]
        · simp -implicitDefEqProofs +decide only [go_sem, List.map_append, List.map_cons, List.map_nil]
        · simp -implicitDefEqProofs +decide only [go_sem, tI, sI, wS (show j < 1000000000000 by omega)]
        · simp -implicitDefEqProofs +decide only [go_sem, tI, sI]
    · simp -implicitDefEqProofs +decide only [go_sem, ofH]
      refine hJ (i + 1, met', out ++ [((k - i : Nat) : Int)], v + 1) _ ⟨(by first | omega | (dsimp only; omega)), hm', by simp; omega, ?_⟩ (by first | omega | (dsimp only; omega)) (Wk.rows _ _ hb rfl rfl ?_ (fun lab hp => by cases lab <;> first | rfl | cases hp) ?_ ?_)
      · rw [show k + 1 - (i + 1) = k - i by omega, ← he, ← hmk, List.drop_of_length_le (by omega)]
        rfl
      · simp -implicitDefEqProofs +decide only [go_sem, List.map_append, List.map_cons, List.map_nil]
      · simp -implicitDefEqProofs +decide only [go_sem, wS (show i < 1000000000000 by omega), List.length_append, List.length_cons, List.length_nil]
      · simp -implicitDefEqProofs +decide only [go_sem]
  · simp -implicitDefEqProofs +decide only [go_sem, ofH]
    rw [show k + 1 - i = 0 by omega] at he
    have he : out = reachT rows k := he
    rw [← he]
    refine endF.whole (lab := .loc 48 0) (v := v) (len := out.length) (size := 1) (frz := 0) (.inr rfl) (by simp -implicitDefEqProofs +decide only [go_sem]) (by simp -implicitDefEqProofs +decide only [go_sem]) (by simp) rfl (fun l hp => by cases l <;> first | rfl | cases hp) rfl
end Go.Fm
/- The tape: Hangs. -/
namespace Go.Fm
open Go.Proofs
set_option maxRecDepth 100000

theorem hangs_nil (n on : Int) : Pure Try.prog 11 [.nilp, .int .i64 n, .int .i64 on] [.t (.bool false)] := by
  refine Pure.intro Try.func11 rfl (rt := [6]) rfl (by simp [Try.ntmps11]) (by decide) (sites := fun _ => false) ?_
  apply run_sound 200
  simp -implicitDefEqProofs +decide only [go_sem]
  refine CallG.pureS [.t (.slice [])] Try.call9 (reach_nil n) rfl rfl ?_
  apply run_sound 200
  simp -implicitDefEqProofs +decide only [go_sem]
  refine Goes.loop (X := Nat) (fun i => ⟨ofL [(6, .t (.bool false)), (12, .t (.int .i64 0)), (13, .t (.int .i64 i))], fun _ => none, 0⟩) (fun i => i = 0) (fun i => 0) 0 ?_ rfl ?_
  · exact (Wk.slots _ rfl rfl (by simp -implicitDefEqProofs +decide only [go_sem]) (by simp -implicitDefEqProofs +decide only [go_sem]))
  rintro i rfl J hJ
  apply run_sound 200
  simp -implicitDefEqProofs +decide only [go_sem]
  exact endF.one (.inr rfl) (by simp -implicitDefEqProofs +decide only [go_sem]) rfl (fun _ _ => rfl) rfl

theorem hangs_ok (h : Heap) (m id : Nat) (rows : List (List Int)) (n on : Int) (hb : ∀ l, Lab.pool l = false → h l = none) (ht : TapeAt h id rows) (hr : rows.length < 1000000) (hs : ∀ r ∈ rows, r.length < 1000000) (hw : WellT rows)
    (hz : (reachT rows n).length < 1000000) : Ret Try.prog 11 [.ptr id, .int .i64 n, .int .i64 on] h m [.t (.bool (decide (on ∈ reachT rows n)))] h m := by
  refine Ret.intro Try.func11 rfl (rt := [6]) rfl (by simp [Try.ntmps11]) (by decide) (sites := fun _ => false) hb (fun id cs hc => ⟨_, hc⟩) ?_
  apply run_sound 200
  simp -implicitDefEqProofs +decide only [go_sem]
  refine CallG.pool [.t (sI (reachT rows n))] Try.call9 (reach_ok h m id rows n hb ht hr hs hw) hb (fun l hp => rfl) ?_
  generalize hL : reachT rows n = l at hz ⊢
  apply run_sound 200
  simp -implicitDefEqProofs +decide only [go_sem, sI]
  refine Goes.loop (X := Nat) (fun i => ⟨ofL [(2, .t (.int .i64 on)), (6, .t (.bool false)), (11, tI l), (12, .t (.int .i64 l.length)), (13, .t (.int .i64 i))], h, m⟩) (fun i => i ≤ l.length ∧ on ∉ l.take i) (fun i => l.length - i) 0 ?_ ?_ ?_
  · refine Wk.mixed _ hb rfl (fun l hp => by cases l <;> first | rfl | cases hp) ?_ ?_
    · simp -implicitDefEqProofs +decide only [go_sem, tI, sI]
    · simp -implicitDefEqProofs +decide only [go_sem, tI, sI]
  · simp
  rintro i ⟨hi, hn⟩ J hJ
  apply run_sound 200
  simp -implicitDefEqProofs +decide only [go_sem, tI, sI]
  refine selP_dec (fun h => ?_) (fun h => ?_)
  · obtain ⟨x, hx⟩ := getI h
    simp -implicitDefEqProofs +decide only [go_sem, hx, tI, sI]
    refine selP_dec (fun he => ?_) (fun he => ?_)
    · rw [show decide (on ∈ l) = true from decide_eq_true (he ▸ List.mem_of_getElem? hx)]
      exact endF.oneH (.inr rfl) (by simp -implicitDefEqProofs +decide only [go_sem]) rfl (fun _ _ => rfl) rfl
    · refine hJ (i + 1) _ ⟨h, ?_⟩ (by omega) (Wk.slotsH _ hb rfl rfl (by simp -implicitDefEqProofs +decide only [go_sem, tI, sI, wS (show i < 1000000000000 by omega)]) (by simp -implicitDefEqProofs +decide only [go_sem, tI, sI, wS (show i < 1000000000000 by omega)]))
      rw [List.take_add_one, hx]
      simp [hn]; exact fun e => he e.symm
  · rw [show decide (on ∈ l) = false from decide_eq_false (by rwa [List.take_of_length_le (by omega)] at hn)]
    exact endF.oneH (.inr rfl) (by simp -implicitDefEqProofs +decide only [go_sem]) rfl (fun _ _ => rfl) rfl
end Go.Fm
/- The tape: Add as one, and what every law asks besides. -/
namespace Go.Fm
open Go.Proofs
set_option maxRecDepth 100000

def addE (rows : List (List Int)) (ins : List Int) : Int := if okIns rows.length ins = false then 11 else if 200 ≤ rows.length then 13 else 0
def addN (rows : List (List Int)) (ins : List Int) : Int := if addE rows ins = 0 then rows.length else 0
def addR (rows : List (List Int)) (ins : List Int) : List (List Int) := if addE rows ins = 0 then rows ++ [ins] else rows

theorem add_ok (h : Heap) (m id : Nat) (rows : List (List Int)) (ins : List Int) (hb : ∀ l, Lab.pool l = false → h l = none) (ht : TapeAt h id rows) (hr : rows.length < 1000000) (hi : ins.length < 1000000) :
    ∃ h', (∀ l, Lab.pool l = false → h' l = none) ∧ TapeAt h' id (addR rows ins) ∧ Ret Try.prog 16 [.ptr id, sI ins] h m [.t (.int .i64 (addN rows ins)), .t (.int .i64 (addE rows ins))] h' m := by
  rcases ht with ⟨rfl, h1, h2⟩ | ⟨ver, frz, h1, h2⟩
  · have := add_first h m id ins hb h1 h2 hi _ rfl
    by_cases ho : okIns 0 ins = true
    · simp only [ho, reduceIte, Bool.true_eq_false] at this
      have e : addE [] ins = 0 := by simp [addE, ho]
      refine ⟨_, this.1, .inr ⟨0, 0, ?_, ?_⟩, ?_⟩
      · rw [upd_same]; simp [addR, e]
      · rw [upd_ne _ _ _ _ (by simp), upd_same]; simp [addR, e]
      · simp only [addN, e]; exact this
    · have ho : okIns 0 ins = false := by simpa using ho
      simp only [ho, reduceIte, Bool.false_eq_true] at this
      have e : addE [] ins = 11 := by simp [addE, ho]
      refine ⟨_, this.1, .inl ⟨by simp [addR, e], h1, h2⟩, ?_⟩
      simp only [addN, e]; exact this
  · have := add_row h m id ver frz rows ins hb h1 h2 hr hi _ rfl
    by_cases ho : okIns rows.length ins = true
    · by_cases hl : rows.length < 200
      · have h200 : (200 ≤ rows.length) = False := by simp; omega
        simp only [ho, hl, h200, eq_self, reduceIte, and_self, and_true, true_and, false_and, and_false, Bool.false_eq_true, Bool.true_eq_false, reduceCtorEq] at this
        have e : addE rows ins = 0 := by simp [addE, ho]; omega
        refine ⟨_, this.1, .inr ⟨ver + 1, if frz = 0 then 0 else rows.length + 1, ?_, ?_⟩, ?_⟩
        · rw [upd_same]; simp [addR, e]
        · rw [upd_ne _ _ _ _ (by simp), upd_same]; simp [addR, e]
        · simp only [addN, e]; exact this
      · have h200 : (200 ≤ rows.length) = True := by simp; omega
        simp only [ho, hl, h200, eq_self, reduceIte, and_self, and_true, true_and, false_and, and_false, Bool.false_eq_true, Bool.true_eq_false, reduceCtorEq] at this
        have e : addE rows ins = 13 := by simp [addE, ho]; omega
        refine ⟨_, this.1, .inr ⟨ver, frz, by simpa [addR, e] using h1, by simpa [addR, e] using h2⟩, ?_⟩
        simp only [addN, e]; exact this
    · have ho : okIns rows.length ins = false := by simpa using ho
      simp only [ho, reduceIte, Bool.false_eq_true, false_and] at this
      have e : addE rows ins = 11 := by simp [addE, ho]
      refine ⟨_, this.1, .inr ⟨ver, frz, by simpa [addR, e] using h1, by simpa [addR, e] using h2⟩, ?_⟩
      simp only [addN, e]; exact this

theorem new_tape (h : Heap) (n : Nat) (hb : ∀ l, Lab.pool l = false → h l = none) (h0 : h (.obj n) = none) (hf : h (.fld n 0) = none) : ∃ h', (∀ l, Lab.pool l = false → h' l = none) ∧ TapeAt h' n [] ∧ Ret Try.prog 17 [] h n [.t (.ptr n)] h' (n + 1) :=
  ⟨_, (new_ok h n hb h0).1, .inl ⟨rfl, upd_same _ _ _, by rw [upd_ne _ _ _ _ (by simp)]; exact hf⟩, new_ok h n hb h0⟩

def rows4 : List (List Int) := [[], [], [0, 1], [2, 0, -1]]
theorem well4 : WellT rows4 := by
  intro n r h x hx
  match n, h with
  | 0, h => cases h; cases hx
  | 1, h => cases h; cases hx
  | 2, h => cases h; simp at hx; omega
  | 3, h => cases h; simp at hx; omega
  | n + 4, h => cases h

theorem same_ok : Pure Try.prog 7 [] [.t (.bool true)] := by
  obtain ⟨h0, hb0, t0, r0⟩ := new_tape (fun _ => none) 0 (fun _ _ => rfl) rfl rfl
  obtain ⟨h1, hb1, t1, r1⟩ := add_ok h0 1 0 [] [] hb0 t0 (by decide) (by decide)
  obtain ⟨h2, hb2, t2, r2⟩ := add_ok h1 1 0 [[]] [] hb1 t1 (by decide) (by decide)
  obtain ⟨h3, hb3, t3, r3⟩ := add_ok h2 1 0 [[], []] [0, 1] hb2 t2 (by decide) (by decide)
  obtain ⟨h4, hb4, t4, r4⟩ := add_ok h3 1 0 [[], [], [0, 1]] [2, 0, -1] hb3 t3 (by decide) (by decide)
  have hl2 : ∀ d j, h2 (.loc d j) = none := fun d j => hb2 _ rfl
  have hl3 : ∀ d j, h3 (.loc d j) = none := fun d j => hb3 _ rfl
  have hl4 : ∀ d j, h4 (.loc d j) = none := fun d j => hb4 _ rfl
  have t4 : TapeAt h4 0 rows4 := t4
  have e1 : addN [[], [], [0, 1]] [2, 0, -1] = 3 := by decide
  have e2 : addE [[], [], [0, 1]] [2, 0, -1] = 0 := by decide
  rw [e1, e2] at r4
  have c1 := reach_ok h4 1 0 rows4 3 hb4 t4 (by decide) (by decide) well4
  have c2 := reach_ok h4 1 0 rows4 1 hb4 t4 (by decide) (by decide) well4
  have c3 := hangs_ok h4 1 0 rows4 3 1 hb4 t4 (by decide) (by decide) well4 (by decide)
  rw [show reachT rows4 3 = [3, 2, 1, 0] by decide] at c1 c3
  rw [show reachT rows4 1 = [1] by decide] at c2
  have i1 := ints_ok [3, 2, 1, 0] [3, 2, 1, 0] (by decide) (by decide)
  have i2 := ints_ok [1] [1] (by decide) (by decide)
  refine Pure.drop (h' := h4) (m' := 1) ?_ rfl
  refine Ret.intro Try.func7 rfl (rt := [0]) rfl (by simp [Try.ntmps7]) (by decide) (sites := fun _ => false) hb4 (fun id cs hc => by cases hc) ?_
  apply run_sound 200
  simp -implicitDefEqProofs +decide only [go_sem]
  refine CallG.pool _ Try.call17 r0 (fun _ _ => rfl) (fun l hp => rfl) ?_
  refine Goes.wk (Wk.mixed (base := h0) (m := 1) [(4, .t (.ptr 0))] hb0 rfl (fun l hp => by cases l <;> first | rfl | cases hp) (by simp -implicitDefEqProofs +decide only [go_sem]) (by simp -implicitDefEqProofs +decide only [go_sem])) ?_
  apply run_sound 200
  simp -implicitDefEqProofs +decide only [go_sem]
  refine CallG.pool _ Try.call16 r1 hb0 (fun l hp => by cases l <;> first | rfl | cases hp) ?_
  refine Goes.wk (Wk.mixed (base := h1) (m := 1) [(1, .t (.ptr 0))] hb1 rfl (fun l hp => by cases l <;> first | rfl | cases hp) (by simp -implicitDefEqProofs +decide only [go_sem]) (by simp -implicitDefEqProofs +decide only [go_sem])) ?_
  apply run_sound 200
  simp -implicitDefEqProofs +decide only [go_sem]
  refine CallG.pool _ Try.call16 r2 hb1 (fun l hp => by cases l <;> first | rfl | cases hp) ?_
  refine Goes.wk (Wk.mixed (base := h2) (m := 1) [(1, .t (.ptr 0))] hb2 rfl (fun l hp => by cases l <;> first | rfl | cases hp) (by simp -implicitDefEqProofs +decide only [go_sem]) (by simp -implicitDefEqProofs +decide only [go_sem])) ?_
  apply run_sound 200
  simp -implicitDefEqProofs +decide only [go_sem, hl2, hl3, hl4]
  refine CallG.pool _ Try.call16 r3 hb2 (fun l hp => by cases l <;> first | rfl | cases hp) ?_
  refine Goes.wk (Wk.mixed (base := h3) (m := 1) [(1, .t (.ptr 0))] hb3 rfl (fun l hp => by cases l <;> first | rfl | cases hp) (by simp -implicitDefEqProofs +decide only [go_sem]) (by simp -implicitDefEqProofs +decide only [go_sem])) ?_
  apply run_sound 200
  simp -implicitDefEqProofs +decide only [go_sem, hl2, hl3, hl4]
  refine CallG.pool _ Try.call16 r4 hb3 (fun l hp => by cases l <;> first | rfl | cases hp) ?_
  refine Goes.wk (Wk.mixed (base := h4) (m := 1) [(1, .t (.ptr 0)), (15, .tup [.t (.int .i64 3), .t (.int .i64 0)])] hb4 rfl (fun l hp => by cases l <;> first | rfl | cases hp) (by simp -implicitDefEqProofs +decide only [go_sem]) (by simp -implicitDefEqProofs +decide only [go_sem])) ?_
  apply run_sound 200
  simp -implicitDefEqProofs +decide only [go_sem, hl2, hl3, hl4]
  refine CallG.pool _ Try.call9 c1 hb4 (fun l hp => by cases l <;> first | rfl | cases hp) ?_
  apply run_sound 200
  simp -implicitDefEqProofs +decide only [go_sem, hl4, sI]
  refine CallG.pure _ Try.call13 i1 rfl rfl ?_
  apply run_sound 200
  simp -implicitDefEqProofs +decide only [go_sem, hl4, sI]
  refine CallG.pool _ Try.call9 c2 hb4 (fun l hp => by cases l <;> first | rfl | cases hp) ?_
  apply run_sound 200
  simp -implicitDefEqProofs +decide only [go_sem, hl4, sI]
  refine CallG.pure _ Try.call13 i2 rfl rfl ?_
  apply run_sound 200
  simp -implicitDefEqProofs +decide only [go_sem, hl4, sI]
  refine CallG.pool _ Try.call11 c3 hb4 (fun l hp => by cases l <;> first | rfl | cases hp) ?_
  apply run_sound 200
  simp -implicitDefEqProofs +decide only [go_sem, hl4, sI]
  refine endF.oneH (.inr rfl) (by simp -implicitDefEqProofs +decide only [go_sem]) rfl (fun l hp => by cases l <;> first | rfl | cases hp) rfl
end Go.Fm
