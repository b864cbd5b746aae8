/- The dims of a product, by the reference. -/
import Derived.Test.YtjgkdkbmppaaaaaGreatDimW
import Derived.Test.YtjgkdkbmppaaaaaGreatFmC
set_option linter.unusedVariables false
set_option linter.unusedSimpArgs false
namespace Go.Fm
open Go.Proofs
set_option maxRecDepth 100000
attribute [local irreducible] tiOf

theorem rDims_ok (a b : List Int) (l : List Int) (e : Int) (ha : a.length < 1000000000) (hb : b.length < 1000000000) (hm : mdims a b = (l, e)) :
    Pure Tryz.prog 11 [sI a, sI b] [.t (.slice (l.map I)), .t (.int .i64 e)] := by
  have c1 := rCheck_ok a ha
  have c2 := rCheck_ok b hb
  refine Pure.intro Tryz.func11 rfl (rt := [4, 5]) rfl (by simp [Tryz.ntmps11]) (by decide) (sites := fun _ => false) ?_
  apply run_sound 200
  simp -implicitDefEqProofs +decide only [go_sem, sI]
  refine CallG.pure _ Tryz.call37 (c1) (by first | rfl | (simp only [go_sem]; done) | (simp only [go_sem]; rfl)) (by first | rfl | (simp only [go_sem]; done) | (simp only [go_sem]; rfl)) ?_
  apply run_sound 200
  simp -implicitDefEqProofs +decide only [go_sem]
  refine CallG.pure _ Tryz.call37 (c2) (by first | rfl | (simp only [go_sem]; done) | (simp only [go_sem]; rfl)) (by first | rfl | (simp only [go_sem]; done) | (simp only [go_sem]; rfl)) ?_
  apply run_sound 200
  simp -implicitDefEqProofs +decide only [go_sem]
  refine selP_dec (fun h1 => ?_) (fun h1 => ?_)
  · unfold mdims at hm
    rw [if_pos h1] at hm
    cases hm
    simp -implicitDefEqProofs +decide only [go_sem]
    exact endF.vals [(4, .slice []), (5, .int .i64 (chk a))] (.inr rfl) (vals_n (by simp -implicitDefEqProofs +decide only [go_sem]) (vals_t (by simp -implicitDefEqProofs +decide only [go_sem] <;> rfl) rfl vals_nil)) (fun l hp => by cases l <;> first | rfl | cases hp) rfl
  simp -implicitDefEqProofs +decide only [go_sem]
  refine selP_dec (fun h2 => ?_) (fun h2 => ?_)
  · unfold mdims at hm
    rw [if_neg h1, if_pos h2] at hm
    cases hm
    simp -implicitDefEqProofs +decide only [go_sem]
    exact endF.vals [(4, .slice []), (5, .int .i64 (chk b))] (.inr rfl) (vals_n (by simp -implicitDefEqProofs +decide only [go_sem]) (vals_t (by simp -implicitDefEqProofs +decide only [go_sem] <;> rfl) rfl vals_nil)) (fun l hp => by cases l <;> first | rfl | cases hp) rfl
  have hca := Classical.not_not.1 h1
  have hcb := Classical.not_not.1 h2
  clear c1 c2 h1 h2
  obtain ⟨la, -, -, -⟩ := chk0 hca
  obtain ⟨lb, -, -, -⟩ := chk0 hcb
  rw [mdims_eq hca hcb] at hm
  simp -implicitDefEqProofs +decide only [go_sem]
  have h2a : decide ((a.length : Int) < 2) = decide (a.length < 2) := decide_eq_decide.2 (by omega)
  have h2b : decide ((b.length : Int) < 2) = decide (b.length < 2) := decide_eq_decide.2 (by omega)
  simp -implicitDefEqProofs +decide only [go_sem, h2a, h2b]
  refine selP_dec (fun h1 => ?_) (fun h1 => ?_)
  · rw [if_pos (.inl h1)] at hm
    cases hm
    simp -implicitDefEqProofs +decide only [go_sem]
    exact endF.vals [(4, .slice []), (5, .int .i64 9)] (.inr rfl) (vals_n (by simp -implicitDefEqProofs +decide only [go_sem]) (vals_t (by simp -implicitDefEqProofs +decide only [go_sem] <;> rfl) rfl vals_nil)) (fun l hp => by cases l <;> first | rfl | cases hp) rfl
  simp -implicitDefEqProofs +decide only [go_sem, h2b]
  refine selP_dec (fun h2 => ?_) (fun h2 => ?_)
  · rw [if_pos (.inr h2)] at hm
    cases hm
    simp -implicitDefEqProofs +decide only [go_sem]
    exact endF.vals [(4, .slice []), (5, .int .i64 9)] (.inr rfl) (vals_n (by simp -implicitDefEqProofs +decide only [go_sem]) (vals_t (by simp -implicitDefEqProofs +decide only [go_sem] <;> rfl) rfl vals_nil)) (fun l hp => by cases l <;> first | rfl | cases hp) rfl
  rw [if_neg (by omega)] at hm
  obtain ⟨a1, ha1⟩ := getI (show a.length - 1 < a.length by omega)
  obtain ⟨a2, ha2⟩ := getI (show a.length - 2 < a.length by omega)
  obtain ⟨b1, hb1⟩ := getI (show b.length - 1 < b.length by omega)
  obtain ⟨b2, hb2⟩ := getI (show b.length - 2 < b.length by omega)
  rw [getD_of ha1, getD_of ha2, getD_of hb1, getD_of hb2] at hm
  have wa1 : IntKind.wrap .i64 ((a.length : Int) - 1) = ((a.length - 1 : Nat) : Int) := by rw [w64] <;> omega
  have wa2 : IntKind.wrap .i64 ((a.length : Int) - 2) = ((a.length - 2 : Nat) : Int) := by rw [w64] <;> omega
  have wb1 : IntKind.wrap .i64 ((b.length : Int) - 1) = ((b.length - 1 : Nat) : Int) := by rw [w64] <;> omega
  have wb2 : IntKind.wrap .i64 ((b.length : Int) - 2) = ((b.length - 2 : Nat) : Int) := by rw [w64] <;> omega
  have lta : a.length - 2 ≤ a.length := by omega
  have ltb : b.length - 2 ≤ b.length := by omega
  have hta : List.take (a.length - 2) (a.map I) = (a.take (a.length - 2)).map I := List.map_take.symm
  have htb : List.take (b.length - 2) (b.map I) = (b.take (b.length - 2)).map I := List.map_take.symm
  have hla2 : (a.take (a.length - 2)).length < 1000000000 := by rw [List.length_take]; omega
  have hlb2 : (b.take (b.length - 2)).length < 1000000000 := by rw [List.length_take]; omega
  simp -implicitDefEqProofs +decide only [go_sem]
  refine Goes.drawN mixed ?_
  simp -implicitDefEqProofs +decide only [go_sem, wa1, wb2, ha1, hb2, I, Int.toNat_natCast]
  refine ⟨.mk (by kernel_rfl), ?_⟩
  apply run_sound 200
  simp -implicitDefEqProofs +decide only [go_sem]
  refine selP_dec (fun h3 => ?_) (fun h3 => ?_)
  · rw [if_pos h3] at hm
    cases hm
    simp -implicitDefEqProofs +decide only [go_sem]
    exact endF.vals [(4, .slice []), (5, .int .i64 8)] (.inr rfl) (vals_n (by simp -implicitDefEqProofs +decide only [go_sem]) (vals_t (by simp -implicitDefEqProofs +decide only [go_sem] <;> rfl) rfl vals_nil)) (fun l hp => by cases l <;> first | rfl | cases hp) rfl
  rw [if_neg h3] at hm
  have c1 := rTwo_ok (a.take (a.length - 2)) (b.take (b.length - 2)) (twoS (a.take (a.length - 2)) (b.take (b.length - 2))).1 (twoS (a.take (a.length - 2)) (b.take (b.length - 2))).2 hla2 hlb2 rfl
  have htl := twoS_length (a.take (a.length - 2)) (b.take (b.length - 2))
  unfold rankD at htl
  rw [List.length_take, List.length_take] at htl
  generalize twoS (a.take (a.length - 2)) (b.take (b.length - 2)) = t at hm c1 htl
  obtain ⟨t1, t2⟩ := t
  dsimp only at hm c1 htl
  simp -implicitDefEqProofs +decide only [go_sem]
  refine Goes.drawN mixed ?_
  simp -implicitDefEqProofs +decide only [go_sem, wa2, wb2, lta, ltb, hta, htb, Int.toNat_natCast, List.drop_zero]
  refine CallD.pureS _ Tryz.call38 c1 (by first | rfl | (simp only [go_sem]; done) | (simp only [go_sem]; rfl)) (by first | rfl | (simp only [go_sem]; done) | (simp only [go_sem]; rfl)) ?_
  simp -implicitDefEqProofs +decide only [go_sem]
  refine ⟨.mk (by kernel_rfl), ?_⟩
  apply run_sound 200
  simp -implicitDefEqProofs +decide only [go_sem]
  refine selP_dec (fun h4 => ?_) (fun h4 => ?_)
  · rw [if_pos h4] at hm
    cases hm
    simp -implicitDefEqProofs +decide only [go_sem]
    exact endF.vals [(4, .slice []), (5, .int .i64 e)] (.inr rfl) (vals_n (by simp -implicitDefEqProofs +decide only [go_sem]) (vals_t (by simp -implicitDefEqProofs +decide only [go_sem] <;> rfl) rfl vals_nil)) (fun l hp => by cases l <;> first | rfl | cases hp) rfl
  rw [if_neg h4] at hm
  have hlen0 : t1.length < big := by unfold big; omega
  have hlen : t1.length + 2 < big := by unfold big; omega
  have hap : t1.map I ++ [T.int .i64 a2, T.int .i64 b1] = (t1 ++ [a2, b1]).map I := by rw [List.map_append]; rfl
  have hlo : (t1 ++ [a2, b1]).length = t1.length + 2 := by rw [List.length_append]; rfl
  have c3 := rCheck_ok (t1 ++ [a2, b1]) (by rw [hlo]; omega)
  generalize t1 ++ [a2, b1] = v at hm hap hlo c3
  have htk : List.take (t1.length + 2) (v.map I) = v.map I := List.take_of_length_le (by rw [List.length_map, hlo]; exact Nat.le_refl _)
  simp -implicitDefEqProofs +decide only [go_sem]
  refine Goes.drawN mixed ?_
  simp -implicitDefEqProofs +decide only [go_sem, wa2, wb1, ha2, hb1, I, Int.toNat_natCast, List.length_map, hlen0, hlen, hap, Nat.zero_add]
  refine ⟨.mk (by kernel_rfl), ?_⟩
  apply run_sound 200
  obtain ⟨c, hc⟩ : ∃ c, chk v = c := ⟨_, rfl⟩
  rw [hc] at c3 hm
  simp -implicitDefEqProofs +decide only [go_sem, htk, hap]
  refine CallG.pure _ Tryz.call37 (c3) (by first | rfl | (simp only [go_sem]; done) | (simp only [go_sem]; rfl)) (by first | rfl | (simp only [go_sem]; done) | (simp only [go_sem]; rfl)) ?_
  apply run_sound 200
  simp -implicitDefEqProofs +decide only [go_sem]
  refine selP_dec (fun h5 => ?_) (fun h5 => ?_)
  · rw [if_pos h5] at hm
    cases hm
    simp -implicitDefEqProofs +decide only [go_sem]
    exact endF.vals [(4, .slice []), (5, .int .i64 e)] (.inr rfl) (vals_n (by simp -implicitDefEqProofs +decide only [go_sem]) (vals_t (by simp -implicitDefEqProofs +decide only [go_sem] <;> rfl) rfl vals_nil)) (fun l hp => by cases l <;> first | rfl | cases hp) rfl
  · rw [if_neg h5] at hm
    cases hm
    simp -implicitDefEqProofs +decide only [go_sem]
    exact endF.rowT (.inr rfl) (by simp -implicitDefEqProofs +decide only [go_sem]; rfl) (by simp -implicitDefEqProofs +decide only [go_sem]; rfl) (by rw [List.length_map, hlo]) rfl (by simp -implicitDefEqProofs +decide only [go_sem]) rfl (fun l hp => by cases l <;> first | rfl | cases hp) rfl
end Go.Fm
/- An element of an operand of a product. -/
namespace Go.Fm
open Go.Proofs
set_option maxRecDepth 100000
attribute [local irreducible] tiOf

/-- The place in an operand. -/
def srcAt (d p : List Int) (first : Nat) (row col : Int) : List Int := (List.range (d.length - 2)).map (fun i => if 1 < d.getD i 0 then p.getD (first + i) 0 else 0) ++ [row, col]
def frontG (L : List Int) (k : Nat) : List Int := L.take k ++ List.replicate (L.length - k) 0
theorem frontG_zero (L : List Int) : frontG L 0 = List.replicate L.length 0 := by simp [frontG]
theorem frontG_full (L : List Int) : frontG L L.length = L := by simp [frontG]
theorem frontG_length {L : List Int} {k : Nat} (h : k ≤ L.length) : (frontG L k).length = L.length := by simp [frontG]; omega
theorem frontG_set {L : List Int} {k : Nat} {x : Int} (h : L[k]? = some x) : (frontG L k).set k x = frontG L (k + 1) := by
  have hk := (List.getElem?_eq_some_iff.1 h).1
  unfold frontG
  have e : L.length - k = (L.length - (k + 1)) + 1 := by omega
  have hl : (L.take k).length = k := by rw [List.length_take]; omega
  rw [List.set_append_right k _ (by omega), hl, Nat.sub_self, e, List.replicate_succ, List.take_add_one, h, List.append_assoc]
  rfl
theorem frontG_skip {L : List Int} {k : Nat} (h : L[k]? = some 0) : frontG L k = frontG L (k + 1) := by
  have hk := (List.getElem?_eq_some_iff.1 h).1
  unfold frontG
  have e : L.length - k = (L.length - (k + 1)) + 1 := by omega
  rw [e, List.replicate_succ, List.take_add_one, h, List.append_assoc]
  rfl
theorem srcAt_length {d p : List Int} {f : Nat} {r c : Int} (h : 2 ≤ d.length) : (srcAt d p f r c).length = d.length := by simp [srcAt]; omega
theorem srcAt_get {d p : List Int} {f i : Nat} {r c m x : Int} (h : i < d.length - 2) (hm : d[i]? = some m) (hx : p[f + i]? = some x) : (srcAt d p f r c)[i]? = some (if 1 < m then x else 0) := by
  unfold srcAt
  rw [List.getElem?_append_left (by simpa using h)]
  simp [h, hm, hx]
theorem srcAt_row {d p : List Int} {f : Nat} {r c : Int} : (srcAt d p f r c)[d.length - 2]? = some r := by
  unfold srcAt
  rw [List.getElem?_append_right (by simp)]
  simp
theorem srcAt_col {d p : List Int} {f : Nat} {r c : Int} : (srcAt d p f r c)[d.length - 2 + 1]? = some c := by
  unfold srcAt
  rw [List.getElem?_append_right (by simp)]
  simp

theorem source_ok (d out p : List Int) (r c : Int) (hd : 2 ≤ d.length) (hdo : d.length ≤ out.length) (hob : out.length < 1000000000) (hpl : p.length = out.length) (h : InD d (srcAt d p (out.length - d.length) r c)) :
    Pure Tryz.prog 40 [sI d, sI out, sI p, .int .i64 r, .int .i64 c] [.t (.int .i64 (placeI d (srcAt d p (out.length - d.length) r c)))] := by
  have hsl := srcAt_length (p := p) (f := out.length - d.length) (r := r) (c := c) hd
  have hsg := @srcAt_get d p (out.length - d.length)
  have hsr := @srcAt_row d p (out.length - d.length) r c
  have hsc := @srcAt_col d p (out.length - d.length) r c
  have hsg := fun i m x => @hsg i r c m x
  have c1 := place_ok d _ h
  obtain ⟨L, hL⟩ : ∃ L, srcAt d p (out.length - d.length) r c = L := ⟨_, rfl⟩
  rw [hL] at hsl hsr hsc c1 ⊢
  simp only [hL] at hsg
  have w1 : IntKind.wrap .i64 ((d.length : Int) - 2) = ((d.length - 2 : Nat) : Int) := by rw [w64] <;> omega
  have w2 : IntKind.wrap .i64 ((out.length : Int) - d.length) = ((out.length - d.length : Nat) : Int) := by rw [w64] <;> omega
  have hlb : d.length < big := by unfold big; omega
  have hlb2 : (0 : Int) ≤ d.length := by omega
  have hr0 : List.replicate d.length (T.int .i64 0) = (frontG L 0).map I := by rw [frontG_zero, List.map_replicate, hsl]; rfl
  refine Pure.intro Tryz.func40 rfl (rt := [10]) rfl (by simp [Tryz.ntmps40]) (by decide) (sites := fun _ => false) ?_
  apply run_sound 200
  simp -implicitDefEqProofs +decide only [go_sem, sI, w1, w2, hlb, hlb2, hr0, Int.toNat_natCast]
  refine Goes.loop (X := Nat) (fun i => ⟨ofL [(0, tI d), (2, tI p), (3, .t (.int .i64 r)), (4, .t (.int .i64 c)), (11, .t (.int .i64 ((d.length - 2 : Nat) : Int))), (12, .sl (.loc 22 0) 0 0 d.length), (13, .t (.int .i64 ((out.length - d.length : Nat) : Int))), (28, .t (.int .i64 ((d.length - 2 : Nat) : Int))), (29, .t (.int .i64 i))],
      ofH (fun _ => none) [(.loc 22 0, .arr 1 ((frontG L i).map I) 0 0)], 0⟩) (fun i => i ≤ d.length - 2) (fun i => d.length - 2 - i) 0 ?_ (by omega) ?_
  · refine Wk.rows _ _ (fun _ _ => rfl) rfl rfl ?_ (fun l hp => by cases l <;> first | rfl | cases hp) ?_ ?_
    · simp -implicitDefEqProofs +decide only [go_sem]
    · simp -implicitDefEqProofs +decide only [go_sem, tI, sI] <;> rfl
    · simp -implicitDefEqProofs +decide only [go_sem, tI, sI]
  rintro i hi J hJ
  apply run_sound 200
  simp -implicitDefEqProofs +decide only [go_sem, tI, sI]
  have hfl := frontG_length (L := L) (k := i) (by omega)
  refine selP_dec (fun hc => ?_) (fun hc => ?_)
  · obtain ⟨m, hm⟩ := getI (show i < d.length by omega)
    obtain ⟨x, hx⟩ := getI (show out.length - d.length + i < p.length by omega)
    have hg := hsg i m x (by omega) hm hx
    obtain ⟨z, hz⟩ : ∃ z, ((frontG L i).map I)[i]? = some z := getI (by rw [List.length_map, hfl]; omega)
    have hid : i < d.length := by omega
    have hw := wS (show i < 1000000000000 by omega)
    have hwi : IntKind.wrap .i64 (((out.length - d.length : Nat) : Int) + i) = ((out.length - d.length + i : Nat) : Int) := by rw [w64] <;> omega
    simp -implicitDefEqProofs +decide only [go_sem, hm, I]
    refine selP_dec (fun h1 => ?_) (fun h1 => ?_)
    · rw [if_pos h1] at hg
      have hst : ((frontG L i).map I).set i (.int .i64 x) = (frontG L (i + 1)).map I := by rw [← frontG_set hg, List.map_set]; rfl
      simp -implicitDefEqProofs +decide only [go_sem, hwi, hx, I, hid, ofH, hz, hst, hw, Int.toNat_natCast]
      refine hJ (i + 1) _ (by omega) (by omega) (Wk.rows _ _ (fun _ _ => rfl) rfl rfl ?_ (fun l hp => by cases l <;> first | rfl | cases hp) ?_ ?_)
      · simp -implicitDefEqProofs +decide only [go_sem]
      · simp -implicitDefEqProofs +decide only [go_sem, tI, sI]
      · simp -implicitDefEqProofs +decide only [go_sem, tI, sI]
    · rw [if_neg h1] at hg
      simp -implicitDefEqProofs +decide only [go_sem, hw]
      refine hJ (i + 1) _ (by omega) (by omega) (Wk.rows _ _ (fun _ _ => rfl) rfl rfl ?_ (fun l hp => by cases l <;> first | rfl | cases hp) ?_ ?_)
      · simp -implicitDefEqProofs +decide only [go_sem, ofH, frontG_skip hg]
      · simp -implicitDefEqProofs +decide only [go_sem, tI, sI]
      · simp -implicitDefEqProofs +decide only [go_sem, tI, sI]
  · obtain rfl : i = d.length - 2 := by omega
    have hf2 := frontG_length (L := L) (k := d.length - 2 + 1) (by omega)
    have hst1 : ((frontG L (d.length - 2)).map I).set (d.length - 2) (.int .i64 r) = (frontG L (d.length - 2 + 1)).map I := by rw [← frontG_set hsr, List.map_set]; rfl
    have hfull : frontG L (d.length - 2 + 1 + 1) = L := by rw [show d.length - 2 + 1 + 1 = L.length by omega, frontG_full]
    have hst2 : ((frontG L (d.length - 2 + 1)).map I).set (d.length - 2 + 1) (.int .i64 c) = L.map I := (set_map I _ _ c).trans (by rw [frontG_set hsc, hfull])
    obtain ⟨z1, hz1⟩ : ∃ z, ((frontG L (d.length - 2)).map I)[d.length - 2]? = some z := getI (by rw [List.length_map, hfl]; omega)
    obtain ⟨z2, hz2⟩ : ∃ z, ((frontG L (d.length - 2 + 1)).map I)[d.length - 2 + 1]? = some z := getI (by rw [List.length_map, hf2]; omega)
    have hw := wS (show d.length - 2 < 1000000000000 by omega)
    have hl1 : d.length - 2 < d.length := by omega
    have hl2 : d.length - 2 + 1 < d.length := by omega
    have htk : List.take d.length (L.map I) = L.map I := List.take_of_length_le (by rw [List.length_map, hsl]; exact Nat.le_refl _)
    simp -implicitDefEqProofs +decide only [go_sem, hw, ofH, hl1, hl2, hz1, hz2, hst1, hst2, htk, Int.toNat_natCast]
    refine CallG.pure _ Tryz.call67 (c1) (by first | rfl | (simp only [go_sem]; done) | (simp only [go_sem]; rfl)) (by first | rfl | (simp only [go_sem]; done) | (simp only [go_sem]; rfl)) ?_
    apply run_sound 200
    simp -implicitDefEqProofs +decide only [go_sem]
    exact endF.vals [(10, .int .i64 (placeI d L))] (.inr rfl) (vals_t (by simp -implicitDefEqProofs +decide only [go_sem] <;> rfl) rfl vals_nil) (fun l hp => by cases l <;> first | rfl | cases hp) rfl
end Go.Fm
/- The elements that are multiplied. -/
namespace Go.Fm
open Go.Proofs
set_option maxRecDepth 100000
attribute [local irreducible] tiOf

/-- Dims of which there is a product, and its dims. -/
structure MD (a b out : List Int) : Prop where
  ca : chk a = 0
  cb : chk b = 0
  co : chk out = 0
  la : 2 ≤ a.length
  lb : 2 ≤ b.length
  ab : a[a.length - 1]? = b[b.length - 2]?
  eo : out = spr (a.take (a.length - 2)) (b.take (b.length - 2)) ++ [a.getD (a.length - 2) 0, b.getD (b.length - 1) 0]
  nc : ¬ clash (a.take (a.length - 2)) (b.take (b.length - 2))
theorem mdims_inv {a b out : List Int} (h : mdims a b = (out, 0)) : MD a b out := by
  by_cases ca : chk a = 0
  case neg => unfold mdims at h; rw [if_pos ca] at h; exact absurd (Prod.mk.inj h).2 ca
  by_cases cb : chk b = 0
  case neg => unfold mdims at h; rw [if_neg (fun h => h ca), if_pos cb] at h; exact absurd (Prod.mk.inj h).2 cb
  rw [mdims_eq ca cb] at h
  split at h
  · exact absurd (Prod.mk.inj h).2 (by decide)
  rename_i h2
  split at h
  · exact absurd (Prod.mk.inj h).2 (by decide)
  rename_i h3
  split at h
  · rename_i h4; exact absurd (Prod.mk.inj h).2 h4
  rename_i h4
  split at h
  · rename_i h5; exact absurd (Prod.mk.inj h).2 h5
  rename_i h5
  have h5 := Classical.not_not.1 h5
  have h4 := Classical.not_not.1 h4
  have h3 := Classical.not_not.1 h3
  have e := (Prod.mk.inj h).1
  have htw : ∀ x y : List Int, (twoS x y).2 = 0 → (twoS x y).1 = spr x y ∧ ¬ clash x y := fun x y hz => by
    unfold twoS at hz ⊢
    split at hz
    · rename_i g; exact absurd hz g
    rename_i g1
    split at hz
    · rename_i g; exact absurd hz g
    rename_i g2
    split at hz
    · exact absurd hz (by decide)
    rename_i g3
    split at hz
    · rename_i g; exact absurd hz g
    rename_i g4
    rw [if_neg g1, if_neg g2, if_neg g3, if_neg g4]
    exact ⟨rfl, g3⟩
  obtain ⟨e1, e2⟩ := htw _ _ h4
  rw [e] at h5
  rw [e1] at e
  refine ⟨ca, cb, h5, by omega, by omega, ?_, e.symm, e2⟩
  obtain ⟨x, hx⟩ := getI (show a.length - 1 < a.length by omega)
  obtain ⟨y, hy⟩ := getI (show b.length - 2 < b.length by omega)
  rw [getD_of hx, getD_of hy] at h3
  rw [hx, hy, h3]

theorem sizeD_take {l : List Int} {n k : Nat} (h : n ≤ l.length) (hk : 1 ≤ k) (hkn : k ≤ n) : sizeD (l.take n) k = l.getD (n - k) 0 := by
  unfold sizeD
  have e : (l.take n).length = n := by rw [List.length_take]; omega
  rw [e, if_neg (by omega), List.getD_eq_getElem?_getD, List.getElem?_take_of_lt (by omega), List.getD_eq_getElem?_getD]

namespace MD
variable {a b out : List Int}
theorem rk (h : MD a b out) : rankD (a.take (a.length - 2)) (b.take (b.length - 2)) = max a.length b.length - 2 := by
  have := h.la; have := h.lb
  unfold rankD; rw [List.length_take, List.length_take]; omega
theorem lo (h : MD a b out) : out.length = max a.length b.length := by
  have h1 := h.la; have h2 := h.lb
  rw [h.eo, List.length_append, spr_length, h.rk]
  simp; omega
theorem row (h : MD a b out) : out[out.length - 2]? = a[a.length - 2]? := by
  have h1 := h.la; have h2 := h.lb; have h3 := h.lo
  obtain ⟨x, hx⟩ := getI (show a.length - 2 < a.length by omega)
  rw [hx, h3]
  conv => lhs; rw [h.eo]
  rw [List.getElem?_append_right (by rw [spr_length, h.rk]; exact Nat.le_refl _), spr_length, h.rk, Nat.sub_self, getD_of hx]; rfl
theorem col (h : MD a b out) : out[out.length - 1]? = b[b.length - 1]? := by
  have h1 := h.la; have h2 := h.lb; have h3 := h.lo
  obtain ⟨x, hx⟩ := getI (show b.length - 1 < b.length by omega)
  rw [hx, h3]
  conv => lhs; rw [h.eo]
  rw [List.getElem?_append_right (by rw [spr_length, h.rk]; omega), spr_length, h.rk, show max a.length b.length - 1 - (max a.length b.length - 2) = 1 by omega, getD_of hx]; rfl
theorem inA (h : MD a b out) {i : Nat} {m : Int} (hi : i < a.length - 2) (hm : a[i]? = some m) (h1 : 1 < m) : out[out.length - a.length + i]? = some m := by
  have l1 := h.la; have l2 := h.lb; have l3 := h.lo
  have hr := h.rk
  rw [l3]
  conv => lhs; rw [h.eo]
  rw [List.getElem?_append_left (by rw [spr_length, hr]; omega), spr_get (by rw [hr]; omega), hr]
  have e : max a.length b.length - 2 - (max a.length b.length - a.length + i) = a.length - 2 - i := by omega
  rw [e]
  have ea : sizeD (a.take (a.length - 2)) (a.length - 2 - i) = m := by
    rw [sizeD_take (by omega) (by omega) (by omega), show a.length - 2 - (a.length - 2 - i) = i by omega, getD_of hm]
  have hn := fun hh => h.nc ⟨a.length - 2 - i, by omega, by rw [hr]; omega, hh⟩
  rw [ea] at hn ⊢
  congr 1
  unfold mx
  split
  · rename_i g; exact Classical.byContradiction fun hne => hn ⟨by omega, by omega, by omega⟩
  · rfl
theorem inB (h : MD a b out) {i : Nat} {m : Int} (hi : i < b.length - 2) (hm : b[i]? = some m) (h1 : 1 < m) : out[out.length - b.length + i]? = some m := by
  have l1 := h.la; have l2 := h.lb; have l3 := h.lo
  have hr := h.rk
  rw [l3]
  conv => lhs; rw [h.eo]
  rw [List.getElem?_append_left (by rw [spr_length, hr]; omega), spr_get (by rw [hr]; omega), hr]
  have e : max a.length b.length - 2 - (max a.length b.length - b.length + i) = b.length - 2 - i := by omega
  rw [e]
  have ea : sizeD (b.take (b.length - 2)) (b.length - 2 - i) = m := by
    rw [sizeD_take (by omega) (by omega) (by omega), show b.length - 2 - (b.length - 2 - i) = i by omega, getD_of hm]
  have hn := fun hh => h.nc ⟨b.length - 2 - i, by omega, by rw [hr]; omega, hh⟩
  rw [ea] at hn ⊢
  congr 1
  unfold mx
  split
  · rfl
  · rename_i g
    rcases Int.lt_or_le m (sizeD (a.take (a.length - 2)) (b.length - 2 - i)) with g2 | g2
    · exact Classical.byContradiction fun hne => hn ⟨by omega, by omega, by omega⟩
    · omega
end MD

/-- A place that is in an operand. -/
theorem src_in {d out p : List Int} {r c : Int} (hc : chk d = 0) (hl : 2 ≤ d.length) (hlo : d.length ≤ out.length) (hp : InD out p)
    (hin : ∀ (i : Nat) (m : Int), i < d.length - 2 → d[i]? = some m → 1 < m → out[out.length - d.length + i]? = some m)
    (hr : ∀ m, d[d.length - 2]? = some m → 0 ≤ r ∧ r < m) (hcc : ∀ m, d[d.length - 1]? = some m → 0 ≤ c ∧ c < m) : InD d (srcAt d p (out.length - d.length) r c) := by
  refine ⟨hc, srcAt_length hl, fun i x m hx hm => ?_⟩
  have hi := (List.getElem?_eq_some_iff.1 hm).1
  rcases Nat.lt_or_ge i (d.length - 2) with g | g
  · obtain ⟨y, hy⟩ := getI (show out.length - d.length + i < p.length by rw [hp.l]; omega)
    rw [srcAt_get g hm hy] at hx
    cases hx
    have h1 := (chk0 hc).2.1 m (List.mem_of_getElem? hm)
    split
    · rename_i h
      exact hp.b _ _ _ hy (hin i m g hm h)
    · omega
  · rcases Nat.lt_or_ge i (d.length - 1) with g2 | g2
    · obtain rfl : i = d.length - 2 := by omega
      rw [srcAt_row] at hx
      cases hx
      exact hr m hm
    · obtain rfl : i = d.length - 2 + 1 := by omega
      rw [srcAt_col] at hx
      cases hx
      exact hcc m (by rw [← hm]; congr 1; omega)

/-- The pairs of elements that are multiplied. -/
def pairK (a b out p : List Int) (row col k : Int) : Int × Int := (placeI a (srcAt a p (out.length - a.length) row k), placeI b (srcAt b p (out.length - b.length) k col))
def pairsL (a b out p : List Int) (row col : Int) (n : Nat) : List (Int × Int) := (List.range n).map fun (k : Nat) => pairK a b out p row col (k : Int)
def termsM (a b out : List Int) (n : Int) : List (Int × Int) :=
  pairsL a b out (digL out n) ((digL out n).getD (out.length - 2) 0) ((digL out n).getD (out.length - 1) 0) (a.getD (a.length - 1) 0).toNat
def tP (p : Int × Int) : T := .agg [.int .i64 p.1, .int .i64 p.2]
end Go.Fm
/- The elements that are multiplied, by the program. -/
namespace Go.Fm
open Go.Proofs
set_option maxRecDepth 100000
attribute [local irreducible] tiOf

theorem noPtr_tP (p : Int × Int) : noPtr (tP p) = true := rfl
theorem noPtr_sP (l : List (Int × Int)) : noPtr (.slice (l.map tP)) = true := by
  have : ∀ l : List (Int × Int), noPtrL (l.map tP) = true := fun l => by
    induction l with
    | nil => rfl
    | cons x r ih => rw [List.map_cons, noPtrL, ih, noPtr_tP]; rfl
  rw [noPtr, this]
attribute [go_sem] noPtr_sP List.range_zero Nat.zero_mul Nat.one_mul Nat.mul_one List.set_cons_zero List.set_cons_succ
theorem pairsL_length (a b out p : List Int) (r c : Int) (n : Nat) : (pairsL a b out p r c n).length = n := by simp [pairsL]
theorem pairsL_snoc (a b out p : List Int) (r c : Int) (n : Nat) : (pairsL a b out p r c n).map tP ++ [T.agg [.int .i64 (placeI a (srcAt a p (out.length - a.length) r n)), .int .i64 (placeI b (srcAt b p (out.length - b.length) n c))]] = (pairsL a b out p r c (n + 1)).map tP := by
  simp [pairsL, List.range_succ, tP, pairK]

theorem terms_no (a b : List Int) (n : Int) (l : List Int) (e : Int) (ha : a.length < 1000000000) (hb : b.length < 1000000000) (hm : mdims a b = (l, e)) (hl : l.length < 1000000000) (h : e ≠ 0 ∨ ¬ (0 ≤ n ∧ n < cnt l)) :
    Pure Tryz.prog 12 [sI a, sI b, .int .i64 n] [.t (.slice [])] := by
  have c1 := mdims_ok a b l e ha hb hm
  have c2 := at_ok l n hl
  obtain ⟨q, hq⟩ : ∃ q, (if 0 ≤ n ∧ n < cnt l then digL l n else []) = q := ⟨_, rfl⟩
  rw [hq] at c2
  refine Pure.intro Tryz.func12 rfl (rt := [6]) rfl (by simp [Tryz.ntmps12]) (by decide) (sites := fun _ => false) ?_
  apply run_sound 200
  simp -implicitDefEqProofs +decide only [go_sem, sI]
  refine CallG.pureS _ Tryz.call10 (c1) (by first | rfl | (simp only [go_sem]; done) | (simp only [go_sem]; rfl)) (by first | rfl | (simp only [go_sem]; done) | (simp only [go_sem]; rfl)) ?_
  apply run_sound 200
  simp -implicitDefEqProofs +decide only [go_sem]
  refine CallG.pureS _ Tryz.call39 (c2) (by first | rfl | (simp only [go_sem]; done) | (simp only [go_sem]; rfl)) (by first | rfl | (simp only [go_sem]; done) | (simp only [go_sem]; rfl)) ?_
  apply run_sound 200
  simp -implicitDefEqProofs +decide only [go_sem, sI]
  refine selP_dec (fun h1 => ?_) (fun h1 => ?_)
  · simp -implicitDefEqProofs +decide only [go_sem]
    exact endF.nil (.inr rfl) (by simp -implicitDefEqProofs +decide only [go_sem]) (fun _ _ => rfl) rfl
  · simp -implicitDefEqProofs +decide only [go_sem]
    have h2 : decide (0 ≤ n ∧ n < cnt l) = false := decide_eq_false (by omega)
    simp -implicitDefEqProofs +decide only [go_sem, h2]
    exact endF.nil (.inr rfl) (by simp -implicitDefEqProofs +decide only [go_sem]) (fun _ _ => rfl) rfl

theorem terms_ok (a b out : List Int) (n : Int) (hm : mdims a b = (out, 0)) (hn : 0 ≤ n ∧ n < cnt out) :
    Pure Tryz.prog 12 [sI a, sI b, .int .i64 n] [.t (.slice ((termsM a b out n).map tP))] := by
  have H := mdims_inv hm
  have la6 := (chk0 H.ca).1
  have lb6 := (chk0 H.cb).1
  have lo6 := (chk0 H.co).1
  have l1 := H.la
  have l2 := H.lb
  have l3 := H.lo
  have c1 := mdims_ok a b out 0 (by omega) (by omega) hm
  have c2 := at_ok out n (by omega)
  rw [if_pos hn, decide_eq_true hn] at c2
  have hp := digit_in (n := n) H.co
  have hpl := hp.l
  unfold termsM
  obtain ⟨p, hpe⟩ : ∃ p, digL out n = p := ⟨_, rfl⟩
  rw [hpe] at hp hpl c2 ⊢
  obtain ⟨K, hK⟩ := getI (show a.length - 1 < a.length by omega)
  obtain ⟨rw', hrw⟩ := getI (show out.length - 2 < p.length by omega)
  obtain ⟨cl, hcl⟩ := getI (show out.length - 1 < p.length by omega)
  rw [getD_of hK, getD_of hrw, getD_of hcl]
  have hK1 := (chk0 H.ca).2.1 K (List.mem_of_getElem? hK)
  have hK64 : K ≤ 64 := by
    have h1 := prodL_snoc hK
    have h2 := prodL_le (chk0 H.ca).2.1 (a.length - 1 + 1)
    have h3 := prodL_pos (d := a.take (a.length - 1)) fun y hy => (chk0 H.ca).2.1 y (List.mem_of_mem_take hy)
    have h4 := (chk0 H.ca).2.2.2
    have h5 := Int.mul_le_mul_of_nonneg_right h3 (show 0 ≤ K by omega)
    omega
  have wa : IntKind.wrap .i64 ((a.length : Int) - 1) = ((a.length - 1 : Nat) : Int) := by rw [w64] <;> omega
  have wo1 : IntKind.wrap .i64 ((out.length : Int) - 1) = ((out.length - 1 : Nat) : Int) := by rw [w64] <;> omega
  have wo2 : IntKind.wrap .i64 ((out.length : Int) - 2) = ((out.length - 2 : Nat) : Int) := by rw [w64] <;> omega
  refine Pure.intro Tryz.func12 rfl (rt := [6]) rfl (by simp [Tryz.ntmps12]) (by decide) (sites := fun _ => false) ?_
  apply run_sound 200
  simp -implicitDefEqProofs +decide only [go_sem, sI]
  refine CallG.pureS _ Tryz.call10 (c1) (by first | rfl | (simp only [go_sem]; done) | (simp only [go_sem]; rfl)) (by first | rfl | (simp only [go_sem]; done) | (simp only [go_sem]; rfl)) ?_
  apply run_sound 200
  simp -implicitDefEqProofs +decide only [go_sem]
  refine CallG.pureS _ Tryz.call39 (c2) (by first | rfl | (simp only [go_sem]; done) | (simp only [go_sem]; rfl)) (by first | rfl | (simp only [go_sem]; done) | (simp only [go_sem]; rfl)) ?_
  apply run_sound 200
  simp -implicitDefEqProofs +decide only [go_sem, sI]
  refine Goes.drawN mixed ?_
  simp -implicitDefEqProofs +decide only [go_sem, wo1, wo2, hrw, hcl, I, Int.toNat_natCast]
  refine ⟨.mk (by kernel_rfl), ?_⟩
  apply run_sound 200
  simp -implicitDefEqProofs +decide only [go_sem, wa, hK, I, Int.toNat_natCast]
  refine Goes.wk (Wk.nilRow (d := 13) (lab := .loc 69 0) (size := 2) (by simp -implicitDefEqProofs +decide only [go_sem]) (by simp -implicitDefEqProofs +decide only [go_sem]) rfl (by decide)) ?_
  refine Goes.loop (X := Nat) (fun k => ⟨ofL [(0, tI a), (1, tI b), (7, tI out), (9, tI p), (11, .t (.int .i64 rw')), (12, .t (.int .i64 cl)), (13, .sl (.loc 69 0) k 0 k), (50, .t (.int .i64 K)), (51, .t (.int .i64 k))],
      ofH (fun _ => none) [(.loc 69 0, .arr 2 ((pairsL a b out p rw' cl k).map tP) k 0)], 0⟩) (fun k => k ≤ K.toNat) (fun k => K.toNat - k) 0 ?_ (by omega) ?_
  · refine Wk.rows _ _ (fun _ _ => rfl) rfl rfl ?_ (fun l hp => by cases l <;> first | rfl | cases hp) ?_ ?_
    · simp -implicitDefEqProofs +decide only [go_sem] <;> first | rfl | exact ⟨rfl, rfl⟩
    · simp -implicitDefEqProofs +decide only [go_sem, tI, sI] <;> rfl
    · simp -implicitDefEqProofs +decide only [go_sem, tI, sI]
  rintro k hk J hJ
  apply run_sound 200
  simp -implicitDefEqProofs +decide only [go_sem, tI, sI]
  have hlen := pairsL_length a b out p rw' cl k
  refine selP_dec (fun hc => ?_) (fun hc => ?_)
  · have hkK : (k : Int) < K := hc
    have i1 : InD a (srcAt a p (out.length - a.length) rw' k) := src_in H.ca l1 (by omega) hp (fun i m hi hm h1 => H.inA hi hm h1)
      (fun m hm => hp.b _ _ _ hrw (by rw [H.row]; exact hm)) (fun m hm => by rw [hK] at hm; cases hm; omega)
    have i2 : InD b (srcAt b p (out.length - b.length) k cl) := src_in H.cb l2 (by omega) hp (fun i m hi hm h1 => H.inB hi hm h1)
      (fun m hm => by rw [← H.ab, hK] at hm; cases hm; omega) (fun m hm => hp.b _ _ _ hcl (by rw [H.col]; exact hm))
    have s1 := source_ok a out p rw' k l1 (by omega) (by omega) hpl i1
    have s2 := source_ok b out p k cl l2 (by omega) (by omega) hpl i2
    have hsn := pairsL_snoc a b out p rw' cl k
    have hw := wS (show k < 1000000000000 by omega)
    have hkb : k + 1 < big := by unfold big; omega
    simp -implicitDefEqProofs +decide only [go_sem]
    refine CallG.pure _ Tryz.call40 (s1) (by first | rfl | (simp only [go_sem]; done) | (simp only [go_sem]; rfl)) (by first | rfl | (simp only [go_sem]; done) | (simp only [go_sem]; rfl)) ?_
    apply run_sound 200
    simp -implicitDefEqProofs +decide only [go_sem]
    refine CallG.pure _ Tryz.call40 (s2) (by first | rfl | (simp only [go_sem]; done) | (simp only [go_sem]; rfl)) (by first | rfl | (simp only [go_sem]; done) | (simp only [go_sem]; rfl)) ?_
    apply run_sound 200
    simp -implicitDefEqProofs +decide only [go_sem, ofH, hlen, hkb, hsn, hw]
    refine hJ (k + 1) _ (by omega) (by omega) (Wk.rows _ _ (fun _ _ => rfl) rfl rfl ?_ (fun l hp => by cases l <;> first | rfl | cases hp) ?_ ?_)
    · simp -implicitDefEqProofs +decide only [go_sem]
    · simp -implicitDefEqProofs +decide only [go_sem, tI, sI]
    · simp -implicitDefEqProofs +decide only [go_sem, tI, sI]
  · obtain rfl : k = K.toNat := by omega
    simp -implicitDefEqProofs +decide only [go_sem, ofH]
    exact endF.row1 (.inr rfl) (by simp -implicitDefEqProofs +decide only [go_sem]; rfl) (by simp -implicitDefEqProofs +decide only [go_sem]; rfl) (by rw [List.length_map, hlen]) (by rintro (_ | _ | _ | _ | _) hp <;> first | (cases hp; done) | simp -implicitDefEqProofs +decide only [go_sem]) rfl
end Go.Fm
/- Exact numbers: how long sums and products are; sums of products. -/
namespace Go.Fm
open Go.Proofs
set_option maxRecDepth 100000
attribute [local irreducible] tiOf

theorem QB_mul {r s : Rat} {a b : Nat} (hr : QB r a) (hs : QB s b) : QB (r * s) (a + b) := by
  have h := mul_low r s
  have h1 := congrArg Rt.p h
  have h2 := congrArg Rt.q h
  have p1 := hr.n
  have p2 := hr.d
  have p3 := hs.n
  have p4 := hs.d
  constructor
  · show (wordsOf (r * s).num.natAbs).length ≤ a + b
    have : (qR (r * s)).p = wordsOf (r * s).num.natAbs := rfl
    rw [← this, ← h1]
    unfold lowQ
    refine Nat.le_trans (len_mono (Nat.div_le_self _ _)) (Nat.le_trans (len_prod _ _) ?_)
    have l1 := len_mono (Nat.div_le_self r.num.natAbs (Nat.gcd r.num.natAbs s.den))
    have l2 := len_mono (Nat.div_le_self s.num.natAbs (Nat.gcd s.num.natAbs r.den))
    omega
  · have : (qR (r * s)).q = wordsOf (r * s).den := rfl
    show (wordsOf (r * s).den).length ≤ a + b
    rw [← this, ← h2]
    unfold lowQ
    refine Nat.le_trans (len_mono (Nat.div_le_self _ _)) (Nat.le_trans (len_prod _ _) ?_)
    have l1 := len_mono (Nat.div_le_self r.den (Nat.gcd s.num.natAbs r.den))
    have l2 := len_mono (Nat.div_le_self s.den (Nat.gcd r.num.natAbs s.den))
    omega
theorem QB_add {r s : Rat} {a b : Nat} (hr : QB r a) (hs : QB s b) : QB (r + s) (a + b + 1) := by
  have h := add_low r s
  have h1 := congrArg Rt.p h
  have h2 := congrArg Rt.q h
  have p1 := hr.n
  have p2 := hr.d
  have p3 := hs.n
  have p4 := hs.d
  constructor
  · show (wordsOf (r + s).num.natAbs).length ≤ a + b + 1
    have : (qR (r + s)).p = wordsOf (r + s).num.natAbs := rfl
    rw [← this, ← h1]
    unfold lowQ
    refine Nat.le_trans (len_mono (Nat.div_le_self _ _)) (Nat.le_trans (len_mono (sumQ_le _ _ _ _)) (Nat.le_trans (len_sum _ _) ?_))
    have l1 := len_prod r.num.natAbs s.den
    have l2 := len_prod s.num.natAbs r.den
    omega
  · have : (qR (r + s)).q = wordsOf (r + s).den := rfl
    show (wordsOf (r + s).den).length ≤ a + b + 1
    rw [← this, ← h2]
    unfold lowQ
    refine Nat.le_trans (len_mono (Nat.div_le_self _ _)) (Nat.le_trans (len_prod _ _) ?_)
    omega
theorem QB.mono {r : Rat} {a b : Nat} (h : QB r a) (hab : a ≤ b) : QB r b := ⟨Nat.le_trans h.n hab, Nat.le_trans h.d hab⟩

/-- The sum of the products of some elements. -/
def dotT (xs ys : List Rat) (p : Int × Int) : Rat := xs.getD p.1.toNat 0 * ys.getD p.2.toNat 0
def dotR (xs ys : List Rat) (l : List (Int × Int)) : Rat := l.foldl (fun s p => s + dotT xs ys p) 0
theorem dotR_snoc {xs ys : List Rat} {l : List (Int × Int)} {i : Nat} {p : Int × Int} (h : l[i]? = some p) : dotR xs ys (l.take (i + 1)) = dotR xs ys (l.take i) + dotT xs ys p := by
  unfold dotR
  rw [List.take_add_one, h, Option.toList_some, List.foldl_append]; rfl
theorem dotR_one {xs ys : List Rat} {l : List (Int × Int)} {p : Int × Int} (h : l[0]? = some p) : dotR xs ys (l.take 1) = dotT xs ys p := by
  rw [dotR_snoc h]
  show (0 : Rat) + _ = _
  exact Rat.zero_add _
theorem QB_zero : QB 0 1 := ⟨len_wordsOf (show (0 : Nat) < 18446744073709551616 ^ 1 by decide), len_wordsOf (show (1 : Nat) < 18446744073709551616 ^ 1 by decide)⟩
theorem getD_QB {xs : List Rat} {B : Nat} (h : ∀ r ∈ xs, QB r B) (hB : 1 ≤ B) (i : Nat) : QB (xs.getD i 0) B := by
  rw [List.getD_eq_getElem?_getD]
  cases hx : xs[i]? with
  | none => exact QB_zero.mono hB
  | some x => exact h x (List.mem_of_getElem? hx)
theorem dotT_QB {xs ys : List Rat} {B : Nat} (hx : ∀ r ∈ xs, QB r B) (hy : ∀ r ∈ ys, QB r B) (hB : 1 ≤ B) (p : Int × Int) : QB (dotT xs ys p) (B + B) := QB_mul (getD_QB hx hB _) (getD_QB hy hB _)
theorem dotR_QB {xs ys : List Rat} {B : Nat} (hx : ∀ r ∈ xs, QB r B) (hy : ∀ r ∈ ys, QB r B) (hB : 1 ≤ B) (l : List (Int × Int)) : ∀ i, QB (dotR xs ys (l.take i)) (i * (B + B + 1) + 1)
  | 0 => by rw [List.take_zero, Nat.zero_mul]; exact QB_zero
  | i + 1 => by
    have ih := dotR_QB hx hy hB l i
    rcases hp : l[i]? with _ | p
    · have : l.take (i + 1) = l.take i := by rw [List.take_add_one, hp]; simp
      rw [this]
      exact ih.mono (by rw [Nat.add_mul]; omega)
    · rw [dotR_snoc hp]
      exact (QB_add ih (dotT_QB hx hy hB p)).mono (by rw [Nat.add_mul, Nat.one_mul]; omega)

/-- A row of scalars; an operand. -/
def sV (l : List Rat) : T := .slice (l.map vT)
def argT (d : List Int) (l : List Rat) : T := .agg [sI d, sV l]
/-- The cells of the sum so far: none, before the first product. -/
def sC (k : Nat) (r : Rat) : List AV := if k = 0 then [.t (.bool false), .nil, .nil, .t (.int .u64 0), .t (.int .i64 0)] else [.t (.bool (neg1 r)), .t (sW (wordsOf r.num.natAbs)), .t (sW (wordsOf r.den)), .t (.int .u64 0), .t (.int .i64 0)]
theorem sC_cells (k : Nat) (r : Rat) : ∃ c1 c2 c3 c4 c5, sC k r = [c1, c2, c3, c4, c5] ∧ (0 < k → [c1, c2, c3, c4, c5] = [.t (.bool (neg1 r)), .t (sW (wordsOf r.num.natAbs)), .t (sW (wordsOf r.den)), .t (.int .u64 0), .t (.int .i64 0)]) ∧
    cleanL [c1, c2, c3, c4, c5] = true ∧ okPart c1 = true := by
  unfold sC
  split
  · exact ⟨_, _, _, _, _, rfl, fun h => by omega, rfl, rfl⟩
  · exact ⟨_, _, _, _, _, rfl, fun _ => rfl, rfl, rfl⟩
theorem sC_refs (L : List Lab) (k : Nat) (r : Rat) : refsInL L (sC k r) = true := by
  unfold sC; split <;> rfl
/-- A product's elements. -/
noncomputable def doM (a b out : List Int) (xs ys : List Rat) (n : Nat) : List Rat := (List.range n).map fun (i : Nat) => dotR xs ys (termsM a b out (i : Int))
theorem doM_length (a b out : List Int) (xs ys : List Rat) (n : Nat) : (doM a b out xs ys n).length = n := by simp [doM]
theorem doM_snoc (a b out : List Int) (xs ys : List Rat) (n : Nat) (r : Rat) (h : dotR xs ys (termsM a b out (n : Int)) = r) : (doM a b out xs ys n).map vT ++ [.agg [.bool (neg1 r), sW (wordsOf r.num.natAbs), sW (wordsOf r.den), .int .u64 0, .int .i64 0]] = (doM a b out xs ys (n + 1)).map vT := by
  subst h
  simp [doM, List.range_succ, vT]
end Go.Fm
/- A product, by the program, on exact numbers. -/
namespace Go.Fm
open Go.Proofs
set_option maxRecDepth 100000
attribute [local irreducible] tiOf

/-- Which elements are multiplied: such as there are. -/
theorem termsM_length (a b out : List Int) (n : Int) : (termsM a b out n).length = (a.getD (a.length - 1) 0).toNat := by unfold termsM; rw [pairsL_length]
theorem termsM_get {a b out : List Int} {n : Int} {i : Nat} (hm : mdims a b = (out, 0)) (hn : 0 ≤ n ∧ n < cnt out) (hi : i < (a.getD (a.length - 1) 0).toNat) :
    ∃ q1 q2 : Nat, (termsM a b out n)[i]? = some ((q1 : Int), (q2 : Int)) ∧ (q1 : Int) < cnt a ∧ (q2 : Int) < cnt b := by
  have H := mdims_inv hm
  have l1 := H.la
  have l2 := H.lb
  have l3 := H.lo
  have hp := digit_in (n := n) H.co
  obtain ⟨p, hpe⟩ : ∃ p, digL out n = p := ⟨_, rfl⟩
  unfold termsM pairsL
  rw [hpe] at hp ⊢
  have hpl := hp.l
  obtain ⟨K, hK⟩ := getI (show a.length - 1 < a.length by omega)
  obtain ⟨rw', hrw⟩ := getI (show out.length - 2 < p.length by omega)
  obtain ⟨cl, hcl⟩ := getI (show out.length - 1 < p.length by omega)
  rw [getD_of hK] at hi
  rw [getD_of hK, getD_of hrw, getD_of hcl]
  have hkK : (i : Int) < K := by omega
  have i1 : InD a (srcAt a p (out.length - a.length) rw' i) := src_in H.ca l1 (by omega) hp (fun i m hi hm h1 => H.inA hi hm h1)
    (fun m hm => hp.b _ _ _ hrw (by rw [H.row]; exact hm)) (fun m hm => by rw [hK] at hm; cases hm; omega)
  have i2 : InD b (srcAt b p (out.length - b.length) i cl) := src_in H.cb l2 (by omega) hp (fun i m hi hm h1 => H.inB hi hm h1)
    (fun m hm => by rw [← H.ab, hK] at hm; cases hm; omega) (fun m hm => hp.b _ _ _ hcl (by rw [H.col]; exact hm))
  have b1 := i1.bnd a.length (Nat.le_refl _)
  have b2 := i2.bnd b.length (Nat.le_refl _)
  rw [placeI_take i1.l, List.take_length] at b1
  rw [placeI_take i2.l, List.take_length] at b2
  refine ⟨(placeI a (srcAt a p (out.length - a.length) rw' i)).toNat, (placeI b (srcAt b p (out.length - b.length) i cl)).toNat, ?_, ?_, ?_⟩
  · rw [List.getElem?_map, List.getElem?_range hi, Option.map_some, Int.toNat_of_nonneg b1.1, Int.toNat_of_nonneg b2.1]; rfl
  · rw [Int.toNat_of_nonneg b1.1]; unfold cnt; rw [if_pos H.ca]; exact b1.2
  · rw [Int.toNat_of_nonneg b2.1]; unfold cnt; rw [if_pos H.cb]; exact b2.2
theorem dotT_nat {xs ys : List Rat} {q1 q2 : Nat} {r s : Rat} (h1 : xs[q1]? = some r) (h2 : ys[q2]? = some s) : dotT xs ys ((q1 : Int), (q2 : Int)) = r * s := by
  unfold dotT
  simp [List.getD_eq_getElem?_getD, h1, h2]

def kM (a out : List Int) (k n : Nat) : Nat := k + n * (2 * (a.getD (a.length - 1) 0).toNat - 1)
theorem HCalm.box {h : Heap} {l : Lab} {cs : List AV} (hh : HCalm h) (hc : cleanL cs = true) : HCalm (upd h l (some (.box cs))) := fun l' o ho => by
  by_cases e : l' = l
  · subst e; rw [upd_same] at ho; cases ho; exact .inr hc
  · rw [upd_ne _ _ _ _ e] at ho; exact hh l' o ho
theorem sC_clean (k : Nat) (r : Rat) : cleanL (sC k r) = true := by unfold sC; split <;> rfl
theorem sC_succ (k : Nat) (r : Rat) : sC (k + 1) r = [.t (.bool (neg1 r)), .t (sW (wordsOf r.num.natAbs)), .t (sW (wordsOf r.den)), .t (.int .u64 0), .t (.int .i64 0)] := by unfold sC; rw [if_neg (by omega)]
theorem sC_zero (r : Rat) : sC 0 r = [.t (.bool false), .nil, .nil, .t (.int .u64 0), .t (.int .i64 0)] := by unfold sC; rw [if_pos rfl]
theorem toNat_lit1 : Int.toNat 1 = 1 := rfl
theorem get_pair1 {α : Type} (x y : α) : [x, y][1]? = some y := rfl
theorem ite_dup {α : Type} {c : Prop} [Decidable c] (x y z : α) : (if c then x else if c then y else z) = if c then x else z := by split <;> rfl
theorem wrap01 : IntKind.wrap .i64 (0 + 1) = 1 := by decide
attribute [go_sem] toNat_lit1 get_pair1 ite_dup wrap01
theorem mdo_ok (h : Heap) (m id k : Nat) (a b out : List Int) (xs ys : List Rat) (hb : ∀ l, Lab.pool l = false → h l = none) (hk : h (.obj id) = some (bankO k)) (hkb : k < 100000000)
    (hm : mdims a b = (out, 0)) (hx : (xs.length : Int) = cnt a) (hy : (ys.length : Int) = cnt b) (hqx : ∀ r ∈ xs, QB r 1000) (hqy : ∀ r ∈ ys, QB r 1000) :
    Ret Tryz.prog 17 [.ptr id, argT a xs, argT b ys] h m [.t (sV (doM a b out xs ys (cnt out).toNat))] (upd h (.obj id) (some (bankO (kM a out k (cnt out).toNat)))) m := by
  have hl : ∀ d j, h (.loc d j) = none := fun d j => hb _ rfl
  have H := mdims_inv hm
  have la6 := (chk0 H.ca).1
  have lb6 := (chk0 H.cb).1
  have lo6 := (chk0 H.co).1
  have c1 := mdims_ok a b out 0 (by omega) (by omega) hm
  have c2 := count_ok a (by omega)
  have c3 := count_ok b (by omega)
  have c4 := count_ok out (by omega)
  have c5 := err_ok h m id k hb hk
  have d1 : decide ((xs.length : Int) ≠ cnt a) = false := decide_eq_false (by omega)
  have d2 : decide ((ys.length : Int) ≠ cnt b) = false := decide_eq_false (by omega)
  refine Ret.intro Tryz.func17 rfl (rt := [6]) rfl (by simp [Tryz.ntmps17]) (by decide) (sites := fun _ => false) (bank_hb hb) bank_keeps ?_
  unfold argT
  apply run_sound 200
  simp -implicitDefEqProofs +decide only [go_sem, hl]
  refine CallG.pureS _ Tryz.call10 (c1) (by first | rfl | (simp only [go_sem]; done) | (simp only [go_sem]; rfl)) (by first | rfl | (simp only [go_sem]; done) | (simp only [go_sem]; rfl)) ?_
  apply run_sound 200
  simp -implicitDefEqProofs +decide only [go_sem, hl, sI]
  refine Goes.drawP mixed (Calm.of (by repeat first | exact Clean.und | refine Clean.upd ?_ rfl | refine Clean.upd ?_ (by simp only [cleanA, cleanL, ])) (by repeat first | exact HCalm.none | exact HCalm.hb hb | exact HCalm.hb (bank_hb hb) | refine HCalm.row ?_ | refine HCalm.box ?_ (by first | rfl | (simp only [cleanA, cleanL, ]; done) | assumption))) ?_
  simp -implicitDefEqProofs +decide only [go_sem, hl, sI, sV]
  refine CallD.pure _ Tryz.call45 c2 (by first | rfl | (simp only [go_sem]; done) | (simp only [go_sem]; rfl)) (by first | rfl | (simp only [go_sem]; done) | (simp only [go_sem]; rfl)) ?_
  simp -implicitDefEqProofs +decide only [go_sem, hl, sI, sV, d1]
  refine CallD.pure _ Tryz.call45 c3 (by first | rfl | (simp only [go_sem]; done) | (simp only [go_sem]; rfl)) (by first | rfl | (simp only [go_sem]; done) | (simp only [go_sem]; rfl)) ?_
  simp -implicitDefEqProofs +decide only [go_sem, hl, sI, sV, d2]
  refine CallD.look _ Tryz.call46 c5 rfl hb (by rintro (_ | _ | _ | _ | _) hp <;> first | (cases hp; done) | simp -implicitDefEqProofs +decide only [go_sem, hl]) ?_
  simp -implicitDefEqProofs +decide only [go_sem, hl, sI, sV, hy]
  refine ⟨.mk (by kernel_rfl), ?_⟩
  apply run_sound 200
  simp -implicitDefEqProofs +decide only [go_sem, sI]
  refine CallG.pure _ Tryz.call45 (c4) (by first | rfl | (simp only [go_sem]; done) | (simp only [go_sem]; rfl)) (by first | rfl | (simp only [go_sem]; done) | (simp only [go_sem]; rfl)) ?_
  apply run_sound 200
  simp -implicitDefEqProofs +decide only [go_sem]
  have hup : ∀ c c', upd (upd h (.obj id) (some (bankO c))) (.obj id) (some (bankO c')) = upd h (.obj id) (some (bankO c')) := fun c c' => upd_upd _ _ _ _
  have hu0 : upd h (.obj id) (some (bankO k)) = h := by
    funext l
    by_cases e : l = .obj id
    · subst e; rw [upd_same, hk]
    · rw [upd_ne _ _ _ _ e]
  have k0 : kM a out k 0 = k := by simp [kM]
  obtain ⟨K, hK⟩ : ∃ K, (a.getD (a.length - 1) 0).toNat = K := ⟨_, rfl⟩
  have hK64 : 1 ≤ K ∧ K ≤ 64 := by
    obtain ⟨K', hK'⟩ := getI (show a.length - 1 < a.length by have := H.la; omega)
    rw [getD_of hK'] at hK
    have hK1 := (chk0 H.ca).2.1 K' (List.mem_of_getElem? hK')
    have h1 := prodL_snoc hK'
    have h2 := prodL_le (chk0 H.ca).2.1 (a.length - 1 + 1)
    have h3 := prodL_pos (d := a.take (a.length - 1)) fun y hy => (chk0 H.ca).2.1 y (List.mem_of_mem_take hy)
    have h4 := (chk0 H.ca).2.2.2
    have h5 := Int.mul_le_mul_of_nonneg_right h3 (show 0 ≤ K' by omega)
    omega
  have hcn : 0 ≤ cnt out ∧ cnt out ≤ 64 := by
    have := (chk0 H.co).2.2
    unfold cnt; rw [if_pos H.co]; omega
  have hkm : ∀ n, kM a out k (n + 1) = kM a out k n + (2 * K - 1) := fun n => by unfold kM; rw [hK, Nat.add_mul, Nat.one_mul]; omega
  have hkb2 : ∀ n, n ≤ 64 → kM a out k n < 200000000 := fun n hn => by
    unfold kM
    rw [hK]
    have := Nat.mul_le_mul hn (show 2 * K - 1 ≤ 128 by omega)
    omega
  refine Goes.wk (Wk.nilRow (d := 9) (lab := .loc 90 0) (size := 5) (by simp -implicitDefEqProofs +decide only [go_sem]) (by simp -implicitDefEqProofs +decide only [go_sem, hl]) rfl (by decide)) ?_
  refine Goes.loop (X := Nat) (fun n => ⟨ofL [(0, .t (.ptr id)), (4, .bp (.loc 4 0) 0), (5, .bp (.loc 5 0) 0), (9, .sl (.loc 90 0) n 0 n), (49, .t (.int .i64 (cnt out))), (50, .t (.int .i64 n))],
      ofH (upd h (.obj id) (some (bankO (kM a out k n)))) [(.loc 4 0, .box [.t (sI a), .t (sV xs)]), (.loc 5 0, .box [.t (sI b), .t (sV ys)]), (.loc 90 0, .arr 5 ((doM a b out xs ys n).map vT) n 0)], m⟩) (fun n => n ≤ (cnt out).toNat) (fun n => (cnt out).toNat - n) 0 ?_ (by omega) ?_
  · rw [k0, hu0]
    refine Wk.boxes _ _ hb rfl rfl ?_ (fun l hp => by cases l <;> first | rfl | cases hp) ?_ ?_
    · simp -implicitDefEqProofs +decide only [go_sem, sI, sV] <;> first | rfl | exact ⟨rfl, rfl, rfl⟩
    · simp -implicitDefEqProofs +decide only [go_sem] <;> rfl
    · simp -implicitDefEqProofs +decide only [go_sem]
  rintro n hn J hJ
  apply run_sound 200
  simp -implicitDefEqProofs +decide only [go_sem, ofH, hl]
  refine selP_dec (fun h1 => ?_) (fun h1 => ?_)
  · have c6 := terms_ok a b out n hm ⟨by omega, by omega⟩
    obtain ⟨tm, htm⟩ : ∃ tm, termsM a b out (n : Int) = tm := ⟨_, rfl⟩
    have htl := termsM_length a b out n
    have htg := fun i hi => termsM_get (n := (n : Int)) (i := i) hm ⟨by omega, by omega⟩ hi
    rw [htm] at c6 htl
    simp only [htm, hK] at htg htl
    simp -implicitDefEqProofs +decide only [go_sem, sI, ofH, hl]
    refine CallG.pureS _ Tryz.call12 (c6) (by first | rfl | (simp only [go_sem]; done) | (simp only [go_sem]; rfl)) (by first | rfl | (simp only [go_sem]; done) | (simp only [go_sem]; rfl)) ?_
    apply run_sound 200
    simp -implicitDefEqProofs +decide only [go_sem, htl, List.length_map, hl]
    refine Goes.loop (X := Nat) (fun i => ⟨ofL [(0, .t (.ptr id)), (4, .bp (.loc 4 0) 0), (5, .bp (.loc 5 0) 0), (9, .sl (.loc 90 0) n 0 n), (10, .t (.int .i64 n)), (11, .bp (.loc 11 0) 0), (49, .t (.int .i64 (cnt out))), (50, .t (.int .i64 n)), (58, .t (.slice (tm.map tP))), (59, .t (.int .i64 K)), (60, .t (.int .i64 i))],
        ofH (upd h (.obj id) (some (bankO (kM a out k n + (2 * i - 1))))) [(.loc 4 0, .box [.t (sI a), .t (sV xs)]), (.loc 5 0, .box [.t (sI b), .t (sV ys)]), (.loc 90 0, .arr 5 ((doM a b out xs ys n).map vT) n 0), (.loc 11 0, .box (sC i (dotR xs ys (tm.take i))))], m⟩) (fun i => i ≤ K) (fun i => K - i) 0 ?_ (by omega) ?_
    · refine Wk.boxes _ _ (bank_hb hb) rfl ?_ ?_ (fun l hp => by cases l <;> first | rfl | cases hp) ?_ ?_
      · simp [Lab.pool, sC, refsInL, refsIn]
      · simp -implicitDefEqProofs +decide only [go_sem, ofH, sC, sI, sV] <;> rfl
      · simp -implicitDefEqProofs +decide only [go_sem]
      · simp -implicitDefEqProofs +decide only [go_sem]
    rintro i hi J2 hJ2
    apply run_sound 200
    simp -implicitDefEqProofs +decide only [go_sem, ofH]
    refine selP_dec (fun h2 => ?_) (fun h2 => ?_)
    · obtain ⟨q1, q2, hq, hq1, hq2⟩ := htg i (by omega)
      obtain ⟨r, hr⟩ := getI (show q1 < xs.length by omega)
      obtain ⟨s, hs⟩ := getI (show q2 < ys.length by omega)
      simp -implicitDefEqProofs +decide only [go_sem, ofH, hq, tP, hl]
      have hbc := hkb2 n (by omega)
      have hQr := hqx r (List.mem_of_getElem? hr)
      have hQs := hqy s (List.mem_of_getElem? hs)
      obtain ⟨c, hc⟩ : ∃ c, kM a out k n + (2 * i - 1) = c := ⟨_, rfl⟩
      have hclean := sC_clean i (dotR xs ys (tm.take i))
      have cm := bankMul_ok (upd h (.obj id) (some (bankO c))) m id c r s (bank_hb hb) (upd_same _ _ _) (by omega) (hQr.mono (by decide)) (hQs.mono (by decide))
      rw [hup] at cm
      simp only [vT_eq] at cm
      rw [hc]
      refine Goes.drawP mixed (Calm.of (by repeat first | exact Clean.und | refine Clean.upd ?_ rfl | refine Clean.upd ?_ (by simp only [cleanA, cleanL, ])) (by repeat first | exact HCalm.none | exact HCalm.hb hb | exact HCalm.hb (bank_hb hb) | refine HCalm.row ?_ | refine HCalm.box ?_ (by first | rfl | (simp only [cleanA, cleanL, ]; done) | assumption))) ?_
      simp -implicitDefEqProofs +decide only [go_sem, hr, hs, sI, sV, vT_eq, Int.toNat_natCast, hl]
      refine CallD.pool _ [(.obj id, bankO (c + 1))] Tryz.call47 cm rfl (bank_hb hb) (by rintro (_ | _ | _ | _ | _) hp <;> first | (cases hp; done) | simp -implicitDefEqProofs +decide only [go_sem]) (fun l _ => (congrFun (hup c (c + 1)) l).symm) rfl ?_
      simp -implicitDefEqProofs +decide only [go_sem, hup, hl]
      refine ⟨.mk (by kernel_rfl), ?_⟩
      apply run_sound 200
      have hdec : decide ((i : Int) > 0) = decide (0 < i) := decide_eq_decide.2 (by omega)
      have hw := wS (show i < 1000000000000 by omega)
      simp -implicitDefEqProofs +decide only [go_sem, hdec]
      refine selP_dec (fun h3 => ?_) (fun h3 => ?_)
      · obtain ⟨j, rfl⟩ : ∃ j, i = j + 1 := ⟨i - 1, by omega⟩
        have hQd := dotR_QB hqx hqy (by decide) tm (j + 1)
        have ca := bankAdd_ok (upd h (.obj id) (some (bankO (c + 1)))) m id (c + 1) (dotR xs ys (tm.take (j + 1))) (r * s) (bank_hb hb) (upd_same _ _ _) (by omega) (hQd.mono (by omega)) ((QB_mul hQr hQs).mono (by decide))
        rw [hup, ← dotT_nat hr hs, ← dotR_snoc hq] at ca
        simp only [vT_eq] at ca
        have hsC := sC_succ j (dotR xs ys (tm.take (j + 1)))
        simp -implicitDefEqProofs +decide only [go_sem, hsC]
        rw [← dotT_nat hr hs]
        refine CallG.pool _ Tryz.call48 ca (bank_hb hb) (by rintro (_ | _ | _ | _ | _) hp <;> first | (cases hp; done) | simp -implicitDefEqProofs +decide only [go_sem, hup]) ?_
        apply run_sound 200
        have ec : c + 1 + 1 = kM a out k n + (2 * (j + 1 + 1) - 1) := by omega
        simp -implicitDefEqProofs +decide only [go_sem, hw, ec]
        refine hJ2 (j + 1 + 1) _ (by omega) (by omega) (Wk.boxes _ _ (bank_hb hb) rfl ?_ ?_ (fun l hp => by cases l <;> first | rfl | cases hp) ?_ ?_)
        · simp [Lab.pool, sC, refsInL, refsIn]
        · simp -implicitDefEqProofs +decide only [go_sem, ofH, sC_succ, sI, sV] <;> rfl
        · simp -implicitDefEqProofs +decide only [go_sem]
        · simp -implicitDefEqProofs +decide only [go_sem]
      · obtain rfl : i = 0 := by omega
        simp -implicitDefEqProofs +decide only [go_sem, sC_zero]
        have ec : c + 1 = kM a out k n + (2 * (0 + 1) - 1) := by omega
        have ed : dotR xs ys (tm.take (0 + 1)) = r * s := by rw [dotR_one hq, dotT_nat hr hs]
        simp -implicitDefEqProofs +decide only [go_sem, hw, ec]
        refine hJ2 (0 + 1) _ (by omega) (by omega) (Wk.boxes _ _ (bank_hb hb) rfl ?_ ?_ (by rintro (_ | _ | _ | _ | _) hp <;> first | (cases hp; done) | simp -implicitDefEqProofs +decide only [go_sem, ec]) ?_ ?_)
        · simp [Lab.pool, sC, refsInL, refsIn]
        · simp -implicitDefEqProofs +decide only [go_sem, ofH, sC_succ, sI, sV, ed] <;> rfl
        · simp -implicitDefEqProofs +decide only [go_sem]
        · simp -implicitDefEqProofs +decide only [go_sem]
    · obtain rfl : i = K := by omega
      have htk : tm.take i = tm := List.take_of_length_le (by omega)
      obtain ⟨j, rfl⟩ : ∃ j, i = j + 1 := ⟨i - 1, by omega⟩
      have hw := wS (show n < 1000000000000 by omega)
      have hlen := doM_length a b out xs ys n
      have hbig : n + 1 < big := by unfold big; omega
      have hsn := doM_snoc a b out xs ys n (dotR xs ys tm) (by rw [htm])
      have hkk : kM a out k n + (2 * (j + 1) - 1) = kM a out k (n + 1) := (hkm n).symm
      rw [htk, hkk]
      simp -implicitDefEqProofs +decide only [go_sem, sC_succ, hl, hlen, List.length_map, hbig, hsn, hw]
      refine hJ (n + 1) _ (by omega) (by omega) (Wk.boxes _ _ (bank_hb hb) rfl rfl ?_ (fun l hp => by cases l <;> first | rfl | cases hp) ?_ ?_)
      · simp -implicitDefEqProofs +decide only [go_sem, ofH, sI, sV] <;> rfl
      · simp -implicitDefEqProofs +decide only [go_sem]
      · simp -implicitDefEqProofs +decide only [go_sem]
  · obtain rfl : n = (cnt out).toNat := by omega
    simp -implicitDefEqProofs +decide only [go_sem]
    have hlen := doM_length a b out xs ys (cnt out).toNat
    exact endF.row1 (.inr rfl) (by simp -implicitDefEqProofs +decide only [go_sem]; rfl) (by simp -implicitDefEqProofs +decide only [go_sem]; rfl) (by rw [List.length_map, hlen]) (by rintro (_ | _ | _ | _ | _) hp <;> first | (cases hp; done) | simp -implicitDefEqProofs +decide only [go_sem]) rfl
end Go.Fm
/- Products of matrices as sums: turned, and of a sum. -/
namespace Go.Fm
open Go.Proofs
set_option maxRecDepth 100000

theorem foldl_add_congr {α β : Type} {f : α → Rat} {g : β → Rat} : ∀ (l : List α) (k : List β) (s : Rat), l.map f = k.map g → l.foldl (fun s p => s + f p) s = k.foldl (fun s p => s + g p) s
  | [], [], _, _ => rfl
  | x :: l, y :: k, s, h => by
    rw [List.map_cons, List.map_cons, List.cons.injEq] at h
    rw [List.foldl_cons, List.foldl_cons, h.1]
    exact foldl_add_congr l k _ h.2
  | [], y :: k, _, h => by simp at h
  | x :: l, [], _, h => by simp at h
theorem dotR_congr {xs ys xs' ys' : List Rat} {l l' : List (Int × Int)} (h : l.map (dotT xs ys) = l'.map (dotT xs' ys')) : dotR xs ys l = dotR xs' ys' l' :=
  foldl_add_congr l l' 0 h

/-- Sums, one by one. -/
def addL (ys zs : List Rat) : List Rat := List.zipWith (· + ·) ys zs
theorem addL_length {ys zs : List Rat} (h : zs.length = ys.length) : (addL ys zs).length = ys.length := by simp [addL, h]
theorem addL_get {ys zs : List Rat} {i : Nat} {y z : Rat} (hy : ys[i]? = some y) (hz : zs[i]? = some z) : (addL ys zs)[i]? = some (y + z) := by
  simp [addL, List.getElem?_zipWith, hy, hz]
theorem addL_getD {ys zs : List Rat} (h : zs.length = ys.length) (i : Nat) : (addL ys zs).getD i 0 = ys.getD i 0 + zs.getD i 0 := by
  rw [List.getD_eq_getElem?_getD, List.getD_eq_getElem?_getD, List.getD_eq_getElem?_getD]
  rcases Nat.lt_or_ge i ys.length with g | g
  · rw [addL_get (List.getElem?_eq_getElem g) (List.getElem?_eq_getElem (h.symm ▸ g)), List.getElem?_eq_getElem g, List.getElem?_eq_getElem (h.symm ▸ g)]
    rfl
  · rw [List.getElem?_eq_none g, List.getElem?_eq_none (show zs.length ≤ i by omega), List.getElem?_eq_none (show (addL ys zs).length ≤ i by rw [addL_length h]; exact g)]
    exact (Rat.add_zero 0).symm
theorem dotT_addL {xs ys zs : List Rat} (h : zs.length = ys.length) (p : Int × Int) : dotT xs (addL ys zs) p = dotT xs ys p + dotT xs zs p := by
  unfold dotT
  rw [addL_getD h, Rat.mul_add]
theorem foldl_add_two {α : Type} (f g : α → Rat) : ∀ (l : List α) (s t : Rat), l.foldl (fun u p => u + (f p + g p)) (s + t) = l.foldl (fun u p => u + f p) s + l.foldl (fun u p => u + g p) t
  | [], _, _ => rfl
  | x :: l, s, t => by
    rw [List.foldl_cons, List.foldl_cons, List.foldl_cons, ← foldl_add_two f g l]
    congr 1
    rw [Rat.add_assoc, Rat.add_assoc, ← Rat.add_assoc t, Rat.add_comm t, Rat.add_assoc]
theorem dotR_addL {xs ys zs : List Rat} (h : zs.length = ys.length) (l : List (Int × Int)) : dotR xs (addL ys zs) l = dotR xs ys l + dotR xs zs l := by
  have e : (0 : Rat) + 0 = 0 := Rat.add_zero 0
  unfold dotR
  rw [← foldl_add_two, e]
  congr 1
  funext s p
  rw [dotT_addL h]
theorem addL_map {α : Type} (f g : α → Rat) : ∀ l : List α, addL (l.map f) (l.map g) = l.map fun i => f i + g i
  | [] => rfl
  | x :: l => by
    have := addL_map f g l
    unfold addL at this ⊢
    rw [List.map_cons, List.map_cons, List.zipWith_cons_cons, this, List.map_cons]
theorem doM_addL (a b out : List Int) {xs ys zs : List Rat} (h : zs.length = ys.length) (n : Nat) : addL (doM a b out xs ys n) (doM a b out xs zs n) = doM a b out xs (addL ys zs) n := by
  unfold doM
  rw [addL_map]
  refine List.map_congr_left fun i _ => ?_
  rw [dotR_addL h]

/-- A matrix turned. -/
def turnR (n m : Nat) (xs : List Rat) : List Rat := (List.range (m * n)).map fun t => xs.getD (t % n * m + t / n) 0
theorem turnR_length (n m : Nat) (xs : List Rat) : (turnR n m xs).length = m * n := by simp [turnR]
theorem turnR_getD {n m t : Nat} (xs : List Rat) (h : t < m * n) : (turnR n m xs).getD t 0 = xs.getD (t % n * m + t / n) 0 := by
  simp [turnR, List.getD_eq_getElem?_getD, h]

theorem srcAt2 (n k : Int) (p : List Int) (r c : Int) (f : Nat) : placeI [n, k] (srcAt [n, k] p f r c) = r * k + c := by
  simp [srcAt, placeI]
theorem digL2 (n m : Nat) (t : Nat) (hm : 0 < m) (hn : 0 < n) (ht : t < n * m) : digL [(n : Int), (m : Int)] (t : Int) = [((t / m : Nat) : Int), ((t % m : Nat) : Int)] := by
  have h1 : t / m < n := Nat.div_lt_of_lt_mul (by rw [Nat.mul_comm]; exact ht)
  have h2 : ((t : Int) / (m : Int)) % (n : Int) = (t : Int) / (m : Int) := by
    rw [← Int.natCast_ediv, ← Int.natCast_emod, Nat.mod_eq_of_lt h1]
  simp [digL, digit, List.range_succ, prodL, h2]
theorem termsM2 (n K m : Nat) (t : Nat) (hm : 0 < m) (hn : 0 < n) (ht : t < n * m) :
    termsM [(n : Int), (K : Int)] [(K : Int), (m : Int)] [(n : Int), (m : Int)] (t : Int) = (List.range K).map fun (k : Nat) => ((((t / m) * K + k : Nat) : Int), ((k * m + t % m : Nat) : Int)) := by
  unfold termsM pairsL
  rw [digL2 n m t hm hn ht]
  show List.map _ (List.range ((K : Int)).toNat) = _
  rw [Int.toNat_natCast]
  refine List.map_congr_left fun k _ => ?_
  unfold pairK
  rw [srcAt2, srcAt2]
  simp
/-- A product of matrices that are turned. -/
theorem turn_prod (n K m : Nat) (xs ys : List Rat) (hm : 0 < m) (hn : 0 < n) :
    turnR n m (doM [(n : Int), (K : Int)] [(K : Int), (m : Int)] [(n : Int), (m : Int)] xs ys (n * m)) = doM [(m : Int), (K : Int)] [(K : Int), (n : Int)] [(m : Int), (n : Int)] (turnR K m ys) (turnR n K xs) (m * n) := by
  unfold turnR
  conv => rhs; unfold doM
  refine List.map_congr_left fun t ht => ?_
  have ht := List.mem_range.1 ht
  have h1 : t / n < m := Nat.div_lt_of_lt_mul (by rw [Nat.mul_comm]; exact ht)
  have h2 : t % n < n := Nat.mod_lt _ hn
  have h3 : t % n * m + t / n < n * m := by
    have := Nat.mul_le_mul_right m (show t % n + 1 ≤ n by omega)
    rw [Nat.add_mul, Nat.one_mul] at this
    omega
  have h4 : (t % n * m + t / n) / m = t % n := by rw [Nat.mul_comm, Nat.mul_add_div hm, Nat.div_eq_of_lt h1]; rfl
  have h5 : (t % n * m + t / n) % m = t / n := by rw [Nat.mul_comm, Nat.mul_add_mod, Nat.mod_eq_of_lt h1]
  have e : (doM [(n : Int), (K : Int)] [(K : Int), (m : Int)] [(n : Int), (m : Int)] xs ys (n * m)).getD (t % n * m + t / n) 0 = dotR xs ys (termsM [(n : Int), (K : Int)] [(K : Int), (m : Int)] [(n : Int), (m : Int)] ((t % n * m + t / n : Nat) : Int)) := by
    simp only [doM, List.getD_eq_getElem?_getD, List.getElem?_map, List.getElem?_range h3, Option.map_some, Option.getD_some]
  rw [e, termsM2 n K m _ hm hn h3, termsM2 m K n t hn hm ht, h4, h5]
  apply dotR_congr
  rw [List.map_map, List.map_map]
  refine List.map_congr_left fun k hk => ?_
  have hk := List.mem_range.1 hk
  have k1 : (t / n * K + k) % K = k := by rw [Nat.mul_comm, Nat.mul_add_mod, Nat.mod_eq_of_lt hk]
  have k2 : (t / n * K + k) / K = t / n := by rw [Nat.mul_comm, Nat.mul_add_div (by omega), Nat.div_eq_of_lt hk]; rfl
  have k3 : (k * n + t % n) % n = t % n := by rw [Nat.mul_comm, Nat.mul_add_mod, Nat.mod_eq_of_lt h2]
  have k4 : (k * n + t % n) / n = k := by rw [Nat.mul_comm, Nat.mul_add_div hn, Nat.div_eq_of_lt h2]; rfl
  have b1 : t / n * K + k < m * K := by
    have := Nat.mul_le_mul_right K (show t / n + 1 ≤ m by omega)
    rw [Nat.add_mul, Nat.one_mul] at this
    omega
  have b2 : k * n + t % n < K * n := by
    have := Nat.mul_le_mul_right n (show k + 1 ≤ K by omega)
    rw [Nat.add_mul, Nat.one_mul] at this
    omega
  have e1 := turnR_getD (n := K) (m := m) ys b1
  have e2 := turnR_getD (n := n) (m := K) xs b2
  rw [k1, k2] at e1
  rw [k3, k4] at e2
  unfold turnR at e1 e2
  simp only [Function.comp, dotT, Int.toNat_natCast]
  rw [e1, e2, Rat.mul_comm]
end Go.Fm
/- All places, in order. -/
namespace Go.Fm
open Go.Proofs
set_option maxRecDepth 100000

theorem prodL_nil : prodL [] = 1 := rfl
theorem prodL_one (x : Int) : prodL [x] = x := by simp [prodL]
theorem digL_snoc {d : List Int} {m k x : Int} (hx0 : 0 ≤ x) (hx : x < m) (hk0 : 0 ≤ k) (hk : k < prodL d) (hd : ∀ y ∈ d, 1 ≤ y) : digL (d ++ [m]) (k * m + x) = digL d k ++ [x] := by
  have hm : 0 < m := by omega
  have h1 : (k * m + x) / m = k := by
    rw [Int.mul_comm, Int.mul_add_ediv_left _ _ (by omega), Int.ediv_eq_zero_of_lt hx0 hx, Int.add_zero]
  have h2 : (k * m + x) % m = x := by
    rw [Int.mul_comm, Int.mul_add_emod_self_left, Int.emod_eq_of_lt hx0 hx]
  unfold digL
  rw [List.length_append, List.length_singleton, List.range_succ, List.map_append]
  congr 1
  · refine List.map_congr_left fun i hi => ?_
    have hi := List.mem_range.1 hi
    unfold digit
    have e1 : (d ++ [m]).drop (i + 1) = d.drop (i + 1) ++ [m] := List.drop_append_of_le_length (by omega)
    have e2 : (d ++ [m]).getD i 0 = d.getD i 0 := by
      rw [List.getD_eq_getElem?_getD, List.getElem?_append_left hi, List.getD_eq_getElem?_getD]
    rw [e1, e2, prodL_append, prodL_one, Int.mul_comm (prodL _) m, ← Int.ediv_ediv_of_nonneg (by omega), h1]
  · unfold digit
    have e1 : (d ++ [m]).drop (d.length + 1) = [] := List.drop_of_length_le (by simp)
    have e2 : (d ++ [m]).getD d.length 0 = m := by
      rw [List.getD_eq_getElem?_getD, List.getElem?_append_right (Nat.le_refl _), Nat.sub_self]; rfl
    show [(k * m + x) / prodL ((d ++ [m]).drop (d.length + 1)) % (d ++ [m]).getD d.length 0] = [x]
    rw [e1, e2, prodL_nil, Int.ediv_one, h2]
/-- All places: n of them. -/
def allD (d : List Int) (n : Nat) : List (List Int) := (List.range n).map fun (k : Nat) => digL d (k : Int)
theorem allD_length (d : List Int) (n : Nat) : (allD d n).length = n := by simp [allD]
theorem allD_get {d : List Int} {n k : Nat} (h : k < n) : (allD d n)[k]? = some (digL d (k : Int)) := by simp [allD, h]
theorem allD_snoc (d : List Int) (n : Nat) : allD d n ++ [digL d (n : Int)] = allD d (n + 1) := by simp [allD, List.range_succ]
theorem allD_zero (d : List Int) : allD d 0 = [] := rfl
theorem allD_nil : allD [] 1 = [[]] := rfl
theorem digL_take {d : List Int} {i : Nat} {m : Int} (h : d[i]? = some m) {k x : Int} (hx0 : 0 ≤ x) (hx : x < m) (hk0 : 0 ≤ k) (hk : k < prodL (d.take i)) (hd : ∀ y ∈ d, 1 ≤ y) :
    digL (d.take i) k ++ [x] = digL (d.take (i + 1)) (k * m + x) := by
  rw [List.take_add_one, h, Option.toList_some, digL_snoc hx0 hx hk0 hk fun y hy => hd y (List.mem_of_mem_take hy)]
end Go.Fm
/- What is spread, in numbers. -/
namespace Go.Fm
open Go.Proofs
set_option maxRecDepth 100000

theorem mx_le1 (x y : Int) : x ≤ mx x y := by unfold mx; split <;> omega
theorem mx_le2 (x y : Int) : y ≤ mx x y := by unfold mx; split <;> omega
theorem mx_cases (x y : Int) : mx x y = x ∨ mx x y = y := by unfold mx; split <;> simp
theorem mx_of_le {x y : Int} (h : x ≤ y) : mx x y = y := by unfold mx; split <;> omega
theorem sizeD_spr {a b : List Int} {k : Nat} (h1 : 1 ≤ k) (h2 : k ≤ rankD a b) : sizeD (spr a b) k = mx (sizeD a k) (sizeD b k) := by
  unfold sizeD
  rw [spr_length, if_neg (by omega), List.getD_eq_getElem?_getD, spr_get (by omega), show rankD a b - (rankD a b - k) = k by omega]
  rfl
theorem rankD_spr1 (a b : List Int) : rankD a (spr a b) = rankD a b := by
  show max a.length (spr a b).length = _
  rw [spr_length]; unfold rankD; omega
theorem rankD_spr2 (a b : List Int) : rankD b (spr a b) = rankD a b := by
  show max b.length (spr a b).length = _
  rw [spr_length]; unfold rankD; omega
theorem spr_ext {x s : List Int} (hl : rankD x s = s.length) (h : ∀ k, 1 ≤ k → k ≤ s.length → mx (sizeD x k) (sizeD s k) = sizeD s k) : spr x s = s := by
  apply List.ext_getElem?
  intro i
  rcases Nat.lt_or_ge i s.length with g | g
  · rw [spr_get (by omega), hl, h _ (by omega) (by omega)]
    obtain ⟨y, hy⟩ := getI g
    rw [hy]
    unfold sizeD
    rw [if_neg (by omega), show s.length - (s.length - i) = i by omega, getD_of hy]
  · rw [List.getElem?_eq_none g, List.getElem?_eq_none (by rw [spr_length]; omega)]
theorem spr_idem1 {a b : List Int} (hn : ¬ clash a b) : ¬ clash a (spr a b) ∧ spr a (spr a b) = spr a b := by
  constructor
  · rintro ⟨k, h1, h2, h3, h4, h5⟩
    rw [rankD_spr1] at h2
    rw [sizeD_spr h1 h2] at h3 h5
    rcases mx_cases (sizeD a k) (sizeD b k) with h | h
    · exact h3 h.symm
    · rw [h] at h3 h5
      exact hn ⟨k, h1, h2, h3, h4, h5⟩
  · refine spr_ext (by rw [rankD_spr1, spr_length]) fun k h1 h2 => ?_
    rw [spr_length] at h2
    rw [sizeD_spr h1 h2]
    exact mx_of_le (mx_le1 _ _)
theorem spr_idem2 {a b : List Int} (hn : ¬ clash a b) : ¬ clash b (spr a b) ∧ spr b (spr a b) = spr a b := by
  constructor
  · rintro ⟨k, h1, h2, h3, h4, h5⟩
    rw [rankD_spr2] at h2
    rw [sizeD_spr h1 h2] at h3 h5
    rcases mx_cases (sizeD a k) (sizeD b k) with h | h
    · rw [h] at h3 h5
      exact hn ⟨k, h1, h2, fun e => h3 e.symm, h5, h4⟩
    · exact h3 h.symm
  · refine spr_ext (by rw [rankD_spr2, spr_length]) fun k h1 h2 => ?_
    rw [spr_length] at h2
    rw [sizeD_spr h1 h2]
    exact mx_of_le (mx_le2 _ _)

/-- Dims that can be spread to others. -/
structure FitD (f t : List Int) : Prop where
  cf : chk f = 0
  ct : chk t = 0
  l : f.length ≤ t.length
  e : ∀ (i : Nat) (x : Int), f[i]? = some x → x ≠ 1 → t[t.length - f.length + i]? = some x
theorem twoS_fit {f t : List Int} (h : twoS f t = (t, 0)) : FitD f t := by
  by_cases cf : chk f = 0
  case neg => unfold twoS at h; rw [if_pos cf] at h; exact absurd (Prod.mk.inj h).2 cf
  by_cases ct : chk t = 0
  case neg => unfold twoS at h; rw [if_neg (fun h => h cf), if_pos ct] at h; exact absurd (Prod.mk.inj h).2 ct
  rw [twoS_eq cf ct] at h
  split at h
  · exact absurd (Prod.mk.inj h).2 (by decide)
  rename_i h1
  split at h
  · rename_i h2; exact absurd (Prod.mk.inj h).2 h2
  have e := (Prod.mk.inj h).1
  have hl := congrArg List.length e
  rw [spr_length] at hl
  have hl2 : f.length ≤ t.length := by unfold rankD at hl; omega
  refine ⟨cf, ct, hl2, fun i x hx h1x => ?_⟩
  have hi := (List.getElem?_eq_some_iff.1 hx).1
  obtain ⟨y, hy⟩ := getI (show t.length - f.length + i < t.length by omega)
  have hk : sizeD (spr f t) (f.length - i) = sizeD t (f.length - i) := by rw [e]
  rw [sizeD_spr (by omega) (by omega)] at hk
  have hf : sizeD f (f.length - i) = x := by unfold sizeD; rw [if_neg (by omega), show f.length - (f.length - i) = i by omega, getD_of hx]
  have ht : sizeD t (f.length - i) = y := by unfold sizeD; rw [if_neg (by omega), show t.length - (f.length - i) = t.length - f.length + i by omega, getD_of hy]
  rw [hf, ht] at hk
  rw [hy]
  have hx1 := (chk0 cf).2.1 x (List.mem_of_getElem? hx)
  by_cases hxy : x = y
  · rw [hxy]
  · exfalso
    refine h1 ⟨f.length - i, by omega, by omega, by rw [hf, ht]; exact hxy, by rw [hf]; exact h1x, ?_⟩
    rw [ht]
    intro h
    rw [h] at hk
    unfold mx at hk
    split at hk <;> omega
theorem fit_twoS {f t : List Int} (cf : chk f = 0) (ct : chk t = 0) (hn : ¬ clash f t) (hs : spr f t = t) : twoS f t = (t, 0) := by
  rw [twoS_eq cf ct, if_neg hn, hs, if_neg (by rw [ct]; simp)]

/-- The place that is spread to the n-th one. -/
def srcS (f t : List Int) (n : Int) : List Int := (List.range f.length).map fun k => if f.getD k 0 = 1 then 0 else (digL t n).getD (t.length - f.length + k) 0
theorem srcS_length (f t : List Int) (n : Int) : (srcS f t n).length = f.length := by simp [srcS]
theorem srcS_get {f t : List Int} {n : Int} {k : Nat} {x y : Int} (hx : f[k]? = some x) (hy : (digL t n)[t.length - f.length + k]? = some y) : (srcS f t n)[k]? = some (if x = 1 then 0 else y) := by
  obtain ⟨hk, he⟩ := List.getElem?_eq_some_iff.1 hx
  simp [srcS, hk, he, hy]
theorem srcS_in {f t : List Int} {n : Int} (h : FitD f t) : InD f (srcS f t n) := by
  refine ⟨h.cf, srcS_length f t n, fun i x m hx hm => ?_⟩
  have hi := (List.getElem?_eq_some_iff.1 hm).1
  have hl := h.l
  obtain ⟨y, hy⟩ := getI (show t.length - f.length + i < (digL t n).length by rw [digL_length]; omega)
  rw [srcS_get hm hy] at hx
  cases hx
  have h1 := (chk0 h.cf).2.1 m (List.mem_of_getElem? hm)
  split
  · omega
  · rename_i hm1
    exact (digit_in (n := n) h.ct).b _ _ _ hy (h.e i m hm hm1)
def srcN (f t : List Int) (n : Int) : Int := placeI f (srcS f t n)
def sourcesD (f t : List Int) (n : Nat) : List Int := (List.range n).map fun (k : Nat) => srcN f t (k : Int)
theorem sourcesD_length (f t : List Int) (n : Nat) : (sourcesD f t n).length = n := by simp [sourcesD]
theorem sourcesD_snoc (f t : List Int) (n : Nat) : sourcesD f t n ++ [srcN f t (n : Int)] = sourcesD f t (n + 1) := by simp [sourcesD, List.range_succ]
theorem sourcesD_get {f t : List Int} {n k : Nat} (h : k < n) : (sourcesD f t n)[k]? = some (srcN f t (k : Int)) := by simp [sourcesD, h]
end Go.Fm
