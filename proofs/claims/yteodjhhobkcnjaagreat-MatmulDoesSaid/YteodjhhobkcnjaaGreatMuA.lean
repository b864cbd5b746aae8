/- The dims of a product, by the reference. -/
import Derived.Test.YteodjhhobkcnjaaGreatDmA
import Derived.Test.YteodjhhobkcnjaaGreatFmC
set_option linter.unusedVariables false
set_option linter.unusedSimpArgs false
namespace Go.Fm
open Go.Proofs
set_option maxRecDepth 100000
attribute [local irreducible] tiOf

theorem rDims_ok (a b : List Int) (l : List Int) (e : Int) (ha : a.length < 1000000000) (hb : b.length < 1000000000) (hm : mdims a b = (l, e)) :
    Pure Tryz.prog 58 [sI a, sI b] [.t (.slice (l.map I)), .t (.int .i64 e)] := by
  have c1 := rCheck_ok a ha
  have c2 := rCheck_ok b hb
  refine Pure.intro Tryz.func58 rfl (rt := [4, 5]) rfl (by simp [Tryz.ntmps58]) (by decide) (sites := fun _ => false) ?_
  apply run_sound 200
  simp -implicitDefEqProofs +decide only [go_sem, sI]
  refine CallG.P _ Tryz.call78 (c1) ?_
  simp -implicitDefEqProofs +decide only [go_sem]
  refine CallG.P _ Tryz.call78 (c2) ?_
  simp -implicitDefEqProofs +decide only [go_sem]
  refine selP_dec (fun h1 => ?_) (fun h1 => ?_)
  · unfold mdims at hm
    rw [if_pos h1] at hm
    cases hm
    simp -implicitDefEqProofs +decide only [go_sem]
    exact endF.V [(4, .slice []), (5, .int .i64 (chk a))] (vals_n (by simp -implicitDefEqProofs +decide only [go_sem]) (vals_t (by simp -implicitDefEqProofs +decide only [go_sem] <;> rfl) rfl vals_nil))
  simp -implicitDefEqProofs +decide only [go_sem]
  refine selP_dec (fun h2 => ?_) (fun h2 => ?_)
  · unfold mdims at hm
    rw [if_neg h1, if_pos h2] at hm
    cases hm
    simp -implicitDefEqProofs +decide only [go_sem]
    exact endF.V [(4, .slice []), (5, .int .i64 (chk b))] (vals_n (by simp -implicitDefEqProofs +decide only [go_sem]) (vals_t (by simp -implicitDefEqProofs +decide only [go_sem] <;> rfl) rfl vals_nil))
  have hca := Classical.not_not.1 h1
  have hcb := Classical.not_not.1 h2
  clear c1 c2 h1 h2
  obtain ⟨la, -, -, -⟩ := chk0 hca
  obtain ⟨lb, -, -, -⟩ := chk0 hcb
  rw [mdims_eq hca hcb] at hm
  simp -implicitDefEqProofs +decide only [go_sem]
  have h2a : decide ((a.length : Int) < 2) = decide (a.length < 2) := decide_eq_decide.2 (by omega)
  have h2b : decide ((b.length : Int) < 2) = decide (b.length < 2) := decide_eq_decide.2 (by omega)
  simp -implicitDefEqProofs +decide only [go_sem, h2a, h2b]
  refine selP_dec (fun h1 => ?_) (fun h1 => ?_)
  · rw [if_pos (.inl h1)] at hm
    cases hm
    simp -implicitDefEqProofs +decide only [go_sem]
    exact endF.V [(4, .slice []), (5, .int .i64 9)] (vals_n (by simp -implicitDefEqProofs +decide only [go_sem]) (vals_t (by simp -implicitDefEqProofs +decide only [go_sem] <;> rfl) rfl vals_nil))
  simp -implicitDefEqProofs +decide only [go_sem, h2b]
  refine selP_dec (fun h2 => ?_) (fun h2 => ?_)
  · rw [if_pos (.inr h2)] at hm
    cases hm
    simp -implicitDefEqProofs +decide only [go_sem]
    exact endF.V [(4, .slice []), (5, .int .i64 9)] (vals_n (by simp -implicitDefEqProofs +decide only [go_sem]) (vals_t (by simp -implicitDefEqProofs +decide only [go_sem] <;> rfl) rfl vals_nil))
  rw [if_neg (by omega)] at hm
  obtain ⟨a1, ha1⟩ := getI (show a.length - 1 < a.length by omega)
  obtain ⟨a2, ha2⟩ := getI (show a.length - 2 < a.length by omega)
  obtain ⟨b1, hb1⟩ := getI (show b.length - 1 < b.length by omega)
  obtain ⟨b2, hb2⟩ := getI (show b.length - 2 < b.length by omega)
  rw [getD_of ha1, getD_of ha2, getD_of hb1, getD_of hb2] at hm
  have wa1 : IntKind.wrap .i64 ((a.length : Int) - 1) = ((a.length - 1 : Nat) : Int) := by rw [w64] <;> omega
  have wa2 : IntKind.wrap .i64 ((a.length : Int) - 2) = ((a.length - 2 : Nat) : Int) := by rw [w64] <;> omega
  have wb1 : IntKind.wrap .i64 ((b.length : Int) - 1) = ((b.length - 1 : Nat) : Int) := by rw [w64] <;> omega
  have wb2 : IntKind.wrap .i64 ((b.length : Int) - 2) = ((b.length - 2 : Nat) : Int) := by rw [w64] <;> omega
  have lta : a.length - 2 ≤ a.length := by omega
  have ltb : b.length - 2 ≤ b.length := by omega
  have hta : List.take (a.length - 2) (a.map I) = (a.take (a.length - 2)).map I := List.map_take.symm
  have htb : List.take (b.length - 2) (b.map I) = (b.take (b.length - 2)).map I := List.map_take.symm
  have hla2 : (a.take (a.length - 2)).length < 1000000000 := by rw [List.length_take]; omega
  have hlb2 : (b.take (b.length - 2)).length < 1000000000 := by rw [List.length_take]; omega
  simp -implicitDefEqProofs +decide only [go_sem]
  refine Goes.drawN mixed ?_
  simp -implicitDefEqProofs +decide only [go_sem, wa1, wb2, ha1, hb2, I, Int.toNat_natCast]
  refine ⟨.mk (by kernel_rfl), ?_⟩
  apply run_sound 200
  simp -implicitDefEqProofs +decide only [go_sem]
  refine selP_dec (fun h3 => ?_) (fun h3 => ?_)
  · rw [if_pos h3] at hm
    cases hm
    simp -implicitDefEqProofs +decide only [go_sem]
    exact endF.V [(4, .slice []), (5, .int .i64 8)] (vals_n (by simp -implicitDefEqProofs +decide only [go_sem]) (vals_t (by simp -implicitDefEqProofs +decide only [go_sem] <;> rfl) rfl vals_nil))
  rw [if_neg h3] at hm
  have c1 := rTwo_ok (a.take (a.length - 2)) (b.take (b.length - 2)) (twoS (a.take (a.length - 2)) (b.take (b.length - 2))).1 (twoS (a.take (a.length - 2)) (b.take (b.length - 2))).2 hla2 hlb2 rfl
  have htl := twoS_length (a.take (a.length - 2)) (b.take (b.length - 2))
  unfold rankD at htl
  rw [List.length_take, List.length_take] at htl
  generalize twoS (a.take (a.length - 2)) (b.take (b.length - 2)) = t at hm c1 htl
  obtain ⟨t1, t2⟩ := t
  dsimp only at hm c1 htl
  simp -implicitDefEqProofs +decide only [go_sem]
  refine Goes.drawN mixed ?_
  simp -implicitDefEqProofs +decide only [go_sem, wa2, wb2, lta, ltb, hta, htb, Int.toNat_natCast, List.drop_zero]
  refine CallD.PS _ Tryz.call111 c1 ?_
  simp -implicitDefEqProofs +decide only [go_sem]
  refine ⟨.mk (by kernel_rfl), ?_⟩
  apply run_sound 200
  simp -implicitDefEqProofs +decide only [go_sem]
  refine selP_dec (fun h4 => ?_) (fun h4 => ?_)
  · rw [if_pos h4] at hm
    cases hm
    simp -implicitDefEqProofs +decide only [go_sem]
    exact endF.V [(4, .slice []), (5, .int .i64 e)] (vals_n (by simp -implicitDefEqProofs +decide only [go_sem]) (vals_t (by simp -implicitDefEqProofs +decide only [go_sem] <;> rfl) rfl vals_nil))
  rw [if_neg h4] at hm
  have hlen0 : t1.length < big := by unfold big; omega
  have hlen : t1.length + 2 < big := by unfold big; omega
  have hap : t1.map I ++ [T.int .i64 a2, T.int .i64 b1] = (t1 ++ [a2, b1]).map I := by rw [List.map_append]; rfl
  have hlo : (t1 ++ [a2, b1]).length = t1.length + 2 := by rw [List.length_append]; rfl
  have c3 := rCheck_ok (t1 ++ [a2, b1]) (by rw [hlo]; omega)
  generalize t1 ++ [a2, b1] = v at hm hap hlo c3
  have htk : List.take (t1.length + 2) (v.map I) = v.map I := List.take_of_length_le (by rw [List.length_map, hlo]; exact Nat.le_refl _)
  simp -implicitDefEqProofs +decide only [go_sem]
  refine Goes.drawN mixed ?_
  simp -implicitDefEqProofs +decide only [go_sem, wa2, wb1, ha2, hb1, I, Int.toNat_natCast, List.length_map, hlen0, hlen, hap, Nat.zero_add]
  refine ⟨.mk (by kernel_rfl), ?_⟩
  apply run_sound 200
  obtain ⟨c, hc⟩ : ∃ c, chk v = c := ⟨_, rfl⟩
  rw [hc] at c3 hm
  simp -implicitDefEqProofs +decide only [go_sem, htk, hap]
  refine CallG.P _ Tryz.call78 (c3) ?_
  simp -implicitDefEqProofs +decide only [go_sem]
  refine selP_dec (fun h5 => ?_) (fun h5 => ?_)
  · rw [if_pos h5] at hm
    cases hm
    simp -implicitDefEqProofs +decide only [go_sem]
    exact endF.V [(4, .slice []), (5, .int .i64 e)] (vals_n (by simp -implicitDefEqProofs +decide only [go_sem]) (vals_t (by simp -implicitDefEqProofs +decide only [go_sem] <;> rfl) rfl vals_nil))
  · rw [if_neg h5] at hm
    cases hm
    simp -implicitDefEqProofs +decide only [go_sem]
    exact endF.rowT (.inr rfl) (by simp -implicitDefEqProofs +decide only [go_sem]; rfl) (by simp -implicitDefEqProofs +decide only [go_sem]; rfl) (by rw [List.length_map, hlo]) rfl (by simp -implicitDefEqProofs +decide only [go_sem]) rfl (fun l hp => by cases l <;> first | rfl | cases hp) rfl
end Go.Fm
/- An element of an operand of a product. -/
namespace Go.Fm
open Go.Proofs
set_option maxRecDepth 100000
attribute [local irreducible] tiOf

def srcAt (d p : List Int) (first : Nat) (row col : Int) : List Int := (List.range (d.length - 2)).map (fun i => if 1 < d.getD i 0 then p.getD (first + i) 0 else 0) ++ [row, col]
def frontG (L : List Int) (k : Nat) : List Int := L.take k ++ List.replicate (L.length - k) 0
theorem frontG_zero (L : List Int) : frontG L 0 = List.replicate L.length 0 := by simp [frontG]
theorem frontG_full (L : List Int) : frontG L L.length = L := by simp [frontG]
theorem frontG_length {L : List Int} {k : Nat} (h : k ≤ L.length) : (frontG L k).length = L.length := by simp [frontG]; omega
theorem frontG_set {L : List Int} {k : Nat} {x : Int} (h : L[k]? = some x) : (frontG L k).set k x = frontG L (k + 1) := by
  have hk := (List.getElem?_eq_some_iff.1 h).1
  unfold frontG
  have e : L.length - k = (L.length - (k + 1)) + 1 := by omega
  have hl : (L.take k).length = k := by rw [List.length_take]; omega
  rw [List.set_append_right k _ (by omega), hl, Nat.sub_self, e, List.replicate_succ, List.take_add_one, h, List.append_assoc]
  rfl
theorem frontG_skip {L : List Int} {k : Nat} (h : L[k]? = some 0) : frontG L k = frontG L (k + 1) := by
  have hk := (List.getElem?_eq_some_iff.1 h).1
  unfold frontG
  have e : L.length - k = (L.length - (k + 1)) + 1 := by omega
  rw [e, List.replicate_succ, List.take_add_one, h, List.append_assoc]
  rfl
theorem srcAt_length {d p : List Int} {f : Nat} {r c : Int} (h : 2 ≤ d.length) : (srcAt d p f r c).length = d.length := by simp [srcAt]; omega
theorem srcAt_get {d p : List Int} {f i : Nat} {r c m x : Int} (h : i < d.length - 2) (hm : d[i]? = some m) (hx : p[f + i]? = some x) : (srcAt d p f r c)[i]? = some (if 1 < m then x else 0) := by
  unfold srcAt
  rw [List.getElem?_append_left (by simpa using h)]
  simp [h, hm, hx]
theorem srcAt_row {d p : List Int} {f : Nat} {r c : Int} : (srcAt d p f r c)[d.length - 2]? = some r := by
  unfold srcAt
  rw [List.getElem?_append_right (by simp)]
  simp
theorem srcAt_col {d p : List Int} {f : Nat} {r c : Int} : (srcAt d p f r c)[d.length - 2 + 1]? = some c := by
  unfold srcAt
  rw [List.getElem?_append_right (by simp)]
  simp

theorem source_ok (d out p : List Int) (r c : Int) (hd : 2 ≤ d.length) (hdo : d.length ≤ out.length) (hob : out.length < 1000000000) (hpl : p.length = out.length) (h : InD d (srcAt d p (out.length - d.length) r c)) :
    Pure Tryz.prog 109 [sI d, sI out, sI p, .int .i64 r, .int .i64 c] [.t (.int .i64 (placeI d (srcAt d p (out.length - d.length) r c)))] := by
  have hsl := srcAt_length (p := p) (f := out.length - d.length) (r := r) (c := c) hd
  have hsg := @srcAt_get d p (out.length - d.length)
  have hsr := @srcAt_row d p (out.length - d.length) r c
  have hsc := @srcAt_col d p (out.length - d.length) r c
  have hsg := fun i m x => @hsg i r c m x
  have c1 := place_ok d _ h
  obtain ⟨L, hL⟩ : ∃ L, srcAt d p (out.length - d.length) r c = L := ⟨_, rfl⟩
  rw [hL] at hsl hsr hsc c1 ⊢
  simp only [hL] at hsg
  have w1 : IntKind.wrap .i64 ((d.length : Int) - 2) = ((d.length - 2 : Nat) : Int) := by rw [w64] <;> omega
  have w2 : IntKind.wrap .i64 ((out.length : Int) - d.length) = ((out.length - d.length : Nat) : Int) := by rw [w64] <;> omega
  have hlb : d.length < big := by unfold big; omega
  have hlb2 : (0 : Int) ≤ d.length := by omega
  have hr0 : List.replicate d.length (T.int .i64 0) = (frontG L 0).map I := by rw [frontG_zero, List.map_replicate, hsl]; rfl
  refine Pure.intro Tryz.func109 rfl (rt := [10]) rfl (by simp [Tryz.ntmps109]) (by decide) (sites := fun _ => false) ?_
  apply run_sound 200
  simp -implicitDefEqProofs +decide only [go_sem, sI, w1, w2, hlb, hlb2, hr0, Int.toNat_natCast]
  refine Goes.loop (X := Nat) (fun i => ⟨ofL [(0, tI d), (2, tI p), (3, .t (.int .i64 r)), (4, .t (.int .i64 c)), (11, .t (.int .i64 ((d.length - 2 : Nat) : Int))), (12, .sl (.loc 22 0) 0 0 d.length), (13, .t (.int .i64 ((out.length - d.length : Nat) : Int))), (28, .t (.int .i64 ((d.length - 2 : Nat) : Int))), (29, .t (.int .i64 i))],
      ofH (fun _ => none) [(.loc 22 0, .arr 1 ((frontG L i).map I) 0 0)], 0⟩) (fun i => i ≤ d.length - 2) (fun i => d.length - 2 - i) 0 ?_ (by omega) ?_
  · refine Wk.rows _ _ (fun _ _ => rfl) rfl rfl ?_ (fun l hp => by cases l <;> first | rfl | cases hp) ?_ ?_
    · simp -implicitDefEqProofs +decide only [go_sem]
    · simp -implicitDefEqProofs +decide only [go_sem, tI, sI] <;> rfl
    · simp -implicitDefEqProofs +decide only [go_sem, tI, sI]
  rintro i hi J hJ
  apply run_sound 200
  simp -implicitDefEqProofs +decide only [go_sem, tI, sI]
  have hfl := frontG_length (L := L) (k := i) (by omega)
  refine selP_dec (fun hc => ?_) (fun hc => ?_)
  · obtain ⟨m, hm⟩ := getI (show i < d.length by omega)
    obtain ⟨x, hx⟩ := getI (show out.length - d.length + i < p.length by omega)
    have hg := hsg i m x (by omega) hm hx
    obtain ⟨z, hz⟩ : ∃ z, ((frontG L i).map I)[i]? = some z := getI (by rw [List.length_map, hfl]; omega)
    have hid : i < d.length := by omega
    have hw := wS (show i < 1000000000000 by omega)
    have hwi : IntKind.wrap .i64 (((out.length - d.length : Nat) : Int) + i) = ((out.length - d.length + i : Nat) : Int) := by rw [w64] <;> omega
    simp -implicitDefEqProofs +decide only [go_sem, hm, I]
    refine selP_dec (fun h1 => ?_) (fun h1 => ?_)
    · rw [if_pos h1] at hg
      have hst : ((frontG L i).map I).set i (.int .i64 x) = (frontG L (i + 1)).map I := by rw [← frontG_set hg, List.map_set]; rfl
      simp -implicitDefEqProofs +decide only [go_sem, hwi, hx, I, hid, ofH, hz, hst, hw, Int.toNat_natCast]
      refine hJ (i + 1) _ (by omega) (by omega) (Wk.rows _ _ (fun _ _ => rfl) rfl rfl ?_ (fun l hp => by cases l <;> first | rfl | cases hp) ?_ ?_)
      · simp -implicitDefEqProofs +decide only [go_sem]
      · simp -implicitDefEqProofs +decide only [go_sem, tI, sI]
      · simp -implicitDefEqProofs +decide only [go_sem, tI, sI]
    · rw [if_neg h1] at hg
      simp -implicitDefEqProofs +decide only [go_sem, hw]
      refine hJ (i + 1) _ (by omega) (by omega) (Wk.rows _ _ (fun _ _ => rfl) rfl rfl ?_ (fun l hp => by cases l <;> first | rfl | cases hp) ?_ ?_)
      · simp -implicitDefEqProofs +decide only [go_sem, ofH, frontG_skip hg]
      · simp -implicitDefEqProofs +decide only [go_sem, tI, sI]
      · simp -implicitDefEqProofs +decide only [go_sem, tI, sI]
  · obtain rfl : i = d.length - 2 := by omega
    have hf2 := frontG_length (L := L) (k := d.length - 2 + 1) (by omega)
    have hst1 : ((frontG L (d.length - 2)).map I).set (d.length - 2) (.int .i64 r) = (frontG L (d.length - 2 + 1)).map I := by rw [← frontG_set hsr, List.map_set]; rfl
    have hfull : frontG L (d.length - 2 + 1 + 1) = L := by rw [show d.length - 2 + 1 + 1 = L.length by omega, frontG_full]
    have hst2 : ((frontG L (d.length - 2 + 1)).map I).set (d.length - 2 + 1) (.int .i64 c) = L.map I := (set_map I _ _ c).trans (by rw [frontG_set hsc, hfull])
    obtain ⟨z1, hz1⟩ : ∃ z, ((frontG L (d.length - 2)).map I)[d.length - 2]? = some z := getI (by rw [List.length_map, hfl]; omega)
    obtain ⟨z2, hz2⟩ : ∃ z, ((frontG L (d.length - 2 + 1)).map I)[d.length - 2 + 1]? = some z := getI (by rw [List.length_map, hf2]; omega)
    have hw := wS (show d.length - 2 < 1000000000000 by omega)
    have hl1 : d.length - 2 < d.length := by omega
    have hl2 : d.length - 2 + 1 < d.length := by omega
    have htk : List.take d.length (L.map I) = L.map I := List.take_of_length_le (by rw [List.length_map, hsl]; exact Nat.le_refl _)
    simp -implicitDefEqProofs +decide only [go_sem, hw, ofH, hl1, hl2, hz1, hz2, hst1, hst2, htk, Int.toNat_natCast]
    refine CallG.P _ Tryz.call121 (c1) ?_
    simp -implicitDefEqProofs +decide only [go_sem]
    exact endF.V [(10, .int .i64 (placeI d L))] (vals_t (by simp -implicitDefEqProofs +decide only [go_sem] <;> rfl) rfl vals_nil)
end Go.Fm
/- The elements that are multiplied. -/
namespace Go.Fm
open Go.Proofs
set_option maxRecDepth 100000
attribute [local irreducible] tiOf

structure MD (a b out : List Int) : Prop where
  ca : chk a = 0
  cb : chk b = 0
  co : chk out = 0
  la : 2 ≤ a.length
  lb : 2 ≤ b.length
  ab : a[a.length - 1]? = b[b.length - 2]?
  eo : out = spr (a.take (a.length - 2)) (b.take (b.length - 2)) ++ [a.getD (a.length - 2) 0, b.getD (b.length - 1) 0]
  nc : ¬ clash (a.take (a.length - 2)) (b.take (b.length - 2))
theorem mdims_inv {a b out : List Int} (h : mdims a b = (out, 0)) : MD a b out := by
  by_cases ca : chk a = 0
  case neg => unfold mdims at h; rw [if_pos ca] at h; exact absurd (Prod.mk.inj h).2 ca
  by_cases cb : chk b = 0
  case neg => unfold mdims at h; rw [if_neg (fun h => h ca), if_pos cb] at h; exact absurd (Prod.mk.inj h).2 cb
  rw [mdims_eq ca cb] at h
  split at h
  · exact absurd (Prod.mk.inj h).2 (by decide)
  rename_i h2
  split at h
  · exact absurd (Prod.mk.inj h).2 (by decide)
  rename_i h3
  split at h
  · rename_i h4; exact absurd (Prod.mk.inj h).2 h4
  rename_i h4
  split at h
  · rename_i h5; exact absurd (Prod.mk.inj h).2 h5
  rename_i h5
  have h5 := Classical.not_not.1 h5
  have h4 := Classical.not_not.1 h4
  have h3 := Classical.not_not.1 h3
  have e := (Prod.mk.inj h).1
  have htw : ∀ x y : List Int, (twoS x y).2 = 0 → (twoS x y).1 = spr x y ∧ ¬ clash x y := fun x y hz => by
    unfold twoS at hz ⊢
    split at hz
    · rename_i g; exact absurd hz g
    rename_i g1
    split at hz
    · rename_i g; exact absurd hz g
    rename_i g2
    split at hz
    · exact absurd hz (by decide)
    rename_i g3
    split at hz
    · rename_i g; exact absurd hz g
    rename_i g4
    rw [if_neg g1, if_neg g2, if_neg g3, if_neg g4]
    exact ⟨rfl, g3⟩
  obtain ⟨e1, e2⟩ := htw _ _ h4
  rw [e] at h5
  rw [e1] at e
  refine ⟨ca, cb, h5, by omega, by omega, ?_, e.symm, e2⟩
  obtain ⟨x, hx⟩ := getI (show a.length - 1 < a.length by omega)
  obtain ⟨y, hy⟩ := getI (show b.length - 2 < b.length by omega)
  rw [getD_of hx, getD_of hy] at h3
  rw [hx, hy, h3]

theorem sizeD_take {l : List Int} {n k : Nat} (h : n ≤ l.length) (hk : 1 ≤ k) (hkn : k ≤ n) : sizeD (l.take n) k = l.getD (n - k) 0 := by
  unfold sizeD
  have e : (l.take n).length = n := by rw [List.length_take]; omega
  rw [e, if_neg (by omega), List.getD_eq_getElem?_getD, List.getElem?_take_of_lt (by omega), List.getD_eq_getElem?_getD]

namespace MD
variable {a b out : List Int}
theorem rk (h : MD a b out) : rankD (a.take (a.length - 2)) (b.take (b.length - 2)) = max a.length b.length - 2 := by
  have := h.la; have := h.lb
  unfold rankD; rw [List.length_take, List.length_take]; omega
theorem lo (h : MD a b out) : out.length = max a.length b.length := by
  have h1 := h.la; have h2 := h.lb
  rw [h.eo, List.length_append, spr_length, h.rk]
  simp; omega
theorem row (h : MD a b out) : out[out.length - 2]? = a[a.length - 2]? := by
  have h1 := h.la; have h2 := h.lb; have h3 := h.lo
  obtain ⟨x, hx⟩ := getI (show a.length - 2 < a.length by omega)
  rw [hx, h3]
  conv => lhs; rw [h.eo]
  rw [List.getElem?_append_right (by rw [spr_length, h.rk]; exact Nat.le_refl _), spr_length, h.rk, Nat.sub_self, getD_of hx]; rfl
theorem col (h : MD a b out) : out[out.length - 1]? = b[b.length - 1]? := by
  have h1 := h.la; have h2 := h.lb; have h3 := h.lo
  obtain ⟨x, hx⟩ := getI (show b.length - 1 < b.length by omega)
  rw [hx, h3]
  conv => lhs; rw [h.eo]
  rw [List.getElem?_append_right (by rw [spr_length, h.rk]; omega), spr_length, h.rk, show max a.length b.length - 1 - (max a.length b.length - 2) = 1 by omega, getD_of hx]; rfl
theorem inA (h : MD a b out) {i : Nat} {m : Int} (hi : i < a.length - 2) (hm : a[i]? = some m) (h1 : 1 < m) : out[out.length - a.length + i]? = some m := by
  have l1 := h.la; have l2 := h.lb; have l3 := h.lo
  have hr := h.rk
  rw [l3]
  conv => lhs; rw [h.eo]
  rw [List.getElem?_append_left (by rw [spr_length, hr]; omega), spr_get (by rw [hr]; omega), hr]
  have e : max a.length b.length - 2 - (max a.length b.length - a.length + i) = a.length - 2 - i := by omega
  rw [e]
  have ea : sizeD (a.take (a.length - 2)) (a.length - 2 - i) = m := by
    rw [sizeD_take (by omega) (by omega) (by omega), show a.length - 2 - (a.length - 2 - i) = i by omega, getD_of hm]
  have hn := fun hh => h.nc ⟨a.length - 2 - i, by omega, by rw [hr]; omega, hh⟩
  rw [ea] at hn ⊢
  congr 1
  unfold mx
  split
  · rename_i g; exact Classical.byContradiction fun hne => hn ⟨by omega, by omega, by omega⟩
  · rfl
theorem inB (h : MD a b out) {i : Nat} {m : Int} (hi : i < b.length - 2) (hm : b[i]? = some m) (h1 : 1 < m) : out[out.length - b.length + i]? = some m := by
  have l1 := h.la; have l2 := h.lb; have l3 := h.lo
  have hr := h.rk
  rw [l3]
  conv => lhs; rw [h.eo]
  rw [List.getElem?_append_left (by rw [spr_length, hr]; omega), spr_get (by rw [hr]; omega), hr]
  have e : max a.length b.length - 2 - (max a.length b.length - b.length + i) = b.length - 2 - i := by omega
  rw [e]
  have ea : sizeD (b.take (b.length - 2)) (b.length - 2 - i) = m := by
    rw [sizeD_take (by omega) (by omega) (by omega), show b.length - 2 - (b.length - 2 - i) = i by omega, getD_of hm]
  have hn := fun hh => h.nc ⟨b.length - 2 - i, by omega, by rw [hr]; omega, hh⟩
  rw [ea] at hn ⊢
  congr 1
  unfold mx
  split
  · rfl
  · rename_i g
    rcases Int.lt_or_le m (sizeD (a.take (a.length - 2)) (b.length - 2 - i)) with g2 | g2
    · exact Classical.byContradiction fun hne => hn ⟨by omega, by omega, by omega⟩
    · omega
end MD

theorem src_in {d out p : List Int} {r c : Int} (hc : chk d = 0) (hl : 2 ≤ d.length) (hlo : d.length ≤ out.length) (hp : InD out p)
    (hin : ∀ (i : Nat) (m : Int), i < d.length - 2 → d[i]? = some m → 1 < m → out[out.length - d.length + i]? = some m)
    (hr : ∀ m, d[d.length - 2]? = some m → 0 ≤ r ∧ r < m) (hcc : ∀ m, d[d.length - 1]? = some m → 0 ≤ c ∧ c < m) : InD d (srcAt d p (out.length - d.length) r c) := by
  refine ⟨hc, srcAt_length hl, fun i x m hx hm => ?_⟩
  have hi := (List.getElem?_eq_some_iff.1 hm).1
  rcases Nat.lt_or_ge i (d.length - 2) with g | g
  · obtain ⟨y, hy⟩ := getI (show out.length - d.length + i < p.length by rw [hp.l]; omega)
    rw [srcAt_get g hm hy] at hx
    cases hx
    have h1 := (chk0 hc).2.1 m (List.mem_of_getElem? hm)
    split
    · rename_i h
      exact hp.b _ _ _ hy (hin i m g hm h)
    · omega
  · rcases Nat.lt_or_ge i (d.length - 1) with g2 | g2
    · obtain rfl : i = d.length - 2 := by omega
      rw [srcAt_row] at hx
      cases hx
      exact hr m hm
    · obtain rfl : i = d.length - 2 + 1 := by omega
      rw [srcAt_col] at hx
      cases hx
      exact hcc m (by rw [← hm]; congr 1; omega)

def pairK (a b out p : List Int) (row col k : Int) : Int × Int := (placeI a (srcAt a p (out.length - a.length) row k), placeI b (srcAt b p (out.length - b.length) k col))
def pairsL (a b out p : List Int) (row col : Int) (n : Nat) : List (Int × Int) := (List.range n).map fun (k : Nat) => pairK a b out p row col (k : Int)
def termsM (a b out : List Int) (n : Int) : List (Int × Int) :=
  pairsL a b out (digL out n) ((digL out n).getD (out.length - 2) 0) ((digL out n).getD (out.length - 1) 0) (a.getD (a.length - 1) 0).toNat
def tP (p : Int × Int) : T := .agg [.int .i64 p.1, .int .i64 p.2]
end Go.Fm
/- The elements that are multiplied, by the program. -/
namespace Go.Fm
open Go.Proofs
set_option maxRecDepth 100000
attribute [local irreducible] tiOf

attribute [go_sem] List.range_zero Nat.zero_mul Nat.one_mul Nat.mul_one List.set_cons_zero List.set_cons_succ
theorem pairsL_length (a b out p : List Int) (r c : Int) (n : Nat) : (pairsL a b out p r c n).length = n := by simp [pairsL]
theorem pairsL_snoc (a b out p : List Int) (r c : Int) (n : Nat) : (pairsL a b out p r c n).map tP ++ [T.agg [.int .i64 (placeI a (srcAt a p (out.length - a.length) r n)), .int .i64 (placeI b (srcAt b p (out.length - b.length) n c))]] = (pairsL a b out p r c (n + 1)).map tP := by
  simp [pairsL, List.range_succ, tP, pairK]

theorem terms_ok (a b out : List Int) (n : Int) (hm : mdims a b = (out, 0)) (hn : 0 ≤ n ∧ n < cnt out) :
    Pure Tryz.prog 55 [sI a, sI b, .int .i64 n] [.t (.slice ((termsM a b out n).map tP))] := by
  have H := mdims_inv hm
  have la6 := (chk0 H.ca).1
  have lb6 := (chk0 H.cb).1
  have lo6 := (chk0 H.co).1
  have l1 := H.la
  have l2 := H.lb
  have l3 := H.lo
  have c1 := mdims_ok a b out 0 (by omega) (by omega) hm
  have c2 := at_ok out n (by omega)
  rw [if_pos hn, decide_eq_true hn] at c2
  have hp := digit_in (n := n) H.co
  have hpl := hp.l
  unfold termsM
  obtain ⟨p, hpe⟩ : ∃ p, digL out n = p := ⟨_, rfl⟩
  rw [hpe] at hp hpl c2 ⊢
  obtain ⟨K, hK⟩ := getI (show a.length - 1 < a.length by omega)
  obtain ⟨rw', hrw⟩ := getI (show out.length - 2 < p.length by omega)
  obtain ⟨cl, hcl⟩ := getI (show out.length - 1 < p.length by omega)
  rw [getD_of hK, getD_of hrw, getD_of hcl]
  have hK1 := (chk0 H.ca).2.1 K (List.mem_of_getElem? hK)
  have hK64 : K ≤ 64 := by
    have h1 := prodL_snoc hK
    have h2 := prodL_le (chk0 H.ca).2.1 (a.length - 1 + 1)
    have h3 := prodL_pos (d := a.take (a.length - 1)) fun y hy => (chk0 H.ca).2.1 y (List.mem_of_mem_take hy)
    have h4 := (chk0 H.ca).2.2.2
    have h5 := Int.mul_le_mul_of_nonneg_right h3 (show 0 ≤ K by omega)
    omega
  have wa : IntKind.wrap .i64 ((a.length : Int) - 1) = ((a.length - 1 : Nat) : Int) := by rw [w64] <;> omega
  have wo1 : IntKind.wrap .i64 ((out.length : Int) - 1) = ((out.length - 1 : Nat) : Int) := by rw [w64] <;> omega
  have wo2 : IntKind.wrap .i64 ((out.length : Int) - 2) = ((out.length - 2 : Nat) : Int) := by rw [w64] <;> omega
  refine Pure.intro Tryz.func55 rfl (rt := [6]) rfl (by simp [Tryz.ntmps55]) (by decide) (sites := fun _ => false) ?_
  apply run_sound 200
  simp -implicitDefEqProofs +decide only [go_sem, sI]
  refine CallG.PS _ Tryz.call53 (c1) ?_
  simp -implicitDefEqProofs +decide only [go_sem]
  refine CallG.PS _ Tryz.call108 (c2) ?_
  simp -implicitDefEqProofs +decide only [go_sem, sI]
  refine Goes.drawN mixed ?_
  simp -implicitDefEqProofs +decide only [go_sem, wo1, wo2, hrw, hcl, I, Int.toNat_natCast]
  refine ⟨.mk (by kernel_rfl), ?_⟩
  apply run_sound 200
  simp -implicitDefEqProofs +decide only [go_sem, wa, hK, I, Int.toNat_natCast]
  refine Goes.wk (Wk.nilRow (d := 13) (lab := .loc 69 0) (size := 2) (by simp -implicitDefEqProofs +decide only [go_sem]) (by simp -implicitDefEqProofs +decide only [go_sem]) rfl (by decide)) ?_
  refine Goes.loop (X := Nat) (fun k => ⟨ofL [(0, tI a), (1, tI b), (7, tI out), (9, tI p), (11, .t (.int .i64 rw')), (12, .t (.int .i64 cl)), (13, .sl (.loc 69 0) k 0 k), (50, .t (.int .i64 K)), (51, .t (.int .i64 k))],
      ofH (fun _ => none) [(.loc 69 0, .arr 2 ((pairsL a b out p rw' cl k).map tP) k 0)], 0⟩) (fun k => k ≤ K.toNat) (fun k => K.toNat - k) 0 ?_ (by omega) ?_
  · refine Wk.rows _ _ (fun _ _ => rfl) rfl rfl ?_ (fun l hp => by cases l <;> first | rfl | cases hp) ?_ ?_
    · simp -implicitDefEqProofs +decide only [go_sem] <;> first | rfl | exact ⟨rfl, rfl⟩
    · simp -implicitDefEqProofs +decide only [go_sem, tI, sI] <;> rfl
    · simp -implicitDefEqProofs +decide only [go_sem, tI, sI]
  rintro k hk J hJ
  apply run_sound 200
  simp -implicitDefEqProofs +decide only [go_sem, tI, sI]
  have hlen := pairsL_length a b out p rw' cl k
  refine selP_dec (fun hc => ?_) (fun hc => ?_)
  · have hkK : (k : Int) < K := hc
    have i1 : InD a (srcAt a p (out.length - a.length) rw' k) := src_in H.ca l1 (by omega) hp (fun i m hi hm h1 => H.inA hi hm h1)
      (fun m hm => hp.b _ _ _ hrw (by rw [H.row]; exact hm)) (fun m hm => by rw [hK] at hm; cases hm; omega)
    have i2 : InD b (srcAt b p (out.length - b.length) k cl) := src_in H.cb l2 (by omega) hp (fun i m hi hm h1 => H.inB hi hm h1)
      (fun m hm => by rw [← H.ab, hK] at hm; cases hm; omega) (fun m hm => hp.b _ _ _ hcl (by rw [H.col]; exact hm))
    have s1 := source_ok a out p rw' k l1 (by omega) (by omega) hpl i1
    have s2 := source_ok b out p k cl l2 (by omega) (by omega) hpl i2
    have hsn := pairsL_snoc a b out p rw' cl k
    have hw := wS (show k < 1000000000000 by omega)
    have hkb : k + 1 < big := by unfold big; omega
    simp -implicitDefEqProofs +decide only [go_sem]
    refine CallG.P _ Tryz.call109 (s1) ?_
    simp -implicitDefEqProofs +decide only [go_sem]
    refine CallG.P _ Tryz.call109 (s2) ?_
    simp -implicitDefEqProofs +decide only [go_sem, ofH, hlen, hkb, hsn, hw]
    refine hJ (k + 1) _ (by omega) (by omega) (Wk.rows _ _ (fun _ _ => rfl) rfl rfl ?_ (fun l hp => by cases l <;> first | rfl | cases hp) ?_ ?_)
    · simp -implicitDefEqProofs +decide only [go_sem]
    · simp -implicitDefEqProofs +decide only [go_sem, tI, sI]
    · simp -implicitDefEqProofs +decide only [go_sem, tI, sI]
  · obtain rfl : k = K.toNat := by omega
    simp -implicitDefEqProofs +decide only [go_sem, ofH]
    exact endF.row1 (.inr rfl) (by simp -implicitDefEqProofs +decide only [go_sem]; rfl) (by simp -implicitDefEqProofs +decide only [go_sem]; rfl) (by rw [List.length_map, hlen]) (by rintro (_ | _ | _ | _ | _) hp <;> first | (cases hp; done) | simp -implicitDefEqProofs +decide only [go_sem]) rfl
end Go.Fm
/- Exact numbers: how long sums and products are; sums of products. -/
namespace Go.Fm
open Go.Proofs
set_option maxRecDepth 100000
attribute [local irreducible] tiOf

theorem QB_mul {r s : Rat} {a b : Nat} (hr : QB r a) (hs : QB s b) : QB (r * s) (a + b) := by
  have h := mul_low r s
  have h1 := congrArg Rt.p h
  have h2 := congrArg Rt.q h
  have p1 := hr.n
  have p2 := hr.d
  have p3 := hs.n
  have p4 := hs.d
  constructor
  · show (wordsOf (r * s).num.natAbs).length ≤ a + b
    have : (qR (r * s)).p = wordsOf (r * s).num.natAbs := rfl
    rw [← this, ← h1]
    unfold lowQ
    refine Nat.le_trans (len_mono (Nat.div_le_self _ _)) (Nat.le_trans (len_prod _ _) ?_)
    have l1 := len_mono (Nat.div_le_self r.num.natAbs (Nat.gcd r.num.natAbs s.den))
    have l2 := len_mono (Nat.div_le_self s.num.natAbs (Nat.gcd s.num.natAbs r.den))
    omega
  · have : (qR (r * s)).q = wordsOf (r * s).den := rfl
    show (wordsOf (r * s).den).length ≤ a + b
    rw [← this, ← h2]
    unfold lowQ
    refine Nat.le_trans (len_mono (Nat.div_le_self _ _)) (Nat.le_trans (len_prod _ _) ?_)
    have l1 := len_mono (Nat.div_le_self r.den (Nat.gcd s.num.natAbs r.den))
    have l2 := len_mono (Nat.div_le_self s.den (Nat.gcd r.num.natAbs s.den))
    omega
theorem QB_add {r s : Rat} {a b : Nat} (hr : QB r a) (hs : QB s b) : QB (r + s) (a + b + 1) := by
  have h := add_low r s
  have h1 := congrArg Rt.p h
  have h2 := congrArg Rt.q h
  have p1 := hr.n
  have p2 := hr.d
  have p3 := hs.n
  have p4 := hs.d
  constructor
  · show (wordsOf (r + s).num.natAbs).length ≤ a + b + 1
    have : (qR (r + s)).p = wordsOf (r + s).num.natAbs := rfl
    rw [← this, ← h1]
    unfold lowQ
    refine Nat.le_trans (len_mono (Nat.div_le_self _ _)) (Nat.le_trans (len_mono (sumQ_le _ _ _ _)) (Nat.le_trans (len_sum _ _) ?_))
    have l1 := len_prod r.num.natAbs s.den
    have l2 := len_prod s.num.natAbs r.den
    omega
  · have : (qR (r + s)).q = wordsOf (r + s).den := rfl
    show (wordsOf (r + s).den).length ≤ a + b + 1
    rw [← this, ← h2]
    unfold lowQ
    refine Nat.le_trans (len_mono (Nat.div_le_self _ _)) (Nat.le_trans (len_prod _ _) ?_)
    omega
theorem QB.mono {r : Rat} {a b : Nat} (h : QB r a) (hab : a ≤ b) : QB r b := ⟨Nat.le_trans h.n hab, Nat.le_trans h.d hab⟩

def dotT (xs ys : List Rat) (p : Int × Int) : Rat := xs.getD p.1.toNat 0 * ys.getD p.2.toNat 0
def dotR (xs ys : List Rat) (l : List (Int × Int)) : Rat := l.foldl (fun s p => s + dotT xs ys p) 0
def sV (l : List Rat) : T := .slice (l.map vT)
def argT (d : List Int) (l : List Rat) : T := .agg [sI d, sV l]
def sC (k : Nat) (r : Rat) : List AV := if k = 0 then [.t (.bool false), .nil, .nil, .t (.int .u64 0), .t (.int .i64 0)] else [.t (.bool (neg1 r)), .t (sW (wordsOf r.num.natAbs)), .t (sW (wordsOf r.den)), .t (.int .u64 0), .t (.int .i64 0)]
noncomputable def doM (a b out : List Int) (xs ys : List Rat) (n : Nat) : List Rat := (List.range n).map fun (i : Nat) => dotR xs ys (termsM a b out (i : Int))
end Go.Fm
/- A product, by the program, on exact numbers. -/
namespace Go.Fm
open Go.Proofs
set_option maxRecDepth 100000
attribute [local irreducible] tiOf

theorem termsM_length (a b out : List Int) (n : Int) : (termsM a b out n).length = (a.getD (a.length - 1) 0).toNat := by unfold termsM; rw [pairsL_length]
theorem termsM_get {a b out : List Int} {n : Int} {i : Nat} (hm : mdims a b = (out, 0)) (hn : 0 ≤ n ∧ n < cnt out) (hi : i < (a.getD (a.length - 1) 0).toNat) :
    ∃ q1 q2 : Nat, (termsM a b out n)[i]? = some ((q1 : Int), (q2 : Int)) ∧ (q1 : Int) < cnt a ∧ (q2 : Int) < cnt b := by
  have H := mdims_inv hm
  have l1 := H.la
  have l2 := H.lb
  have l3 := H.lo
  have hp := digit_in (n := n) H.co
  obtain ⟨p, hpe⟩ : ∃ p, digL out n = p := ⟨_, rfl⟩
  unfold termsM pairsL
  rw [hpe] at hp ⊢
  have hpl := hp.l
  obtain ⟨K, hK⟩ := getI (show a.length - 1 < a.length by omega)
  obtain ⟨rw', hrw⟩ := getI (show out.length - 2 < p.length by omega)
  obtain ⟨cl, hcl⟩ := getI (show out.length - 1 < p.length by omega)
  rw [getD_of hK] at hi
  rw [getD_of hK, getD_of hrw, getD_of hcl]
  have hkK : (i : Int) < K := by omega
  have i1 : InD a (srcAt a p (out.length - a.length) rw' i) := src_in H.ca l1 (by omega) hp (fun i m hi hm h1 => H.inA hi hm h1)
    (fun m hm => hp.b _ _ _ hrw (by rw [H.row]; exact hm)) (fun m hm => by rw [hK] at hm; cases hm; omega)
  have i2 : InD b (srcAt b p (out.length - b.length) i cl) := src_in H.cb l2 (by omega) hp (fun i m hi hm h1 => H.inB hi hm h1)
    (fun m hm => by rw [← H.ab, hK] at hm; cases hm; omega) (fun m hm => hp.b _ _ _ hcl (by rw [H.col]; exact hm))
  have b1 := i1.bnd a.length (Nat.le_refl _)
  have b2 := i2.bnd b.length (Nat.le_refl _)
  rw [placeI_take i1.l, List.take_length] at b1
  rw [placeI_take i2.l, List.take_length] at b2
  refine ⟨(placeI a (srcAt a p (out.length - a.length) rw' i)).toNat, (placeI b (srcAt b p (out.length - b.length) i cl)).toNat, ?_, ?_, ?_⟩
  · rw [List.getElem?_map, List.getElem?_range hi, Option.map_some, Int.toNat_of_nonneg b1.1, Int.toNat_of_nonneg b2.1]; rfl
  · rw [Int.toNat_of_nonneg b1.1]; unfold cnt; rw [if_pos H.ca]; exact b1.2
  · rw [Int.toNat_of_nonneg b2.1]; unfold cnt; rw [if_pos H.cb]; exact b2.2
def kM (a out : List Int) (k n : Nat) : Nat := k + n * (2 * (a.getD (a.length - 1) 0).toNat - 1)
theorem HCalm.box {h : Heap} {l : Lab} {cs : List AV} (hh : HCalm h) (hc : cleanL cs = true) : HCalm (upd h l (some (.box cs))) := fun l' o ho => by
  by_cases e : l' = l
  · subst e; rw [upd_same] at ho; cases ho; exact .inr hc
  · rw [upd_ne _ _ _ _ e] at ho; exact hh l' o ho
theorem toNat_lit1 : Int.toNat 1 = 1 := rfl
theorem ite_dup {α : Type} {c : Prop} [Decidable c] (x y z : α) : (if c then x else if c then y else z) = if c then x else z := by split <;> rfl
theorem wrap01 : IntKind.wrap .i64 (0 + 1) = 1 := by decide
attribute [go_sem] toNat_lit1 ite_dup wrap01
end Go.Fm
/- Products of matrices as sums: turned, and of a sum. -/
namespace Go.Fm
open Go.Proofs
set_option maxRecDepth 100000

def addL (ys zs : List Rat) : List Rat := List.zipWith (· + ·) ys zs
def turnR (n m : Nat) (xs : List Rat) : List Rat := (List.range (m * n)).map fun t => xs.getD (t % n * m + t / n) 0
theorem srcAt2 (n k : Int) (p : List Int) (r c : Int) (f : Nat) : placeI [n, k] (srcAt [n, k] p f r c) = r * k + c := by
  simp [srcAt, placeI]
theorem digL2 (n m : Nat) (t : Nat) (hm : 0 < m) (hn : 0 < n) (ht : t < n * m) : digL [(n : Int), (m : Int)] (t : Int) = [((t / m : Nat) : Int), ((t % m : Nat) : Int)] := by
  have h1 : t / m < n := Nat.div_lt_of_lt_mul (by rw [Nat.mul_comm]; exact ht)
  have h2 : ((t : Int) / (m : Int)) % (n : Int) = (t : Int) / (m : Int) := by
    rw [← Int.natCast_ediv, ← Int.natCast_emod, Nat.mod_eq_of_lt h1]
  simp [digL, digit, List.range_succ, prodL, h2]
theorem termsM2 (n K m : Nat) (t : Nat) (hm : 0 < m) (hn : 0 < n) (ht : t < n * m) :
    termsM [(n : Int), (K : Int)] [(K : Int), (m : Int)] [(n : Int), (m : Int)] (t : Int) = (List.range K).map fun (k : Nat) => ((((t / m) * K + k : Nat) : Int), ((k * m + t % m : Nat) : Int)) := by
  unfold termsM pairsL
  rw [digL2 n m t hm hn ht]
  show List.map _ (List.range ((K : Int)).toNat) = _
  rw [Int.toNat_natCast]
  refine List.map_congr_left fun k _ => ?_
  unfold pairK
  rw [srcAt2, srcAt2]
  simp
end Go.Fm
/- All places, in order. -/
namespace Go.Fm
open Go.Proofs
set_option maxRecDepth 100000

theorem prodL_nil : prodL [] = 1 := rfl
theorem prodL_one (x : Int) : prodL [x] = x := by simp [prodL]
theorem digL_snoc {d : List Int} {m k x : Int} (hx0 : 0 ≤ x) (hx : x < m) (hk0 : 0 ≤ k) (hk : k < prodL d) (hd : ∀ y ∈ d, 1 ≤ y) : digL (d ++ [m]) (k * m + x) = digL d k ++ [x] := by
  have hm : 0 < m := by omega
  have h1 : (k * m + x) / m = k := by
    rw [Int.mul_comm, Int.mul_add_ediv_left _ _ (by omega), Int.ediv_eq_zero_of_lt hx0 hx, Int.add_zero]
  have h2 : (k * m + x) % m = x := by
    rw [Int.mul_comm, Int.mul_add_emod_self_left, Int.emod_eq_of_lt hx0 hx]
  unfold digL
  rw [List.length_append, List.length_singleton, List.range_succ, List.map_append]
  congr 1
  · refine List.map_congr_left fun i hi => ?_
    have hi := List.mem_range.1 hi
    unfold digit
    have e1 : (d ++ [m]).drop (i + 1) = d.drop (i + 1) ++ [m] := List.drop_append_of_le_length (by omega)
    have e2 : (d ++ [m]).getD i 0 = d.getD i 0 := by
      rw [List.getD_eq_getElem?_getD, List.getElem?_append_left hi, List.getD_eq_getElem?_getD]
    rw [e1, e2, prodL_append, prodL_one, Int.mul_comm (prodL _) m, ← Int.ediv_ediv_of_nonneg (by omega), h1]
  · unfold digit
    have e1 : (d ++ [m]).drop (d.length + 1) = [] := List.drop_of_length_le (by simp)
    have e2 : (d ++ [m]).getD d.length 0 = m := by
      rw [List.getD_eq_getElem?_getD, List.getElem?_append_right (Nat.le_refl _), Nat.sub_self]; rfl
    show [(k * m + x) / prodL ((d ++ [m]).drop (d.length + 1)) % (d ++ [m]).getD d.length 0] = [x]
    rw [e1, e2, prodL_nil, Int.ediv_one, h2]
def allD (d : List Int) (n : Nat) : List (List Int) := (List.range n).map fun (k : Nat) => digL d (k : Int)
theorem allD_length (d : List Int) (n : Nat) : (allD d n).length = n := by simp [allD]
theorem allD_get {d : List Int} {n k : Nat} (h : k < n) : (allD d n)[k]? = some (digL d (k : Int)) := by simp [allD, h]
theorem allD_snoc (d : List Int) (n : Nat) : allD d n ++ [digL d (n : Int)] = allD d (n + 1) := by simp [allD, List.range_succ]
theorem digL_take {d : List Int} {i : Nat} {m : Int} (h : d[i]? = some m) {k x : Int} (hx0 : 0 ≤ x) (hx : x < m) (hk0 : 0 ≤ k) (hk : k < prodL (d.take i)) (hd : ∀ y ∈ d, 1 ≤ y) :
    digL (d.take i) k ++ [x] = digL (d.take (i + 1)) (k * m + x) := by
  rw [List.take_add_one, h, Option.toList_some, digL_snoc hx0 hx hk0 hk fun y hy => hd y (List.mem_of_mem_take hy)]
end Go.Fm
/- All places, by the reference. -/
namespace Go.Fm
open Go.Proofs
set_option maxRecDepth 100000
attribute [local irreducible] tiOf

def sL (l : List (List Int)) : T := .slice (l.map sI)

def nP (d : List Int) (i : Nat) : Nat := (prodL (d.take i)).toNat
theorem nP_le {d : List Int} (h : chk d = 0) (i : Nat) : 1 ≤ nP d i ∧ nP d i ≤ 64 := by
  obtain ⟨_, h1, _, h3⟩ := chk0 h
  have h2 := prodL_pos (d := d.take i) fun y hy => h1 y (List.mem_of_mem_take hy)
  have h4 := prodL_le h1 i
  unfold nP; omega
theorem nP_succ {d : List Int} {i : Nat} {m : Int} (h : chk d = 0) (hm : d[i]? = some m) : nP d (i + 1) = nP d i * m.toNat := by
  obtain ⟨_, h1, _, _⟩ := chk0 h
  have h2 := prodL_pos (d := d.take i) fun y hy => h1 y (List.mem_of_mem_take hy)
  have h3 := h1 m (List.mem_of_getElem? hm)
  unfold nP
  rw [prodL_snoc hm, Int.toNat_mul (by omega) (by omega)]

theorem rAll_ok (d : List Int) (hc : chk d = 0) : Pure Tryz.prog 82 [sI d] [.t (sL (allD d (prodL d).toNat))] := by
  obtain ⟨l6, hd1, _, _⟩ := chk0 hc
  have c1 := rCheck_ok d (by omega)
  rw [hc] at c1
  refine Pure.intro Tryz.func82 rfl (rt := [2]) rfl (by simp [Tryz.ntmps82]) (by decide) (sites := fun _ => false) ?_
  apply run_sound 200
  simp -implicitDefEqProofs +decide only [go_sem, sI]
  refine CallG.P _ Tryz.call78 (c1) ?_
  simp -implicitDefEqProofs +decide only [go_sem]
  refine Goes.wk (Wk.freeze 3 (t := sL (allD (d.take 0) (nP d 0))) (ws := [(.loc 12 0, .arr 1 [T.slice []] 0 1)]) (acc := [.loc 12 0]) (by simp -implicitDefEqProofs +decide only [go_sem]; rfl)) ?_
  refine Goes.loop (X := Nat) (fun i => ⟨ofL [(0, tI d), (3, .t (sL (allD (d.take i) (nP d i)))), (14, .t (.int .i64 d.length)), (15, .t (.int .i64 i))], fun _ => none, 0⟩) (fun i => i ≤ d.length) (fun i => d.length - i) 0 ?_ (by omega) ?_
  · exact (Wk.mixed _ (fun _ _ => rfl) rfl (fun l hp => by cases l <;> first | rfl | cases hp) (by simp -implicitDefEqProofs +decide only [go_sem, tI, sI]) (by simp -implicitDefEqProofs +decide only [go_sem, tI, sI]))
  rintro i hi J hJ
  apply run_sound 200
  simp -implicitDefEqProofs +decide only [go_sem, tI, sI, sL]
  refine selP_dec (fun h1 => ?_) (fun h1 => ?_)
  · have hi2 : i < d.length := by omega
    obtain ⟨m, hm⟩ := getI hi2
    have hm1 := hd1 m (List.mem_of_getElem? hm)
    have hN := nP_le hc i
    have hS := nP_succ hc hm
    have hS2 := nP_le hc (i + 1)
    have hm64 : m.toNat ≤ nP d i * m.toNat := Nat.le_mul_of_pos_left _ (by omega)
    have hw := wS (show i < 1000000000000 by omega)
    have hal := allD_length (d.take i) (nP d i)
    simp -implicitDefEqProofs +decide only [go_sem]
    refine Goes.wk (Wk.nilRow (d := 5) (lab := .loc 41 0) (size := 1) (by simp -implicitDefEqProofs +decide only [go_sem]) (by simp -implicitDefEqProofs +decide only [go_sem]) rfl (by decide)) ?_
    refine Goes.loop (X := Nat) (fun k => ⟨ofL [(0, tI d), (3, .t (sL (allD (d.take i) (nP d i)))), (4, .t (.int .i64 i)), (5, .sl (.loc 41 0) (k * m.toNat) 0 (k * m.toNat)), (14, .t (.int .i64 d.length)), (15, .t (.int .i64 i)), (19, .t (.int .i64 (nP d i))), (20, .t (.int .i64 k))],
      ofH (fun _ => none) [(.loc 41 0, .arr 1 ((allD (d.take (i + 1)) (k * m.toNat)).map sI) (k * m.toNat) 0)], 0⟩) (fun k => k ≤ nP d i) (fun k => nP d i - k) 0 ?_ (by omega) ?_
    · simp only [Nat.zero_mul]
      exact (Wk.rows _ _ (fun _ _ => rfl) rfl rfl (by simp -implicitDefEqProofs +decide only [go_sem, ofH, tW, sW, sL, hal, List.length_map] <;> first | rfl | exact ⟨rfl, rfl⟩ | skip) (fun l hp => by cases l <;> first | rfl | cases hp) (by simp -implicitDefEqProofs +decide only [go_sem, tI, sI, tW, sW, sL, hal, List.length_map] <;> first | rfl | skip) (by simp -implicitDefEqProofs +decide only [go_sem, tI, sI, tW, sW]))
    rintro k hk J2 hJ2
    apply run_sound 200
    simp -implicitDefEqProofs +decide only [go_sem, tI, sI, sL]
    refine selP_dec (fun h2 => ?_) (fun h2 => ?_)
    · have hwk := wS (show k < 1000000000000 by omega)
      simp -implicitDefEqProofs +decide only [go_sem, hm, I]
      refine Goes.loop (X := Nat) (fun x => ⟨ofL [(0, tI d), (3, .t (sL (allD (d.take i) (nP d i)))), (4, .t (.int .i64 i)), (5, .sl (.loc 41 0) (k * m.toNat + x) 0 (k * m.toNat + x)), (6, .t (.int .i64 k)), (14, .t (.int .i64 d.length)), (15, .t (.int .i64 i)), (19, .t (.int .i64 (nP d i))), (20, .t (.int .i64 k)), (26, .t (.int .i64 m)), (27, .t (.int .i64 x))],
        ofH (fun _ => none) [(.loc 41 0, .arr 1 ((allD (d.take (i + 1)) (k * m.toNat + x)).map sI) (k * m.toNat + x) 0)], 0⟩) (fun x => x ≤ m.toNat) (fun x => m.toNat - x) 0 ?_ (by omega) ?_
      · exact (Wk.rows _ _ (fun _ _ => rfl) rfl rfl (by simp -implicitDefEqProofs +decide only [go_sem, ofH, tW, sW, sL] <;> first | rfl | exact ⟨rfl, rfl⟩ | skip) (fun l hp => by cases l <;> first | rfl | cases hp) (by simp -implicitDefEqProofs +decide only [go_sem, tI, sI, tW, sW, sL] <;> first | rfl | skip) (by simp -implicitDefEqProofs +decide only [go_sem, tI, sI, tW, sW]))
      rintro x hx J3 hJ3
      apply run_sound 200
      simp -implicitDefEqProofs +decide only [go_sem, tI, sI, sL]
      refine selP_dec (fun h3 => ?_) (fun h3 => ?_)
      · have hwx := wS (show x < 1000000000000 by omega)
        have hg : ((allD (d.take i) (nP d i)).map sI)[k]? = some (sI (digL (d.take i) (k : Int))) := by rw [List.getElem?_map, allD_get (by omega)]; rfl
        have hdl := digL_take hm (x := x) (k := k) (by omega) (by omega) (by omega) (by unfold nP at *; omega) hd1
        have hcast : (k : Int) * m + x = ((k * m.toNat + x : Nat) : Int) := by
          rw [Int.natCast_add, Int.natCast_mul, Int.toNat_of_nonneg (by omega)]
        rw [hcast] at hdl
        have hsn : (allD (d.take (i + 1)) (k * m.toNat + x)).map sI ++ [T.slice ((digL (d.take i) (k : Int)).map I ++ [I (x : Int)])] = (allD (d.take (i + 1)) (k * m.toNat + x + 1)).map sI := by
          rw [← allD_snoc, List.map_append, ← hdl]; simp [sI]
        have hbig : k * m.toNat + x + 1 < big := by
          have := Nat.mul_le_mul_right m.toNat (show k + 1 ≤ nP d i by omega)
          rw [Nat.add_mul] at this
          unfold big; omega
        have hal2 := allD_length (d.take (i + 1)) (k * m.toNat + x)
        have hge := allD_length (d.take i) (nP d i)
        have hdlen : (digL (d.take i) (k : Int)).length + 1 < big := by rw [digL_length, List.length_take]; unfold big; omega
        have hdlen0 : (digL (d.take i) (k : Int)).length < big := by omega
        have htk : List.take ((digL (d.take i) (k : Int)).length + 1) ((digL (d.take i) (k : Int)).map I ++ [T.int .i64 x]) = (digL (d.take i) (k : Int) ++ [(x : Int)]).map I := by
          rw [List.take_of_length_le (by simp), List.map_append]; rfl
        simp -implicitDefEqProofs +decide only [go_sem, ofH, hg, sI, hdlen0, hdlen, List.length_map, Nat.zero_add, htk, List.nil_append, hal2, hbig, hsn, hwx]
        refine hJ3 (x + 1) _ (by omega) (by omega) (Wk.rows _ _ (fun _ _ => rfl) rfl rfl (by simp -implicitDefEqProofs +decide only [go_sem, ofH, tW, sW, sL] <;> first | rfl | exact ⟨rfl, rfl⟩ | skip) (fun l hp => by cases l <;> first | rfl | cases hp) (by simp -implicitDefEqProofs +decide only [go_sem, tI, sI, tW, sW, sL] <;> first | rfl | skip) (by simp -implicitDefEqProofs +decide only [go_sem, tI, sI, tW, sW]))
      · obtain rfl : x = m.toNat := by omega
        simp -implicitDefEqProofs +decide only [go_sem, ofH, hwk]
        have hmul : k * m.toNat + m.toNat = (k + 1) * m.toNat := by rw [Nat.add_mul, Nat.one_mul]
        rw [hmul]
        refine hJ2 (k + 1) _ (by omega) (by omega) (Wk.rows _ _ (fun _ _ => rfl) rfl rfl (by simp -implicitDefEqProofs +decide only [go_sem, ofH, tW, sW, sL] <;> first | rfl | exact ⟨rfl, rfl⟩ | skip) (fun l hp => by cases l <;> first | rfl | cases hp) (by simp -implicitDefEqProofs +decide only [go_sem, tI, sI, tW, sW, sL] <;> first | rfl | skip) (by simp -implicitDefEqProofs +decide only [go_sem, tI, sI, tW, sW]))
    · obtain rfl : k = nP d i := by omega
      simp -implicitDefEqProofs +decide only [go_sem, ofH, hw]
      rw [← hS]
      have hal3 := allD_length (d.take (i + 1)) (nP d (i + 1))
      have htk3 : List.take (nP d (i + 1)) ((allD (d.take (i + 1)) (nP d (i + 1))).map sI) = (allD (d.take (i + 1)) (nP d (i + 1))).map sI := List.take_of_length_le (by rw [List.length_map, hal3]; exact Nat.le_refl _)
      refine hJ (i + 1) _ (by omega) (by omega) (Wk.trans (Wk.freeze 3 (t := sL (allD (d.take (i + 1)) (nP d (i + 1)))) (ws := [(.loc 41 0, .arr 1 ((allD (d.take (i + 1)) (nP d (i + 1))).map sI) (nP d (i + 1)) (nP d (i + 1)))]) (acc := [.loc 41 0]) (by simp -implicitDefEqProofs +decide only [go_sem, htk3, hal3, List.length_map]; rfl)) (Wk.mixed _ (fun _ _ => rfl) rfl (fun l hp => by cases l <;> first | rfl | cases hp) (by simp -implicitDefEqProofs +decide only [go_sem, tI, sI]) (by simp -implicitDefEqProofs +decide only [go_sem, tI, sI])))
  · obtain rfl : i = d.length := by omega
    simp -implicitDefEqProofs +decide only [go_sem]
    have e1 : d.take d.length = d := List.take_length
    have e2 : nP d d.length = (prodL d).toNat := by unfold nP; rw [e1]
    rw [e2]
    exact endF.one (.inr rfl) (by simp -implicitDefEqProofs +decide only [go_sem, sL]) rfl (fun _ _ => rfl) rfl
end Go.Fm
/- What is spread, in numbers. -/
namespace Go.Fm
open Go.Proofs
set_option maxRecDepth 100000

theorem mx_le1 (x y : Int) : x ≤ mx x y := by unfold mx; split <;> omega
theorem mx_le2 (x y : Int) : y ≤ mx x y := by unfold mx; split <;> omega
theorem mx_cases (x y : Int) : mx x y = x ∨ mx x y = y := by unfold mx; split <;> simp
theorem mx_of_le {x y : Int} (h : x ≤ y) : mx x y = y := by unfold mx; split <;> omega
theorem sizeD_spr {a b : List Int} {k : Nat} (h1 : 1 ≤ k) (h2 : k ≤ rankD a b) : sizeD (spr a b) k = mx (sizeD a k) (sizeD b k) := by
  unfold sizeD
  rw [spr_length, if_neg (by omega), List.getD_eq_getElem?_getD, spr_get (by omega), show rankD a b - (rankD a b - k) = k by omega]
  rfl
theorem rankD_spr1 (a b : List Int) : rankD a (spr a b) = rankD a b := by
  show max a.length (spr a b).length = _
  rw [spr_length]; unfold rankD; omega
theorem rankD_spr2 (a b : List Int) : rankD b (spr a b) = rankD a b := by
  show max b.length (spr a b).length = _
  rw [spr_length]; unfold rankD; omega
theorem spr_ext {x s : List Int} (hl : rankD x s = s.length) (h : ∀ k, 1 ≤ k → k ≤ s.length → mx (sizeD x k) (sizeD s k) = sizeD s k) : spr x s = s := by
  apply List.ext_getElem?
  intro i
  rcases Nat.lt_or_ge i s.length with g | g
  · rw [spr_get (by omega), hl, h _ (by omega) (by omega)]
    obtain ⟨y, hy⟩ := getI g
    rw [hy]
    unfold sizeD
    rw [if_neg (by omega), show s.length - (s.length - i) = i by omega, getD_of hy]
  · rw [List.getElem?_eq_none g, List.getElem?_eq_none (by rw [spr_length]; omega)]
theorem spr_idem1 {a b : List Int} (hn : ¬ clash a b) : ¬ clash a (spr a b) ∧ spr a (spr a b) = spr a b := by
  constructor
  · rintro ⟨k, h1, h2, h3, h4, h5⟩
    rw [rankD_spr1] at h2
    rw [sizeD_spr h1 h2] at h3 h5
    rcases mx_cases (sizeD a k) (sizeD b k) with h | h
    · exact h3 h.symm
    · rw [h] at h3 h5
      exact hn ⟨k, h1, h2, h3, h4, h5⟩
  · refine spr_ext (by rw [rankD_spr1, spr_length]) fun k h1 h2 => ?_
    rw [spr_length] at h2
    rw [sizeD_spr h1 h2]
    exact mx_of_le (mx_le1 _ _)
theorem spr_idem2 {a b : List Int} (hn : ¬ clash a b) : ¬ clash b (spr a b) ∧ spr b (spr a b) = spr a b := by
  constructor
  · rintro ⟨k, h1, h2, h3, h4, h5⟩
    rw [rankD_spr2] at h2
    rw [sizeD_spr h1 h2] at h3 h5
    rcases mx_cases (sizeD a k) (sizeD b k) with h | h
    · rw [h] at h3 h5
      exact hn ⟨k, h1, h2, fun e => h3 e.symm, h5, h4⟩
    · exact h3 h.symm
  · refine spr_ext (by rw [rankD_spr2, spr_length]) fun k h1 h2 => ?_
    rw [spr_length] at h2
    rw [sizeD_spr h1 h2]
    exact mx_of_le (mx_le2 _ _)

structure FitD (f t : List Int) : Prop where
  cf : chk f = 0
  ct : chk t = 0
  l : f.length ≤ t.length
  e : ∀ (i : Nat) (x : Int), f[i]? = some x → x ≠ 1 → t[t.length - f.length + i]? = some x
theorem twoS_fit {f t : List Int} (h : twoS f t = (t, 0)) : FitD f t := by
  by_cases cf : chk f = 0
  case neg => unfold twoS at h; rw [if_pos cf] at h; exact absurd (Prod.mk.inj h).2 cf
  by_cases ct : chk t = 0
  case neg => unfold twoS at h; rw [if_neg (fun h => h cf), if_pos ct] at h; exact absurd (Prod.mk.inj h).2 ct
  rw [twoS_eq cf ct] at h
  split at h
  · exact absurd (Prod.mk.inj h).2 (by decide)
  rename_i h1
  split at h
  · rename_i h2; exact absurd (Prod.mk.inj h).2 h2
  have e := (Prod.mk.inj h).1
  have hl := congrArg List.length e
  rw [spr_length] at hl
  have hl2 : f.length ≤ t.length := by unfold rankD at hl; omega
  refine ⟨cf, ct, hl2, fun i x hx h1x => ?_⟩
  have hi := (List.getElem?_eq_some_iff.1 hx).1
  obtain ⟨y, hy⟩ := getI (show t.length - f.length + i < t.length by omega)
  have hk : sizeD (spr f t) (f.length - i) = sizeD t (f.length - i) := by rw [e]
  rw [sizeD_spr (by omega) (by omega)] at hk
  have hf : sizeD f (f.length - i) = x := by unfold sizeD; rw [if_neg (by omega), show f.length - (f.length - i) = i by omega, getD_of hx]
  have ht : sizeD t (f.length - i) = y := by unfold sizeD; rw [if_neg (by omega), show t.length - (f.length - i) = t.length - f.length + i by omega, getD_of hy]
  rw [hf, ht] at hk
  rw [hy]
  have hx1 := (chk0 cf).2.1 x (List.mem_of_getElem? hx)
  by_cases hxy : x = y
  · rw [hxy]
  · exfalso
    refine h1 ⟨f.length - i, by omega, by omega, by rw [hf, ht]; exact hxy, by rw [hf]; exact h1x, ?_⟩
    rw [ht]
    intro h
    rw [h] at hk
    unfold mx at hk
    split at hk <;> omega
theorem fit_twoS {f t : List Int} (cf : chk f = 0) (ct : chk t = 0) (hn : ¬ clash f t) (hs : spr f t = t) : twoS f t = (t, 0) := by
  rw [twoS_eq cf ct, if_neg hn, hs, if_neg (by rw [ct]; simp)]

def srcS (f t : List Int) (n : Int) : List Int := (List.range f.length).map fun k => if f.getD k 0 = 1 then 0 else (digL t n).getD (t.length - f.length + k) 0
theorem srcS_length (f t : List Int) (n : Int) : (srcS f t n).length = f.length := by simp [srcS]
theorem srcS_get {f t : List Int} {n : Int} {k : Nat} {x y : Int} (hx : f[k]? = some x) (hy : (digL t n)[t.length - f.length + k]? = some y) : (srcS f t n)[k]? = some (if x = 1 then 0 else y) := by
  obtain ⟨hk, he⟩ := List.getElem?_eq_some_iff.1 hx
  simp [srcS, hk, he, hy]
theorem srcS_in {f t : List Int} {n : Int} (h : FitD f t) : InD f (srcS f t n) := by
  refine ⟨h.cf, srcS_length f t n, fun i x m hx hm => ?_⟩
  have hi := (List.getElem?_eq_some_iff.1 hm).1
  have hl := h.l
  obtain ⟨y, hy⟩ := getI (show t.length - f.length + i < (digL t n).length by rw [digL_length]; omega)
  rw [srcS_get hm hy] at hx
  cases hx
  have h1 := (chk0 h.cf).2.1 m (List.mem_of_getElem? hm)
  split
  · omega
  · rename_i hm1
    exact (digit_in (n := n) h.ct).b _ _ _ hy (h.e i m hm hm1)
def srcN (f t : List Int) (n : Int) : Int := placeI f (srcS f t n)
def sourcesD (f t : List Int) (n : Nat) : List Int := (List.range n).map fun (k : Nat) => srcN f t (k : Int)
theorem sourcesD_length (f t : List Int) (n : Nat) : (sourcesD f t n).length = n := by simp [sourcesD]
theorem sourcesD_snoc (f t : List Int) (n : Nat) : sourcesD f t n ++ [srcN f t (n : Int)] = sourcesD f t (n + 1) := by simp [sourcesD, List.range_succ]
theorem sourcesD_get {f t : List Int} {n k : Nat} (h : k < n) : (sourcesD f t n)[k]? = some (srcN f t (k : Int)) := by simp [sourcesD, h]
end Go.Fm
/- What is spread, by the reference. -/
namespace Go.Fm
open Go.Proofs
set_option maxRecDepth 100000
attribute [local irreducible] tiOf

theorem twoS_len (a b : List Int) : (twoS a b).1.length ≤ rankD a b := twoS_length a b
theorem rFits_ok (a b : List Int) (ha : a.length < 1000000000) (hb : b.length < 1000000000) : Pure Tryz.prog 93 [sI a, sI b] [.t (.bool (decide (twoS a b = (b, 0))))] := by
  have hl := twoS_len a b
  obtain ⟨l, e, hle⟩ : ∃ l e, twoS a b = (l, e) := ⟨_, _, rfl⟩
  have c1 := rTwo_ok a b l e ha hb hle
  rw [hle] at hl ⊢
  unfold rankD at hl
  dsimp only at hl
  have c2 := rSameI_ok l b (by omega)
  refine Pure.intro Tryz.func93 rfl (rt := [4]) rfl (by simp [Tryz.ntmps93]) (by decide) (sites := fun _ => false) ?_
  apply run_sound 200
  simp -implicitDefEqProofs +decide only [go_sem, sI]
  refine CallG.PS _ Tryz.call111 (c1) ?_
  simp -implicitDefEqProofs +decide only [go_sem]
  refine selP_dec (fun h => ?_) (fun h => ?_)
  · subst h
    simp -implicitDefEqProofs +decide only [go_sem, sI]
    refine CallG.P _ Tryz.call155 (c2) ?_
    simp -implicitDefEqProofs +decide only [go_sem]
    have : decide ((l, (0 : Int)) = (b, 0)) = decide (l = b) := decide_eq_decide.2 ⟨fun h => (Prod.mk.inj h).1, fun h => by rw [h]⟩
    rw [this]
    exact endF.one (.inr rfl) (by simp -implicitDefEqProofs +decide only [go_sem]) rfl (fun _ _ => rfl) rfl
  · simp -implicitDefEqProofs +decide only [go_sem]
    have : decide ((l, e) = (b, 0)) = false := decide_eq_false fun hh => h (Prod.mk.inj hh).2
    rw [this]
    exact endF.one (.inr rfl) (by simp -implicitDefEqProofs +decide only [go_sem]) rfl (fun _ _ => rfl) rfl

theorem rSources_ok (f t : List Int) (h : twoS f t = (t, 0)) : Pure Tryz.prog 40 [sI f, sI t] [.t (sI (sourcesD f t (prodL t).toNat))] := by
  have F := twoS_fit h
  have lf := (chk0 F.cf).1
  have lt := (chk0 F.ct).1
  have hP := (chk0 F.ct).2.2
  have hfl := F.l
  have c1 := rFits_ok f t (by omega) (by omega)
  rw [decide_eq_true h] at c1
  have c2 := rAll_ok t F.ct
  obtain ⟨N, hN⟩ : ∃ N, (prodL t).toNat = N := ⟨_, rfl⟩
  rw [hN] at c2 ⊢
  have hal := allD_length t N
  refine Pure.intro Tryz.func40 rfl (rt := [4]) rfl (by simp [Tryz.ntmps40]) (by decide) (sites := fun _ => false) ?_
  apply run_sound 200
  simp -implicitDefEqProofs +decide only [go_sem, sI]
  refine CallG.P _ Tryz.call93 (c1) ?_
  simp -implicitDefEqProofs +decide only [go_sem, sI]
  refine CallG.PS _ Tryz.call82 (c2) ?_
  simp -implicitDefEqProofs +decide only [go_sem, sL, hal, List.length_map]
  refine Goes.wk (Wk.nilRow (d := 6) (lab := .loc 56 0) (size := 1) (by simp -implicitDefEqProofs +decide only [go_sem]) (by simp -implicitDefEqProofs +decide only [go_sem]) rfl (by decide)) ?_
  refine Goes.loop (X := Nat) (fun n => ⟨ofL [(0, tI f), (1, tI t), (5, .t (sL (allD t N))), (6, .sl (.loc 56 0) n 0 n), (17, .t (.int .i64 N)), (18, .t (.int .i64 n))],
      ofH (fun _ => none) [(.loc 56 0, .arr 1 ((sourcesD f t n).map I) n 0)], 0⟩) (fun n => n ≤ N) (fun n => N - n) 0 ?_ (by omega) ?_
  · exact (Wk.rows _ _ (fun _ _ => rfl) rfl rfl (by simp -implicitDefEqProofs +decide only [go_sem, ofH, tW, sW, sL] <;> first | rfl | exact ⟨rfl, rfl⟩ | skip) (fun l hp => by cases l <;> first | rfl | cases hp) (by simp -implicitDefEqProofs +decide only [go_sem, tI, sI, tW, sW, sL] <;> first | rfl | skip) (by simp -implicitDefEqProofs +decide only [go_sem, tI, sI, tW, sW]))
  rintro n hn J hJ
  apply run_sound 200
  simp -implicitDefEqProofs +decide only [go_sem, tI, sI, sL]
  refine selP_dec (fun h1 => ?_) (fun h1 => ?_)
  · have hg : ((allD t N).map sI)[n]? = some (sI (digL t (n : Int))) := by rw [List.getElem?_map, allD_get (by omega)]; rfl
    have hw := wS (show n < 1000000000000 by omega)
    have hdl := digL_length t (n : Int)
    have hsl := srcS_length f t (n : Int)
    have hsn := sourcesD_length f t n
    simp -implicitDefEqProofs +decide only [go_sem]
    refine Goes.wk (Wk.nilRow (d := 8) (lab := .loc 49 0) (size := 1) (by simp -implicitDefEqProofs +decide only [go_sem]) (by simp -implicitDefEqProofs +decide only [go_sem, ofH]) rfl (by decide)) ?_
    refine Goes.loop (X := Nat) (fun k => ⟨ofL [(0, tI f), (1, tI t), (5, .t (sL (allD t N))), (6, .sl (.loc 56 0) n 0 n), (7, .t (.int .i64 n)), (8, .sl (.loc 49 0) k 0 k), (17, .t (.int .i64 N)), (18, .t (.int .i64 n)), (22, .t (.int .i64 f.length)), (23, .t (.int .i64 k))],
        ofH (fun _ => none) [(.loc 56 0, .arr 1 ((sourcesD f t n).map I) n 0), (.loc 49 0, .arr 1 (((srcS f t n).take k).map I) k 0)], 0⟩) (fun k => k ≤ f.length) (fun k => f.length - k) 0 ?_ (by omega) ?_
    · exact (Wk.rows _ _ (fun _ _ => rfl) rfl rfl (by simp -implicitDefEqProofs +decide only [go_sem, ofH, tW, sW, sL] <;> first | rfl | exact ⟨rfl, rfl⟩ | skip) (fun l hp => by cases l <;> first | rfl | cases hp) (by simp -implicitDefEqProofs +decide only [go_sem, tI, sI, tW, sW, sL] <;> first | rfl | skip) (by simp -implicitDefEqProofs +decide only [go_sem, tI, sI, tW, sW]))
    rintro k hk J2 hJ2
    apply run_sound 200
    simp -implicitDefEqProofs +decide only [go_sem, tI, sI, sL]
    have htl : ((srcS f t (n : Int)).take k).length = k := by rw [List.length_take]; omega
    refine selP_dec (fun h2 => ?_) (fun h2 => ?_)
    · obtain ⟨x, hx⟩ := getI (show k < f.length by omega)
      obtain ⟨y, hy⟩ := getI (show t.length - f.length + k < (digL t (n : Int)).length by omega)
      have hgg := srcS_get hx hy
      have hwk := wS (show k < 1000000000000 by omega)
      have hkb : k + 1 < big := by unfold big; omega
      have wt1 : IntKind.wrap .i64 ((t.length : Int) - f.length) = ((t.length - f.length : Nat) : Int) := by rw [w64] <;> omega
      have wt2 : IntKind.wrap .i64 (((t.length - f.length : Nat) : Int) + k) = ((t.length - f.length + k : Nat) : Int) := by rw [w64] <;> omega
      simp -implicitDefEqProofs +decide only [go_sem, hx, I]
      refine selP_dec (fun h3 => ?_) (fun h3 => ?_)
      · rw [if_pos h3] at hgg
        have hst : ((srcS f t n).take k).map I ++ [T.int .i64 0] = ((srcS f t n).take (k + 1)).map I := by rw [List.take_add_one, hgg, List.map_append]; rfl
        simp -implicitDefEqProofs +decide only [go_sem, ofH, htl, hkb, hst, hwk]
        refine hJ2 (k + 1) _ (by omega) (by omega) (Wk.rows _ _ (fun _ _ => rfl) rfl rfl (by simp -implicitDefEqProofs +decide only [go_sem, ofH, tW, sW, sL] <;> first | rfl | exact ⟨rfl, rfl⟩ | skip) (fun l hp => by cases l <;> first | rfl | cases hp) (by simp -implicitDefEqProofs +decide only [go_sem, tI, sI, tW, sW, sL] <;> first | rfl | skip) (by simp -implicitDefEqProofs +decide only [go_sem, tI, sI, tW, sW]))
      · rw [if_neg h3] at hgg
        have hst : ((srcS f t n).take k).map I ++ [T.int .i64 y] = ((srcS f t n).take (k + 1)).map I := by rw [List.take_add_one, hgg, List.map_append]; rfl
        simp -implicitDefEqProofs +decide only [go_sem, hg, sI, wt1, wt2, hy, I, ofH, htl, hkb, hst, hwk, Int.toNat_natCast]
        refine hJ2 (k + 1) _ (by omega) (by omega) (Wk.rows _ _ (fun _ _ => rfl) rfl rfl (by simp -implicitDefEqProofs +decide only [go_sem, ofH, tW, sW, sL] <;> first | rfl | exact ⟨rfl, rfl⟩ | skip) (fun l hp => by cases l <;> first | rfl | cases hp) (by simp -implicitDefEqProofs +decide only [go_sem, tI, sI, tW, sW, sL] <;> first | rfl | skip) (by simp -implicitDefEqProofs +decide only [go_sem, tI, sI, tW, sW]))
    · obtain rfl : k = f.length := by omega
      have htk : (srcS f t (n : Int)).take f.length = srcS f t n := List.take_of_length_le (by omega)
      have htk2 : List.take f.length ((srcS f t (n : Int)).map I) = (srcS f t n).map I := List.take_of_length_le (by rw [List.length_map]; omega)
      have c3 := rPlace_ok f (srcS f t n) (srcS_in F)
      have hnb : n + 1 < big := by unfold big; omega
      have hsn2 : (sourcesD f t n).map I ++ [T.int .i64 (placeI f (srcS f t n))] = (sourcesD f t (n + 1)).map I := by rw [← sourcesD_snoc, List.map_append]; rfl
      rw [htk]
      simp -implicitDefEqProofs +decide only [go_sem, ofH, htk2, List.length_map]
      refine CallG.P _ Tryz.call94 (c3) ?_
      simp -implicitDefEqProofs +decide only [go_sem, ofH, hsn, hnb, hsn2, hw, List.length_map]
      refine hJ (n + 1) _ (by omega) (by omega) (Wk.rows _ _ (fun _ _ => rfl) rfl rfl (by simp -implicitDefEqProofs +decide only [go_sem, ofH, tW, sW, sL] <;> first | rfl | exact ⟨rfl, rfl⟩ | skip) (fun l hp => by cases l <;> first | rfl | cases hp) (by simp -implicitDefEqProofs +decide only [go_sem, tI, sI, tW, sW, sL] <;> first | rfl | skip) (by simp -implicitDefEqProofs +decide only [go_sem, tI, sI, tW, sW]))
  · obtain rfl : n = N := by omega
    have hsn := sourcesD_length f t n
    simp -implicitDefEqProofs +decide only [go_sem, ofH]
    exact endF.row1 (.inr rfl) (by simp -implicitDefEqProofs +decide only [go_sem]; rfl) (by simp -implicitDefEqProofs +decide only [go_sem]; rfl) (by rw [List.length_map, hsn]) (fun l hp => by cases l <;> first | rfl | cases hp) rfl
end Go.Fm
/- Products' elements, as the reference tells them: the arithmetic. -/
namespace Go.Fm
open Go.Proofs
set_option maxRecDepth 100000

theorem chk_take {d : List Int} (h : chk d = 0) (k : Nat) : chk (d.take k) = 0 := by
  obtain ⟨h1, h2, _, h4⟩ := chk0 h
  have h5 := prodL_le h2 k
  have h6 : (d.take k).length ≤ 6 := by rw [List.length_take]; omega
  have h7 : ¬ ∃ x ∈ d.take k, x < 1 := fun ⟨x, hx, hl⟩ => by have := h2 x (List.mem_of_mem_take hx); omega
  unfold chk
  rw [if_neg (by omega), if_neg h7, if_neg (by omega)]
theorem digL_two {d : List Int} {r c i : Int} (hr : 1 ≤ r) (hc : 1 ≤ c) (hi : 0 ≤ i) (hd : ∀ y ∈ d, 1 ≤ y) (hlt : i < prodL d * r * c) :
    digL (d ++ [r, c]) i = digL d (i / (r * c)) ++ [i / c % r, i % c] := by
  have e1 : d ++ [r, c] = (d ++ [r]) ++ [c] := by simp
  have h1 : 0 ≤ i / c := Int.ediv_nonneg hi (by omega)
  have h2 : i / c * c + i % c = i := Int.ediv_mul_add_emod i c
  have h3 : i / c / r * r + i / c % r = i / c := Int.ediv_mul_add_emod (i / c) r
  have h4 : i / c / r = i / (r * c) := by rw [Int.ediv_ediv_of_nonneg (by omega), Int.mul_comm]
  have b1 : i / c < prodL d * r := Int.ediv_lt_of_lt_mul (by omega) hlt
  have b2 : i / c / r < prodL d := Int.ediv_lt_of_lt_mul (by omega) b1
  have h5 : 0 ≤ i / c / r := Int.ediv_nonneg h1 (by omega)
  have s1 := digL_snoc (d := d ++ [r]) (m := c) (k := i / c) (x := i % c) (Int.emod_nonneg _ (by omega)) (Int.emod_lt_of_pos _ (by omega)) h1 (by rw [prodL_append, prodL_one]; exact b1) (fun y hy => by
    rcases List.mem_append.1 hy with h | h
    · exact hd y h
    · rw [List.mem_singleton.1 h]; exact hr)
  have s2 := digL_snoc (d := d) (m := r) (k := i / c / r) (x := i / c % r) (Int.emod_nonneg _ (by omega)) (Int.emod_lt_of_pos _ (by omega)) h5 b2 hd
  rw [h2] at s1
  rw [h3] at s2
  rw [e1, s1, s2, h4, List.append_assoc]; rfl

theorem chk_mem_le {d : List Int} (h : chk d = 0) {i : Nat} {x : Int} (hx : d[i]? = some x) : 1 ≤ x ∧ x ≤ 64 := by
  obtain ⟨_, h1, _, h4⟩ := chk0 h
  have h2 := prodL_snoc hx
  have h3 := prodL_le h1 (i + 1)
  have h5 := prodL_pos (d := d.take i) fun y hy => h1 y (List.mem_of_mem_take hy)
  have h6 := h1 x (List.mem_of_getElem? hx)
  have h7 := Int.mul_le_mul_of_nonneg_right h5 (show 0 ≤ x by omega)
  omega
theorem mul_bnd {x y m n : Int} (hx : 0 ≤ x) (hxm : x ≤ m) (hy : 0 ≤ y) (hyn : y ≤ n) : 0 ≤ x * y ∧ x * y ≤ m * n :=
  ⟨Int.mul_nonneg hx hy, Int.mul_le_mul hxm hyn hy (by omega)⟩
theorem last2 {l : List Int} {x y : Int} (h : 2 ≤ l.length) (hx : l[l.length - 2]? = some x) (hy : l[l.length - 1]? = some y) : l = l.take (l.length - 2) ++ [x, y] := by
  apply List.ext_getElem?
  intro i
  rcases Nat.lt_or_ge i (l.length - 2) with g | g
  · rw [List.getElem?_append_left (by rw [List.length_take]; omega), List.getElem?_take_of_lt g]
  · rw [List.getElem?_append_right (by rw [List.length_take]; omega), List.length_take, show i - min (l.length - 2) l.length = i - (l.length - 2) by omega]
    rcases Nat.lt_or_ge i (l.length - 1) with g2 | g2
    · obtain rfl : i = l.length - 2 := by omega
      rw [hx, Nat.sub_self]; rfl
    · rcases Nat.lt_or_ge i l.length with g3 | g3
      · obtain rfl : i = l.length - 1 := by omega
        rw [hy, show l.length - 1 - (l.length - 2) = 1 by omega]; rfl
      · rw [List.getElem?_eq_none g3, List.getElem?_eq_none (by simp; omega)]

theorem place_src {d p q : List Int} {f : Nat} {row col A B : Int} {rows : List Int} {n : Int} (hd : 2 ≤ d.length) (hA : d[d.length - 2]? = some A) (hB : d[d.length - 1]? = some B)
    (hc : chk d = 0) (hf : f = rows.length + 2 - d.length) (hl : d.length ≤ rows.length + 2) (hp : p = digL rows n ++ q) :
    placeI d (srcAt d p f row col) = srcN (d.take (d.length - 2)) rows n * A * B + row * B + col := by
  obtain ⟨s, hs⟩ : ∃ s, srcAt d p f row col = s := ⟨_, rfl⟩
  have sl : s.length = d.length := by rw [← hs]; exact srcAt_length hd
  have sr : s[d.length - 2]? = some row := by rw [← hs]; exact srcAt_row
  have sc : s[d.length - 2 + 1]? = some col := by rw [← hs]; exact srcAt_col
  have hB' : d[d.length - 2 + 1]? = some B := by rw [← hB]; congr 1; omega
  have e1 := placeI_snoc hB' sc
  have e2 := placeI_snoc hA sr
  rw [show d.length - 2 + 1 + 1 = d.length by omega, placeI_take sl] at e1
  rw [hs, e1, e2]
  have e3 : s.take (d.length - 2) = srcS (d.take (d.length - 2)) rows n := by
    rw [← hs]
    unfold srcAt srcS
    rw [List.take_append_of_le_length (by simp), List.take_of_length_le (by simp), List.length_take, Nat.min_eq_left (by omega)]
    refine List.map_congr_left fun i hi => ?_
    have hi := List.mem_range.1 hi
    obtain ⟨m, hm⟩ := getI (show i < d.length by omega)
    have h1 := (chk0 hc).2.1 m (List.mem_of_getElem? hm)
    have em : (d.take (d.length - 2)).getD i 0 = m := by rw [List.getD_eq_getElem?_getD, List.getElem?_take_of_lt hi, hm]; rfl
    have ep : p.getD (f + i) 0 = (digL rows n).getD (rows.length - (d.length - 2) + i) 0 := by
      rw [hp, List.getD_eq_getElem?_getD, List.getElem?_append_left (by rw [digL_length]; omega), List.getD_eq_getElem?_getD]
      congr 2
      omega
    rw [em, getD_of hm, ep]
    by_cases h : m = 1
    · rw [if_pos h, if_neg (by omega)]
    · rw [if_neg h, if_pos (by omega)]
  rw [e3]
  unfold srcN
  rw [Int.add_mul]
end Go.Fm
/- Products' elements, by the reference. -/
namespace Go.Fm
open Go.Proofs
set_option maxRecDepth 100000
attribute [local irreducible] tiOf

def sP (l : List (Int × Int)) : T := .slice (l.map tP)
def allT (a b out : List Int) (n : Nat) : List (List (Int × Int)) := (List.range n).map fun (i : Nat) => termsM a b out (i : Int)
theorem allT_length (a b out : List Int) (n : Nat) : (allT a b out n).length = n := by simp [allT]
theorem allT_snoc (a b out : List Int) (n : Nat) : allT a b out n ++ [termsM a b out (n : Int)] = allT a b out (n + 1) := by simp [allT, List.range_succ]
theorem allT_get {a b out : List Int} {n i : Nat} (h : i < n) : (allT a b out n)[i]? = some (termsM a b out (i : Int)) := by simp [allT, h]

set_option maxHeartbeats 1000000 in
theorem rTerms_ok (a b out : List Int) (hm : mdims a b = (out, 0)) : Pure Tryz.prog 59 [sI a, sI b] [.t (.slice ((allT a b out (prodL out).toNat).map sP))] := by
  have H := mdims_inv hm
  have la6 := (chk0 H.ca).1
  have lb6 := (chk0 H.cb).1
  obtain ⟨lo6, ho1, hP1, hP2⟩ := chk0 H.co
  have l1 := H.la
  have l2 := H.lb
  have l3 := H.lo
  have c1 := rDims_ok a b out 0 (by omega) (by omega) hm
  -- the rows
  have hrk := H.rk
  have hrows : out.take (out.length - 2) = spr (a.take (a.length - 2)) (b.take (b.length - 2)) := by
    rw [l3]
    conv => lhs; rw [H.eo]
    rw [List.take_append_of_le_length (by rw [spr_length, hrk]; exact Nat.le_refl _), List.take_of_length_le (by rw [spr_length, hrk]; exact Nat.le_refl _)]
  have hcr := chk_take H.co (out.length - 2)
  have f1 := spr_idem1 H.nc
  have f2 := spr_idem2 H.nc
  rw [← hrows] at f1 f2
  obtain ⟨rows, hrw⟩ : ∃ rows, out.take (out.length - 2) = rows := ⟨_, rfl⟩
  rw [hrw] at hcr f1 f2
  have hrl : rows.length = out.length - 2 := by rw [← hrw, List.length_take]; omega
  have t1 := fit_twoS (chk_take H.ca _) hcr f1.1 f1.2
  have t2 := fit_twoS (chk_take H.cb _) hcr f2.1 f2.2
  have c2 := rSources_ok _ _ t1
  have c3 := rSources_ok _ _ t2
  have c4 := rAll_ok out H.co
  obtain ⟨A, hA⟩ := getI (show a.length - 2 < a.length by omega)
  obtain ⟨K, hK⟩ := getI (show a.length - 1 < a.length by omega)
  obtain ⟨B, hB⟩ := getI (show b.length - 2 < b.length by omega)
  obtain ⟨C, hC⟩ := getI (show b.length - 1 < b.length by omega)
  have hR := H.row
  have hCC := H.col
  rw [hA] at hR
  rw [hC] at hCC
  have hout := last2 (by omega) hR hCC
  rw [hrw] at hout
  have hr1 : ∀ y ∈ rows, 1 ≤ y := fun y hy => ho1 y (by rw [hout]; exact List.mem_append_left _ hy)
  have hA1 := (chk0 H.ca).2.1 A (List.mem_of_getElem? hA)
  have hC1 := (chk0 H.cb).2.1 C (List.mem_of_getElem? hC)
  have hK1 := (chk0 H.ca).2.1 K (List.mem_of_getElem? hK)
  have hprod : prodL out = prodL rows * A * C := by
    conv => lhs; rw [hout]
    rw [prodL_append, Int.mul_assoc]
    congr 1
    simp [prodL]
  have hpr := prodL_pos hr1
  have bA := chk_mem_le H.ca hA
  have bK := chk_mem_le H.ca hK
  have bB := chk_mem_le H.cb hB
  have bC := chk_mem_le H.cb hC
  have bAC := mul_bnd (show 0 ≤ A by omega) bA.2 (show 0 ≤ C by omega) bC.2
  have hAC1 : 1 ≤ A * C := Int.mul_le_mul bA.1 bC.1 (by omega) (by omega)
  have hR' : out[out.length - 2]? = some A := hR
  have hC' : out[out.length - 1]? = some C := hCC
  obtain ⟨N, hN⟩ : ∃ N, (prodL out).toNat = N := ⟨_, rfl⟩
  obtain ⟨M, hM⟩ : ∃ M, (prodL rows).toNat = M := ⟨_, rfl⟩
  rw [hN] at c4 ⊢
  rw [hM] at c2 c3
  obtain ⟨ra, hra⟩ : ∃ ra, a.take (a.length - 2) = ra := ⟨_, rfl⟩
  obtain ⟨rb, hrb⟩ : ∃ rb, b.take (b.length - 2) = rb := ⟨_, rfl⟩
  rw [hra] at c2 t1
  rw [hrb] at c3 t2
  have hM64 := (chk0 hcr).2.2
  have F1 := twoS_fit t1
  have F2 := twoS_fit t2
  have wa1 : IntKind.wrap .i64 ((a.length : Int) - 1) = ((a.length - 1 : Nat) : Int) := by rw [w64] <;> omega
  have wa2 : IntKind.wrap .i64 ((a.length : Int) - 2) = ((a.length - 2 : Nat) : Int) := by rw [w64] <;> omega
  have wb1 : IntKind.wrap .i64 ((b.length : Int) - 1) = ((b.length - 1 : Nat) : Int) := by rw [w64] <;> omega
  have wb2 : IntKind.wrap .i64 ((b.length : Int) - 2) = ((b.length - 2 : Nat) : Int) := by rw [w64] <;> omega
  have wo1 : IntKind.wrap .i64 ((out.length : Int) - 1) = ((out.length - 1 : Nat) : Int) := by rw [w64] <;> omega
  have wo2 : IntKind.wrap .i64 ((out.length : Int) - 2) = ((out.length - 2 : Nat) : Int) := by rw [w64] <;> omega
  have lta : a.length - 2 ≤ a.length := by omega
  have ltb : b.length - 2 ≤ b.length := by omega
  have lto : out.length - 2 ≤ out.length := by omega
  have hta : List.take (a.length - 2) (a.map I) = ra.map I := by rw [← hra]; exact List.map_take.symm
  have htb : List.take (b.length - 2) (b.map I) = rb.map I := by rw [← hrb]; exact List.map_take.symm
  have hto : List.take (out.length - 2) (out.map I) = rows.map I := by rw [← hrw]; exact List.map_take.symm
  have wAC : IntKind.wrap .i64 (A * C) = A * C := by rw [w64] <;> omega
  have hal := allD_length out N
  refine Pure.intro Tryz.func59 rfl (rt := [4]) rfl (by simp [Tryz.ntmps59]) (by decide) (sites := fun _ => false) ?_
  apply run_sound 200
  simp -implicitDefEqProofs +decide only [go_sem, sI]
  refine CallG.PS _ Tryz.call58 (c1) ?_
  simp -implicitDefEqProofs +decide only [go_sem, sI, wo2, lto, hto, Int.toNat_natCast, List.drop_zero]
  refine Goes.drawN mixed ?_
  simp -implicitDefEqProofs +decide only [go_sem, sI, wa2, lta, hta, Int.toNat_natCast, List.drop_zero]
  refine CallD.PS _ Tryz.call40 c2 ?_
  simp -implicitDefEqProofs +decide only [go_sem, sI, wb2, ltb, htb, Int.toNat_natCast, List.drop_zero]
  refine CallD.PS _ Tryz.call40 c3 ?_
  simp -implicitDefEqProofs +decide only [go_sem]
  refine ⟨.mk (by kernel_rfl), ?_⟩
  apply run_sound 200
  simp -implicitDefEqProofs +decide only [go_sem, sI]
  refine CallG.PS _ Tryz.call82 (c4) ?_
  simp -implicitDefEqProofs +decide only [go_sem]
  refine Goes.drawN mixed ?_
  simp -implicitDefEqProofs +decide only [go_sem, wo1, wo2, hR', hC', I, Int.toNat_natCast, wAC]
  refine ⟨.mk (by kernel_rfl), ?_⟩
  apply run_sound 200
  simp -implicitDefEqProofs +decide only [go_sem, sL, hal, List.length_map]
  refine Goes.wk (Wk.nilRow (d := 14) (lab := .loc 163 0) (size := 1) (by simp -implicitDefEqProofs +decide only [go_sem]) (by simp -implicitDefEqProofs +decide only [go_sem]) rfl (by decide)) ?_
  refine Goes.loop (X := Nat) (fun i => ⟨ofL [(0, tI a), (1, tI b), (5, tI out), (7, .t (.int .i64 a.length)), (8, .t (.int .i64 b.length)), (10, .t (sI (sourcesD ra rows M))), (11, .t (sI (sourcesD rb rows M))), (12, .t (sL (allD out N))), (13, .t (.int .i64 (A * C))), (14, .sl (.loc 163 0) i 0 i), (67, .t (.int .i64 N)), (68, .t (.int .i64 i))],
      ofH (fun _ => none) [(.loc 163 0, .arr 1 ((allT a b out i).map sP) i 0)], 0⟩) (fun i => i ≤ N) (fun i => N - i) 0 ?_ (by omega) ?_
  · exact (Wk.rows _ _ (fun _ _ => rfl) rfl rfl (by simp -implicitDefEqProofs +decide only [go_sem, ofH, tW, sW, sL] <;> first | rfl | exact ⟨rfl, rfl⟩ | skip) (fun l hp => by cases l <;> first | rfl | cases hp) (by simp -implicitDefEqProofs +decide only [go_sem, tI, sI, tW, sW, sL] <;> first | rfl | skip) (by simp -implicitDefEqProofs +decide only [go_sem, tI, sI, tW, sW]))
  rintro i hi J hJ
  apply run_sound 200
  simp -implicitDefEqProofs +decide only [go_sem, tI, sI, sL]
  refine selP_dec (fun h1 => ?_) (fun h1 => ?_)
  · have hg : ((allD out N).map sI)[i]? = some (sI (digL out (i : Int))) := by rw [List.getElem?_map, allD_get (by omega)]; rfl
    have hiN : (i : Int) < prodL out := by omega
    have hdl := digL_length out (i : Int)
    have hpin := digit_in (n := (i : Int)) H.co
    obtain ⟨row, hrow⟩ := getI (show out.length - 2 < (digL out (i : Int)).length by omega)
    obtain ⟨col, hcol⟩ := getI (show out.length - 1 < (digL out (i : Int)).length by omega)
    have brow := hpin.b _ _ _ hrow hR'
    have bcol := hpin.b _ _ _ hcol hC'
    have hw := wS (show i < 1000000000000 by omega)
    simp -implicitDefEqProofs +decide only [go_sem]
    refine Goes.drawN mixed ?_
    simp -implicitDefEqProofs +decide only [go_sem, hg, sI, wo1, wo2, hrow, hcol, I, Int.toNat_natCast]
    refine ⟨.mk (by kernel_rfl), ?_⟩
    apply run_sound 200
    simp -implicitDefEqProofs +decide only [go_sem, wa1, hK, I, Int.toNat_natCast]
    refine Goes.wk (Wk.nilRow (d := 18) (lab := .loc 158 0) (size := 2) (by simp -implicitDefEqProofs +decide only [go_sem]) (by simp -implicitDefEqProofs +decide only [go_sem, ofH]) rfl (by decide)) ?_
    refine Goes.loop (X := Nat) (fun k => ⟨ofL [(0, tI a), (1, tI b), (5, tI out), (7, .t (.int .i64 a.length)), (8, .t (.int .i64 b.length)), (10, .t (sI (sourcesD ra rows M))), (11, .t (sI (sourcesD rb rows M))), (12, .t (sL (allD out N))), (13, .t (.int .i64 (A * C))), (14, .sl (.loc 163 0) i 0 i), (15, .t (.int .i64 i)), (16, .t (.int .i64 row)), (17, .t (.int .i64 col)), (18, .sl (.loc 158 0) k 0 k), (67, .t (.int .i64 N)), (68, .t (.int .i64 i)), (93, .t (.int .i64 K)), (94, .t (.int .i64 k))],
        ofH (fun _ => none) [(.loc 163 0, .arr 1 ((allT a b out i).map sP) i 0), (.loc 158 0, .arr 2 ((pairsL a b out (digL out i) row col k).map tP) k 0)], 0⟩) (fun k => k ≤ K.toNat) (fun k => K.toNat - k) 0 ?_ (by omega) ?_
    · exact (Wk.rows _ _ (fun _ _ => rfl) rfl rfl (by simp -implicitDefEqProofs +decide only [go_sem, ofH, tW, sW, sL] <;> first | rfl | exact ⟨rfl, rfl⟩ | skip) (fun l hp => by cases l <;> first | rfl | cases hp) (by simp -implicitDefEqProofs +decide only [go_sem, tI, sI, tW, sW, sL] <;> first | rfl | skip) (by simp -implicitDefEqProofs +decide only [go_sem, tI, sI, tW, sW]))
    rintro k hk J2 hJ2
    apply run_sound 200
    simp -implicitDefEqProofs +decide only [go_sem, tI, sI, sL]
    have hpll := pairsL_length a b out (digL out (i : Int)) row col k
    refine selP_dec (fun h2 => ?_) (fun h2 => ?_)
    · have hkK : (k : Int) < K := by omega
      obtain ⟨q, hq⟩ : ∃ q : Nat, (q : Int) = (i : Int) / (A * C) := ⟨((i : Int) / (A * C)).toNat, Int.toNat_of_nonneg (Int.ediv_nonneg (by omega) (by omega))⟩
      have hqM : q < M := by
        have := Int.ediv_lt_of_lt_mul (a := (i : Int)) (c := A * C) (b := prodL rows) (by omega) (by rw [← Int.mul_assoc, ← hprod]; exact hiN)
        omega
      have hsplit := digL_two (d := rows) (r := A) (c := C) (i := (i : Int)) hA1 hC1 (by omega) hr1 (by rw [← hprod]; exact hiN)
      rw [← hout, ← hq] at hsplit
      have p1 := place_src (f := out.length - a.length) (row := row) (col := (k : Int)) l1 hA hK H.ca (by omega) (by omega) hsplit
      have p2 := place_src (f := out.length - b.length) (row := (k : Int)) (col := col) l2 hB hC H.cb (by omega) (by omega) hsplit
      rw [hra] at p1
      rw [hrb] at p2
      have x1 := sourcesD_get (f := ra) (t := rows) hqM
      have x2 := sourcesD_get (f := rb) (t := rows) hqM
      have bX := (srcS_in (n := (q : Int)) F1).lt (Nat.le_refl _)
      have bY := (srcS_in (n := (q : Int)) F2).lt (Nat.le_refl _)
      rw [placeI_take (srcS_length _ _ _)] at bX bY
      have hX : srcN ra rows (q : Int) = placeI ra (srcS ra rows q) := rfl
      have hY : srcN rb rows (q : Int) = placeI rb (srcS rb rows q) := rfl
      rw [← hX] at bX
      rw [← hY] at bY
      generalize srcN ra rows (q : Int) = X at *
      generalize srcN rb rows (q : Int) = Y at *
      have m1 := mul_bnd bX.1 (show X ≤ 64 by omega) (show 0 ≤ A by omega) bA.2
      have m2 := mul_bnd m1.1 m1.2 (show 0 ≤ K by omega) bK.2
      have m3 := mul_bnd brow.1 (show row ≤ 64 by omega) (show 0 ≤ K by omega) bK.2
      have m4 := mul_bnd bY.1 (show Y ≤ 64 by omega) (show 0 ≤ B by omega) bB.2
      have m5 := mul_bnd m4.1 m4.2 (show 0 ≤ C by omega) bC.2
      have m6 := mul_bnd (show (0 : Int) ≤ k by omega) (show (k : Int) ≤ 64 by omega) (show 0 ≤ C by omega) bC.2
      have w1 : IntKind.wrap .i64 (X * A) = X * A := by rw [w64] <;> omega
      have w2 : IntKind.wrap .i64 (X * A * K) = X * A * K := by rw [w64] <;> omega
      have w3 : IntKind.wrap .i64 (row * K) = row * K := by rw [w64] <;> omega
      have w4 : IntKind.wrap .i64 (X * A * K + row * K) = X * A * K + row * K := by rw [w64] <;> omega
      have w5 : IntKind.wrap .i64 (X * A * K + row * K + k) = placeI a (srcAt a (digL out i) (out.length - a.length) row k) := by rw [w64, p1] <;> omega
      have v1 : IntKind.wrap .i64 (Y * B) = Y * B := by rw [w64] <;> omega
      have v2 : IntKind.wrap .i64 (Y * B * C) = Y * B * C := by rw [w64] <;> omega
      have v3 : IntKind.wrap .i64 (k * C) = k * C := by rw [w64] <;> omega
      have v4 : IntKind.wrap .i64 (Y * B * C + k * C) = Y * B * C + k * C := by rw [w64] <;> omega
      have v5 : IntKind.wrap .i64 (Y * B * C + k * C + col) = placeI b (srcAt b (digL out i) (out.length - b.length) k col) := by rw [w64, p2] <;> omega
      have wq : IntKind.wrap .i64 (Int.tdiv (i : Int) (A * C)) = (q : Int) := by rw [Int.tdiv_eq_ediv_of_nonneg (by omega), ← hq, w64] <;> omega
      have hne : ¬ A * C = 0 := by omega
      have hwk := wS (show k < 1000000000000 by omega)
      have hkb : k + 1 < big := by unfold big; omega
      have hsn := pairsL_snoc a b out (digL out (i : Int)) row col k
      simp -implicitDefEqProofs +decide only [go_sem]
      refine Goes.drawN mixed ?_
      simp -implicitDefEqProofs +decide only [go_sem, hne, wq, x1, wa1, wa2, hA, hK, I, w1, w2, w3, w4, w5, Int.toNat_natCast]
      refine ⟨.mk (by kernel_rfl), ?_⟩
      apply run_sound 200
      simp -implicitDefEqProofs +decide only [go_sem]
      refine Goes.drawN mixed ?_
      simp -implicitDefEqProofs +decide only [go_sem, hne, wq, x2, wb1, wb2, hB, hC, I, v1, v2, v3, v4, v5, Int.toNat_natCast]
      refine ⟨.mk (by kernel_rfl), ?_⟩
      apply run_sound 200
      simp -implicitDefEqProofs +decide only [go_sem, ofH, hpll, hkb, hsn, hwk, List.length_map]
      refine hJ2 (k + 1) _ (by omega) (by omega) (Wk.rows _ _ (fun _ _ => rfl) rfl rfl (by simp -implicitDefEqProofs +decide only [go_sem, ofH, tW, sW, sL] <;> first | rfl | exact ⟨rfl, rfl⟩ | skip) (fun l hp => by cases l <;> first | rfl | cases hp) (by simp -implicitDefEqProofs +decide only [go_sem, tI, sI, tW, sW, sL] <;> first | rfl | skip) (by simp -implicitDefEqProofs +decide only [go_sem, tI, sI, tW, sW]))
    · obtain rfl : k = K.toNat := by omega
      have htm : pairsL a b out (digL out (i : Int)) row col K.toNat = termsM a b out i := by
        unfold termsM; rw [getD_of hrow, getD_of hcol, getD_of hK]
      have hib : i + 1 < big := by unfold big; omega
      have hatl := allT_length a b out i
      have hsn : (allT a b out i).map sP ++ [T.slice ((termsM a b out (i : Int)).map tP)] = (allT a b out (i + 1)).map sP := by rw [← allT_snoc, List.map_append]; rfl
      rw [htm]
      rw [htm] at hpll
      have htk : List.take K.toNat ((termsM a b out (i : Int)).map tP) = (termsM a b out (i : Int)).map tP := List.take_of_length_le (by rw [List.length_map]; omega)
      simp -implicitDefEqProofs +decide only [go_sem, ofH, htk, hatl, hib, hsn, hw, List.length_map]
      refine hJ (i + 1) _ (by omega) (by omega) (Wk.rows _ _ (fun _ _ => rfl) rfl rfl (by simp -implicitDefEqProofs +decide only [go_sem, ofH, tW, sW, sL] <;> first | rfl | exact ⟨rfl, rfl⟩ | skip) (fun l hp => by cases l <;> first | rfl | cases hp) (by simp -implicitDefEqProofs +decide only [go_sem, tI, sI, tW, sW, sL] <;> first | rfl | skip) (by simp -implicitDefEqProofs +decide only [go_sem, tI, sI, tW, sW]))
  · obtain rfl : i = N := by omega
    have hatl := allT_length a b out i
    simp -implicitDefEqProofs +decide only [go_sem, ofH]
    exact endF.row1 (.inr rfl) (by simp -implicitDefEqProofs +decide only [go_sem]; rfl) (by simp -implicitDefEqProofs +decide only [go_sem]; rfl) (by rw [List.length_map, hatl]) (fun l hp => by cases l <;> first | rfl | cases hp) rfl
end Go.Fm
