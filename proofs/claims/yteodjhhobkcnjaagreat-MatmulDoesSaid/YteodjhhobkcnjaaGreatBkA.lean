/- Scalars and banks, exact or of doubles. -/
import Derived.Test.YteodjhhobkcnjaaGreatDbA
import Derived.Test.YteodjhhobkcnjaaGreatLuA
import Derived.Test.YteodjhhobkcnjaaGreatMuA
import Derived.Test.YteodjhhobkcnjaaGreatDbB
set_option linter.unusedVariables false
set_option linter.unusedSimpArgs false
namespace Go.Fm
open Go.Proofs
set_option maxRecDepth 100000
attribute [local irreducible] tiOf

inductive Vx where
  | q (r : Rat) | d (b : Nat)
namespace Vx
def sc : Vx → Sc
  | .q r => scR r
  | .d b => ⟨⟨false, [], []⟩, b, 0⟩
def md : Vx → Int
  | .q _ => 0
  | .d _ => 1
def B (n : Nat) : Vx → Prop
  | .q r => QB r n
  | .d b => b < 18446744073709551616
def neg (v : Vx) : Bool := v.sc.x.neg
def p (v : Vx) : List Nat := v.sc.x.p
def qq (v : Vx) : List Nat := v.sc.x.q
def bits (v : Vx) : Nat := v.sc.b
def T (v : Vx) : T := v.sc.T
end Vx
theorem Vx_T (v : Vx) : v.T = .agg [.bool v.neg, sW v.p, sW v.qq, .int .u64 v.bits, .int .i64 0] := by cases v <;> rfl
theorem Vx_d (b : Nat) : (Vx.d b).T = .agg [.bool false, .slice [], .slice [], .int .u64 b, .int .i64 0] := rfl
theorem Vx.B.mono {v : Vx} {a b : Nat} (h : v.B a) (hab : a ≤ b) : v.B b := by
  cases v with
  | q r => exact QB.mono h hab
  | d x => exact h
theorem noPtr_Vx (v : Vx) : noPtr v.T = true := noPtr_Sc _
theorem noPtrL_Vx (l : List Vx) : noPtrL (l.map Vx.T) = true := by
  induction l with
  | nil => rfl
  | cons x r ih => rw [List.map_cons, noPtrL, ih, noPtr_Vx]; rfl
def sX (l : List Vx) : T := .slice (l.map Vx.T)
theorem noPtr_sX (l : List Vx) : noPtr (sX l) = true := by unfold sX; rw [noPtr, noPtrL_Vx]
theorem noPtr_sXU (l : List Vx) : noPtr (.slice (l.map Vx.T)) = true := noPtr_sX l
attribute [go_sem] noPtr_Vx noPtr_sX noPtr_sXU
theorem sX_S (l : List Vx) : sX l = sS (l.map Vx.sc) := by unfold sX sS; rw [List.map_map]; rfl

def addV : Vx → Vx → Vx
  | .q r, .q s => .q (r + s)
  | .d a, .d b => .d (addD a b)
  | _, _ => .q 0
def subV : Vx → Vx → Vx
  | .q r, .q s => .q (r - s)
  | .d a, .d b => .d (addD a (flipD b))
  | _, _ => .q 0
def mulV : Vx → Vx → Vx
  | .q r, .q s => .q (r * s)
  | .d a, .d b => .d (mulD a b)
  | _, _ => .q 0
theorem addV_md {x y : Vx} (h : x.md = y.md) : (addV x y).md = x.md := by cases x <;> cases y <;> first | rfl | (simp [Vx.md] at h)
theorem mulV_md {x y : Vx} (h : x.md = y.md) : (mulV x y).md = x.md := by cases x <;> cases y <;> first | rfl | (simp [Vx.md] at h)
theorem sgnD_lt {neg : Bool} {b : Nat} (h : b < 9223372036854775808) : sgnD neg b < 18446744073709551616 := by unfold sgnD; split <;> omega
theorem infD_lt (neg : Bool) : infD neg < 18446744073709551616 := sgnD_lt (by decide)
theorem rndD_lt (neg : Bool) (m : Nat) (e : Int) : rndD neg m e < 18446744073709551616 := by
  unfold rndD
  split
  · exact sgnD_lt (by decide)
  · rename_i h
    split
    · exact infD_lt _
    · rename_i h2
      refine sgnD_lt (encD_lt (by unfold unitD; omega) (by omega) (unitsD_le h))
theorem addD_lt {a b : Nat} (ha : a < 18446744073709551616) (hb : b < 18446744073709551616) : addD a b < 18446744073709551616 := by
  unfold addD
  split
  · decide
  split
  · decide
  split
  · exact ha
  split
  · exact hb
  unfold numsD addE addX
  split
  · exact rndD_lt _ _ _
  split
  · decide
  split
  · exact rndD_lt _ _ _
  · exact rndD_lt _ _ _
theorem mulD_lt (a b : Nat) : mulD a b < 18446744073709551616 := by
  unfold mulD
  split
  · decide
  split
  · split
    · decide
    · exact infD_lt _
  · exact rndD_lt _ _ _
theorem addV_B {x y : Vx} {a b : Nat} (h : x.md = y.md) (hx : x.B a) (hy : y.B b) : (addV x y).B (a + b + 1) := by
  cases x <;> cases y <;> first | exact QB_add hx hy | exact addD_lt hx hy | (simp [Vx.md] at h)
theorem mulV_B {x y : Vx} {a b : Nat} (h : x.md = y.md) (hx : x.B a) (hy : y.B b) : (mulV x y).B (a + b) := by
  cases x <;> cases y <;> first | exact QB_mul hx hy | exact mulD_lt _ _ | (simp [Vx.md] at h)

def bankG (md : Int) (mc : AV) (k : Nat) (tie : Bool) : Obj := .box [.t (.int .i64 md), .t (.int .i64 0), .nil, .t (.slice []), mc, .t (.int .i64 0), .t (.int .i64 k), .t (.bool tie), .t (.int .i64 0)]
theorem upd_hb {h : Heap} {id : Nat} {o : Option Obj} (hb : ∀ l, Lab.pool l = false → h l = none) : ∀ l, Lab.pool l = false → upd h (.obj id) o l = none := fun l hp => by
  rw [upd_ne _ _ _ _ (fun e => by subst e; cases hp)]; exact hb l hp
theorem failsG_ok (h : Heap) (m id k : Nat) (md : Int) (mc : AV) (tie : Bool) (hb : ∀ l, Lab.pool l = false → h l = none) (hk : h (.obj id) = some (bankG md mc k tie)) :
    Ret Tryz.prog 117 [.ptr id] h m [.t (.bool false)] h m := by
  have hl : ∀ d j, h (.loc d j) = none := fun d j => hb _ rfl
  unfold bankG at hk
  refine Ret.intro Tryz.func117 rfl (rt := [2]) rfl (by simp [Tryz.ntmps117]) (by decide) (sites := fun _ => false) hb (Keeps.refl _) ?_
  apply run_sound 200
  simp -implicitDefEqProofs +decide only [go_sem, hk, hl]
  exact endF.oneH (.inr rfl) (by simp -implicitDefEqProofs +decide only [go_sem, hk, hl]) rfl (fun _ _ => rfl) rfl
theorem errG_ok (h : Heap) (m id k : Nat) (md : Int) (mc : AV) (tie : Bool) (hb : ∀ l, Lab.pool l = false → h l = none) (hk : h (.obj id) = some (bankG md mc k tie)) :
    Ret Tryz.prog 17 [.ptr id] h m [.t (.int .i64 0)] h m := by
  have hl : ∀ d j, h (.loc d j) = none := fun d j => hb _ rfl
  unfold bankG at hk
  refine Ret.intro Tryz.func17 rfl (rt := [2]) rfl (by simp [Tryz.ntmps17]) (by decide) (sites := fun _ => false) hb (Keeps.refl _) ?_
  apply run_sound 200
  simp -implicitDefEqProofs +decide only [go_sem, hk, hl]
  exact endF.oneH (.inr rfl) (by simp -implicitDefEqProofs +decide only [go_sem, hk, hl]) rfl (fun _ _ => rfl) rfl

theorem dblAdd_ok (a b : Nat) (ha : a < 18446744073709551616) (hb : b < 18446744073709551616) : Pure Tryz.prog 166 [.int .i64 4, .int .u64 a, .int .u64 b] [.t (.int .u64 (addD a b : Nat))] := by
  have c1 := fadd_ok a b ha hb
  refine Pure.intro Tryz.func166 rfl (rt := [6]) rfl (by simp [Tryz.ntmps166]) (by decide) (sites := fun _ => false) ?_
  apply run_sound 200
  simp -implicitDefEqProofs +decide only [go_sem]
  refine CallG.P _ Tryz.call219 (c1) ?_
  simp -implicitDefEqProofs +decide only [go_sem]
  exact endF.V [(6, .int .u64 (addD a b : Nat))] (vals_t (by simp -implicitDefEqProofs +decide only [go_sem] <;> rfl) rfl vals_nil)
theorem dblMul_ok (a b : Nat) (ha : a < 18446744073709551616) (hb : b < 18446744073709551616) : Pure Tryz.prog 166 [.int .i64 6, .int .u64 a, .int .u64 b] [.t (.int .u64 (mulD a b : Nat))] := by
  have c1 := fmul_ok a b ha hb
  refine Pure.intro Tryz.func166 rfl (rt := [6]) rfl (by simp [Tryz.ntmps166]) (by decide) (sites := fun _ => false) ?_
  apply run_sound 200
  simp -implicitDefEqProofs +decide only [go_sem]
  refine CallG.P _ Tryz.call221 (c1) ?_
  simp -implicitDefEqProofs +decide only [go_sem]
  exact endF.V [(6, .int .u64 (mulD a b : Nat))] (vals_t (by simp -implicitDefEqProofs +decide only [go_sem] <;> rfl) rfl vals_nil)

theorem doQ_ok (op : Int) (t : Rat) (h : Heap) (m id k : Nat) (mc : AV) (tie : Bool) (r s : Rat) (hb : ∀ l, Lab.pool l = false → h l = none) (hk : h (.obj id) = some (bankG 0 mc k tie)) (hkb : k < 1000000000)
    (he : ∀ (h : Heap), (∀ l, Lab.pool l = false → h l = none) → Ret Tryz.prog 165 [.ptr id, .int .i64 op, (qR r).T, (qR s).T] h m [.t (qR t).T] h m) :
    Ret Tryz.prog 110 [.ptr id, .int .i64 op, vT r, vT s, .bool true] h m [.t (vT t)] (upd h (.obj id) (some (bankG 0 mc (k + 1) tie))) m := by
  have hl : ∀ d j, h (.loc d j) = none := fun d j => hb _ rfl
  have c1 := failsG_ok h m id k 0 mc tie hb hk
  have hb2 : ∀ l, Lab.pool l = false → upd h (.obj id) (some (bankG 0 mc (k + 1) tie)) l = none := upd_hb hb
  have c2 := he (upd h (.obj id) (some (bankG 0 mc (k + 1) tie))) hb2
  have hw := wS (show k < 1000000000000 by omega)
  refine Ret.introC Tryz.func110 rfl (rv := [.c 10 68]) rfl (by simp [Tryz.ntmps110]) (by decide) (sites := fun _ => false) hb2 bank_keeps ?_
  simp only [qT] at c2 ⊢
  simp only [vT_eq]
  apply run_sound 200
  simp -implicitDefEqProofs +decide only [go_sem, hl]
  refine CallG.pool _ Tryz.call117 c1 hb (by rintro (_ | _ | _ | _ | _) hp <;> first | (cases hp; done) | simp -implicitDefEqProofs +decide only [go_sem]) ?_
  apply run_sound 200
  unfold bankG at hk
  simp -implicitDefEqProofs +decide only [go_sem, hk, hw, hl]
  refine CallG.pool _ Tryz.call165 c2 hb2 (by rintro (_ | _ | _ | _ | _) hp <;> first | (cases hp; done) | simp -implicitDefEqProofs +decide only [go_sem, bankG]) ?_
  apply run_sound 200
  unfold bankG
  simp -implicitDefEqProofs +decide only [go_sem, hl, sW]
  exact endC.oneV (.inr rfl) (by first | (simp -implicitDefEqProofs +decide only [go_sem, valC, hl, sW]; done) | (simp -implicitDefEqProofs +decide only [go_sem, valC, hl, sW]; rfl)) (by first | rfl | (simp -implicitDefEqProofs +decide only [go_sem, hl, sW]; done) | (simp -implicitDefEqProofs +decide only [go_sem, hl, sW]; rfl)) (by rintro (_ | _ | _ | _ | _) hp <;> first | (cases hp; done) | simp -implicitDefEqProofs +decide only [go_sem, hl, sW]) rfl
theorem doD_ok (op : Int) (t : Nat) (h : Heap) (m id k : Nat) (mc : AV) (tie : Bool) (a b : Nat) (hb : ∀ l, Lab.pool l = false → h l = none) (hk : h (.obj id) = some (bankG 1 mc k tie)) (hkb : k < 1000000000)
    (he : Pure Tryz.prog 166 [.int .i64 op, .int .u64 a, .int .u64 b] [.t (.int .u64 (t : Nat))]) :
    Ret Tryz.prog 110 [.ptr id, .int .i64 op, (Vx.d a).T, (Vx.d b).T, .bool true] h m [.t (Vx.d t).T] (upd h (.obj id) (some (bankG 1 mc (k + 1) tie))) m := by
  have hl : ∀ d j, h (.loc d j) = none := fun d j => hb _ rfl
  have c1 := failsG_ok h m id k 1 mc tie hb hk
  have hb2 : ∀ l, Lab.pool l = false → upd h (.obj id) (some (bankG 1 mc (k + 1) tie)) l = none := upd_hb hb
  have hw := wS (show k < 1000000000000 by omega)
  refine Ret.introC Tryz.func110 rfl (rv := [.c 10 68]) rfl (by simp [Tryz.ntmps110]) (by decide) (sites := fun _ => false) hb2 bank_keeps ?_
  simp only [Vx_d]
  apply run_sound 200
  simp -implicitDefEqProofs +decide only [go_sem, hl]
  refine CallG.pool _ Tryz.call117 c1 hb (by rintro (_ | _ | _ | _ | _) hp <;> first | (cases hp; done) | simp -implicitDefEqProofs +decide only [go_sem]) ?_
  apply run_sound 200
  unfold bankG at hk
  simp -implicitDefEqProofs +decide only [go_sem, hk, hw, hl]
  refine CallG.P _ Tryz.call166 (he) ?_
  unfold bankG
  simp -implicitDefEqProofs +decide only [go_sem, hl, sW]
  exact endC.oneV (.inr rfl) (by first | (simp -implicitDefEqProofs +decide only [go_sem, valC, hl, sW]; done) | (simp -implicitDefEqProofs +decide only [go_sem, valC, hl, sW]; rfl)) (by first | rfl | (simp -implicitDefEqProofs +decide only [go_sem, hl, sW]; done) | (simp -implicitDefEqProofs +decide only [go_sem, hl, sW]; rfl)) (by rintro (_ | _ | _ | _ | _) hp <;> first | (cases hp; done) | simp -implicitDefEqProofs +decide only [go_sem, hl, sW]) rfl
theorem exQMul_ok (h : Heap) (m id : Nat) (r s : Rat) (hb : ∀ l, Lab.pool l = false → h l = none) (hr : QB r 10000000) (hs : QB s 10000000) :
    Ret Tryz.prog 165 [.ptr id, .int .i64 6, (qR r).T, (qR s).T] h m [.t (qR (r * s)).T] h m := by
  have hl : ∀ d j, h (.loc d j) = none := fun d j => hb _ rfl
  have c1 := mul_okQ r s hr hs
  refine Ret.introC Tryz.func165 rfl (rv := [.c 8 65]) rfl (by simp [Tryz.ntmps165]) (by decide) (sites := fun _ => false) hb (Keeps.refl _) ?_
  simp only [qT] at c1 ⊢
  apply run_sound 200
  simp -implicitDefEqProofs +decide only [go_sem, hl]
  refine CallG.PS _ Tryz.call217 (c1) ?_
  simp -implicitDefEqProofs +decide only [go_sem, hl, sW]
  exact endC.one (.inr rfl) (by first | rfl | (simp -implicitDefEqProofs +decide only [go_sem, valC, hl, sW]; done) | (simp -implicitDefEqProofs +decide only [go_sem, valC, hl, sW]; rfl)) (by first | rfl | (simp -implicitDefEqProofs +decide only [go_sem, hl, sW]; done) | (simp -implicitDefEqProofs +decide only [go_sem, hl, sW]; rfl)) (fun l hp => by cases l <;> first | rfl | cases hp) rfl
theorem exQAdd_ok (h : Heap) (m id : Nat) (r s : Rat) (hb : ∀ l, Lab.pool l = false → h l = none) (hr : QB r 10000000) (hs : QB s 10000000) :
    Ret Tryz.prog 165 [.ptr id, .int .i64 4, (qR r).T, (qR s).T] h m [.t (qR (r + s)).T] h m := by
  have hl : ∀ d j, h (.loc d j) = none := fun d j => hb _ rfl
  have c1 := add_okQ r s hr hs
  refine Ret.introC Tryz.func165 rfl (rv := [.c 8 65]) rfl (by simp [Tryz.ntmps165]) (by decide) (sites := fun _ => false) hb (Keeps.refl _) ?_
  simp only [qT] at c1 ⊢
  apply run_sound 200
  simp -implicitDefEqProofs +decide only [go_sem, hl]
  refine CallG.PS _ Tryz.call215 (c1) ?_
  simp -implicitDefEqProofs +decide only [go_sem, hl, sW]
  exact endC.one (.inr rfl) (by first | rfl | (simp -implicitDefEqProofs +decide only [go_sem, valC, hl, sW]; done) | (simp -implicitDefEqProofs +decide only [go_sem, valC, hl, sW]; rfl)) (by first | rfl | (simp -implicitDefEqProofs +decide only [go_sem, hl, sW]; done) | (simp -implicitDefEqProofs +decide only [go_sem, hl, sW]; rfl)) (fun l hp => by cases l <;> first | rfl | cases hp) rfl

theorem bankMulG_ok (h : Heap) (m id k : Nat) (md : Int) (mc : AV) (tie : Bool) (x y : Vx) (hb : ∀ l, Lab.pool l = false → h l = none) (hk : h (.obj id) = some (bankG md mc k tie)) (hkb : k < 1000000000) (mx : x.md = md) (my : y.md = md) (bx : x.B 10000000) (by' : y.B 10000000) :
    Ret Tryz.prog 56 [.ptr id, x.T, y.T] h m [.t (mulV x y).T] (upd h (.obj id) (some (bankG md mc (k + 1) tie))) m := by
  have hl : ∀ d j, h (.loc d j) = none := fun d j => hb _ rfl
  have c1 : Ret Tryz.prog 110 [.ptr id, .int .i64 6, x.T, y.T, .bool true] h m [.t (mulV x y).T] (upd h (.obj id) (some (bankG md mc (k + 1) tie))) m := by
    subst mx
    cases x with
    | q r => cases y with
      | q s => exact doQ_ok 6 (r * s) h m id k mc tie r s hb hk hkb fun h hb => exQMul_ok h m id r s hb bx by'
      | d b => simp [Vx.md] at my
    | d a => cases y with
      | q s => simp [Vx.md] at my
      | d b => exact doD_ok 6 (mulD a b) h m id k mc tie a b hb hk hkb (dblMul_ok a b bx by')
  refine Ret.introC Tryz.func56 rfl (rv := [.c 6 68]) rfl (by simp [Tryz.ntmps56]) (by decide) (sites := fun _ => false) (upd_hb hb) bank_keeps ?_
  simp only [Vx_T] at c1 ⊢
  apply run_sound 200
  simp -implicitDefEqProofs +decide only [go_sem, hl]
  refine CallG.pool _ Tryz.call110 c1 hb (by rintro (_ | _ | _ | _ | _) hp <;> first | (cases hp; done) | simp -implicitDefEqProofs +decide only [go_sem]) ?_
  apply run_sound 200
  simp -implicitDefEqProofs +decide only [go_sem, hl, sW]
  exact endC.oneV (.inr rfl) (by first | (simp -implicitDefEqProofs +decide only [go_sem, valC, hl, sW]; done) | (simp -implicitDefEqProofs +decide only [go_sem, valC, hl, sW]; rfl)) (by first | rfl | (simp -implicitDefEqProofs +decide only [go_sem, hl, sW]; done) | (simp -implicitDefEqProofs +decide only [go_sem, hl, sW]; rfl)) (by rintro (_ | _ | _ | _ | _) hp <;> first | (cases hp; done) | simp -implicitDefEqProofs +decide only [go_sem, hl, sW]) rfl
theorem bankAddG_ok (h : Heap) (m id k : Nat) (md : Int) (mc : AV) (tie : Bool) (x y : Vx) (hb : ∀ l, Lab.pool l = false → h l = none) (hk : h (.obj id) = some (bankG md mc k tie)) (hkb : k < 1000000000) (mx : x.md = md) (my : y.md = md) (bx : x.B 10000000) (by' : y.B 10000000) :
    Ret Tryz.prog 57 [.ptr id, x.T, y.T] h m [.t (addV x y).T] (upd h (.obj id) (some (bankG md mc (k + 1) tie))) m := by
  have hl : ∀ d j, h (.loc d j) = none := fun d j => hb _ rfl
  have c1 : Ret Tryz.prog 110 [.ptr id, .int .i64 4, x.T, y.T, .bool true] h m [.t (addV x y).T] (upd h (.obj id) (some (bankG md mc (k + 1) tie))) m := by
    subst mx
    cases x with
    | q r => cases y with
      | q s => exact doQ_ok 4 (r + s) h m id k mc tie r s hb hk hkb fun h hb => exQAdd_ok h m id r s hb bx by'
      | d b => simp [Vx.md] at my
    | d a => cases y with
      | q s => simp [Vx.md] at my
      | d b => exact doD_ok 4 (addD a b) h m id k mc tie a b hb hk hkb (dblAdd_ok a b bx by')
  refine Ret.introC Tryz.func57 rfl (rv := [.c 6 68]) rfl (by simp [Tryz.ntmps57]) (by decide) (sites := fun _ => false) (upd_hb hb) bank_keeps ?_
  simp only [Vx_T] at c1 ⊢
  apply run_sound 200
  simp -implicitDefEqProofs +decide only [go_sem, hl]
  refine CallG.pool _ Tryz.call110 c1 hb (by rintro (_ | _ | _ | _ | _) hp <;> first | (cases hp; done) | simp -implicitDefEqProofs +decide only [go_sem]) ?_
  apply run_sound 200
  simp -implicitDefEqProofs +decide only [go_sem, hl, sW]
  exact endC.oneV (.inr rfl) (by first | (simp -implicitDefEqProofs +decide only [go_sem, valC, hl, sW]; done) | (simp -implicitDefEqProofs +decide only [go_sem, valC, hl, sW]; rfl)) (by first | rfl | (simp -implicitDefEqProofs +decide only [go_sem, hl, sW]; done) | (simp -implicitDefEqProofs +decide only [go_sem, hl, sW]; rfl)) (by rintro (_ | _ | _ | _ | _) hp <;> first | (cases hp; done) | simp -implicitDefEqProofs +decide only [go_sem, hl, sW]) rfl
end Go.Fm
/- A product, by the program, on exact numbers or doubles. -/
namespace Go.Fm
open Go.Proofs
set_option maxRecDepth 100000
attribute [local irreducible] tiOf

def dotT2 (xs ys : List Vx) (p : Int × Int) : Vx := mulV (xs.getD p.1.toNat (.q 0)) (ys.getD p.2.toNat (.q 0))
def dotX (xs ys : List Vx) (l : List (Int × Int)) : Vx := match l with
  | [] => .q 0
  | p :: r => r.foldl (fun s p => addV s (dotT2 xs ys p)) (dotT2 xs ys p)
theorem dotX_one {xs ys : List Vx} {l : List (Int × Int)} {p : Int × Int} (h : l[0]? = some p) : dotX xs ys (l.take 1) = dotT2 xs ys p := by
  cases l with
  | nil => simp at h
  | cons a r => simp at h; subst h; rfl
theorem dotX_snoc {xs ys : List Vx} {l : List (Int × Int)} {i : Nat} {p : Int × Int} (h : l[i + 1]? = some p) : dotX xs ys (l.take (i + 1 + 1)) = addV (dotX xs ys (l.take (i + 1))) (dotT2 xs ys p) := by
  cases l with
  | nil => simp at h
  | cons a r =>
    rw [List.getElem?_cons_succ] at h
    rw [List.take_succ_cons, List.take_succ_cons]
    show (r.take (i + 1)).foldl _ _ = addV ((r.take i).foldl _ _) _
    rw [List.take_add_one, h, Option.toList_some, List.foldl_append]; rfl
theorem dotT2_nat {xs ys : List Vx} {q1 q2 : Nat} {r s : Vx} (h1 : xs[q1]? = some r) (h2 : ys[q2]? = some s) : dotT2 xs ys ((q1 : Int), (q2 : Int)) = mulV r s := by
  unfold dotT2
  simp [List.getD_eq_getElem?_getD, h1, h2]
def AllX (md : Int) (n : Nat) (l : List Vx) : Prop := ∀ v ∈ l, v.md = md ∧ v.B n
theorem dotX_ok {xs ys : List Vx} {md : Int} {N : Nat} (hx : AllX md N xs) (hy : AllX md N ys) {l : List (Int × Int)} {K : Nat} (hl : ∀ i, i < K → ∃ q1 q2 : Nat, l[i]? = some ((q1 : Int), (q2 : Int)) ∧ q1 < xs.length ∧ q2 < ys.length) :
    ∀ i, i < K → (dotX xs ys (l.take (i + 1))).md = md ∧ (dotX xs ys (l.take (i + 1))).B ((i + 1) * (2 * N + 1))
  | 0, hi => by
    obtain ⟨q1, q2, h, h1, h2⟩ := hl 0 hi
    obtain ⟨r, hr⟩ := getI h1
    obtain ⟨s, hs⟩ := getI h2
    have a := hx r (List.mem_of_getElem? hr)
    have b := hy s (List.mem_of_getElem? hs)
    rw [dotX_one h, dotT2_nat hr hs]
    exact ⟨(mulV_md (a.1.trans b.1.symm)).trans a.1, (mulV_B (a.1.trans b.1.symm) a.2 b.2).mono (by omega)⟩
  | i + 1, hi => by
    obtain ⟨q1, q2, h, h1, h2⟩ := hl (i + 1) hi
    obtain ⟨r, hr⟩ := getI h1
    obtain ⟨s, hs⟩ := getI h2
    have a := hx r (List.mem_of_getElem? hr)
    have b := hy s (List.mem_of_getElem? hs)
    have ih := dotX_ok hx hy hl i (by omega)
    rw [dotX_snoc h, dotT2_nat hr hs]
    have hm : (mulV r s).md = md := (mulV_md (a.1.trans b.1.symm)).trans a.1
    have hB := mulV_B (a.1.trans b.1.symm) a.2 b.2
    exact ⟨(addV_md (ih.1.trans hm.symm)).trans ih.1, (addV_B (ih.1.trans hm.symm) ih.2 hB).mono (by rw [Nat.add_mul (i + 1) 1, Nat.one_mul]; omega)⟩

def argX (d : List Int) (l : List Vx) : T := .agg [sI d, sX l]
def sCX (k : Nat) (v : Vx) : List AV := if k = 0 then [.t (.bool false), .nil, .nil, .t (.int .u64 0), .t (.int .i64 0)] else [.t (.bool v.neg), .t (sW v.p), .t (sW v.qq), .t (.int .u64 v.bits), .t (.int .i64 0)]
theorem sCX_clean (k : Nat) (r : Vx) : cleanL (sCX k r) = true := by unfold sCX; split <;> rfl
theorem sCX_succ (k : Nat) (v : Vx) : sCX (k + 1) v = [.t (.bool v.neg), .t (sW v.p), .t (sW v.qq), .t (.int .u64 v.bits), .t (.int .i64 0)] := by unfold sCX; rw [if_neg (by omega)]
theorem sCX_zero (v : Vx) : sCX 0 v = [.t (.bool false), .nil, .nil, .t (.int .u64 0), .t (.int .i64 0)] := by unfold sCX; rw [if_pos rfl]
def doMX (a b out : List Int) (xs ys : List Vx) (n : Nat) : List Vx := (List.range n).map fun (i : Nat) => dotX xs ys (termsM a b out (i : Int))
theorem doMX_length (a b out : List Int) (xs ys : List Vx) (n : Nat) : (doMX a b out xs ys n).length = n := by simp [doMX]
theorem doMX_snoc (a b out : List Int) (xs ys : List Vx) (n : Nat) (v : Vx) (h : dotX xs ys (termsM a b out (n : Int)) = v) : (doMX a b out xs ys n).map Vx.T ++ [.agg [.bool v.neg, sW v.p, sW v.qq, .int .u64 v.bits, .int .i64 0]] = (doMX a b out xs ys (n + 1)).map Vx.T := by
  subst h
  simp [doMX, List.range_succ, Vx_T]

theorem mdoX_ok (h : Heap) (m id k : Nat) (md : Int) (a b out : List Int) (xs ys : List Vx) (hb : ∀ l, Lab.pool l = false → h l = none) (hk : h (.obj id) = some (bankG md .nil k false)) (hkb : k < 100000000)
    (hm : mdims a b = (out, 0)) (hx : (xs.length : Int) = cnt a) (hy : (ys.length : Int) = cnt b) (hqx : AllX md 1000 xs) (hqy : AllX md 1000 ys) :
    Ret Tryz.prog 12 [.ptr id, argX a xs, argX b ys] h m [.t (sX (doMX a b out xs ys (cnt out).toNat))] (upd h (.obj id) (some (bankG md .nil (kM a out k (cnt out).toNat) false))) m := by
  have hl : ∀ d j, h (.loc d j) = none := fun d j => hb _ rfl
  have H := mdims_inv hm
  have la6 := (chk0 H.ca).1
  have lb6 := (chk0 H.cb).1
  have lo6 := (chk0 H.co).1
  have c1 := mdims_ok a b out 0 (by omega) (by omega) hm
  have c2 := count_ok a (by omega)
  have c3 := count_ok b (by omega)
  have c4 := count_ok out (by omega)
  have c5 := errG_ok h m id k md .nil false hb hk
  have d1 : decide ((xs.length : Int) ≠ cnt a) = false := decide_eq_false (by omega)
  have d2 : decide ((ys.length : Int) ≠ cnt b) = false := decide_eq_false (by omega)
  refine Ret.intro Tryz.func12 rfl (rt := [6]) rfl (by simp [Tryz.ntmps12]) (by decide) (sites := fun _ => false) (upd_hb hb) bank_keeps ?_
  unfold argX
  apply run_sound 200
  simp -implicitDefEqProofs +decide only [go_sem, hl]
  refine CallG.PS _ Tryz.call53 (c1) ?_
  simp -implicitDefEqProofs +decide only [go_sem, hl, sI]
  refine Goes.drawP mixed (Calm.of (by repeat first | exact Clean.und | refine Clean.upd ?_ rfl | refine Clean.upd ?_ (by simp only [cleanA, cleanL, ])) (by repeat first | exact HCalm.none | exact HCalm.hb hb | exact HCalm.hb (bank_hb hb) | refine HCalm.row ?_ | refine HCalm.box ?_ (by first | rfl | (simp only [cleanA, cleanL, ]; done) | assumption))) ?_
  simp -implicitDefEqProofs +decide only [go_sem, hl, sI, sX]
  refine CallD.P _ Tryz.call54 c2 ?_
  simp -implicitDefEqProofs +decide only [go_sem, hl, sI, sX, d1]
  refine CallD.P _ Tryz.call54 c3 ?_
  simp -implicitDefEqProofs +decide only [go_sem, hl, sI, sX, d2]
  refine CallD.look _ Tryz.call17 c5 rfl hb (by rintro (_ | _ | _ | _ | _) hp <;> first | (cases hp; done) | simp -implicitDefEqProofs +decide only [go_sem, hl]) ?_
  simp -implicitDefEqProofs +decide only [go_sem, hl, sI, sX, hy]
  refine ⟨.mk (by kernel_rfl), ?_⟩
  apply run_sound 200
  simp -implicitDefEqProofs +decide only [go_sem, sI]
  refine CallG.P _ Tryz.call54 (c4) ?_
  simp -implicitDefEqProofs +decide only [go_sem]
  have hup : ∀ c c', upd (upd h (.obj id) (some (bankG md .nil c false))) (.obj id) (some (bankG md .nil c' false)) = upd h (.obj id) (some (bankG md .nil c' false)) := fun c c' => upd_upd _ _ _ _
  have hu0 : upd h (.obj id) (some (bankG md .nil k false)) = h := by
    funext l
    by_cases e : l = .obj id
    · subst e; rw [upd_same, hk]
    · rw [upd_ne _ _ _ _ e]
  have k0 : kM a out k 0 = k := by simp [kM]
  obtain ⟨K, hK⟩ : ∃ K, (a.getD (a.length - 1) 0).toNat = K := ⟨_, rfl⟩
  have hK64 : 1 ≤ K ∧ K ≤ 64 := by
    obtain ⟨K', hK'⟩ := getI (show a.length - 1 < a.length by have := H.la; omega)
    rw [getD_of hK'] at hK
    have hK1 := (chk0 H.ca).2.1 K' (List.mem_of_getElem? hK')
    have h1 := prodL_snoc hK'
    have h2 := prodL_le (chk0 H.ca).2.1 (a.length - 1 + 1)
    have h3 := prodL_pos (d := a.take (a.length - 1)) fun y hy => (chk0 H.ca).2.1 y (List.mem_of_mem_take hy)
    have h4 := (chk0 H.ca).2.2.2
    have h5 := Int.mul_le_mul_of_nonneg_right h3 (show 0 ≤ K' by omega)
    omega
  have hcn : 0 ≤ cnt out ∧ cnt out ≤ 64 := by
    have := (chk0 H.co).2.2
    unfold cnt; rw [if_pos H.co]; omega
  have hkm : ∀ n, kM a out k (n + 1) = kM a out k n + (2 * K - 1) := fun n => by unfold kM; rw [hK, Nat.add_mul, Nat.one_mul]; omega
  have hkb2 : ∀ n, n ≤ 64 → kM a out k n < 200000000 := fun n hn => by
    unfold kM
    rw [hK]
    have := Nat.mul_le_mul hn (show 2 * K - 1 ≤ 128 by omega)
    omega
  refine Goes.wk (Wk.nilRow (d := 9) (lab := .loc 90 0) (size := 5) (by simp -implicitDefEqProofs +decide only [go_sem]) (by simp -implicitDefEqProofs +decide only [go_sem, hl]) rfl (by decide)) ?_
  refine Goes.loop (X := Nat) (fun n => ⟨ofL [(0, .t (.ptr id)), (4, .bp (.loc 4 0) 0), (5, .bp (.loc 5 0) 0), (9, .sl (.loc 90 0) n 0 n), (49, .t (.int .i64 (cnt out))), (50, .t (.int .i64 n))],
      ofH (upd h (.obj id) (some (bankG md .nil (kM a out k n) false))) [(.loc 4 0, .box [.t (sI a), .t (sX xs)]), (.loc 5 0, .box [.t (sI b), .t (sX ys)]), (.loc 90 0, .arr 5 ((doMX a b out xs ys n).map Vx.T) n 0)], m⟩) (fun n => n ≤ (cnt out).toNat) (fun n => (cnt out).toNat - n) 0 ?_ (by omega) ?_
  · rw [k0, hu0]
    refine Wk.boxes _ _ hb rfl rfl ?_ (fun l hp => by cases l <;> first | rfl | cases hp) ?_ ?_
    · simp -implicitDefEqProofs +decide only [go_sem, sI, sX] <;> first | rfl | exact ⟨rfl, rfl, rfl⟩
    · simp -implicitDefEqProofs +decide only [go_sem] <;> rfl
    · simp -implicitDefEqProofs +decide only [go_sem]
  rintro n hn J hJ
  apply run_sound 200
  simp -implicitDefEqProofs +decide only [go_sem, ofH, hl]
  refine selP_dec (fun h1 => ?_) (fun h1 => ?_)
  · have c6 := terms_ok a b out n hm ⟨by omega, by omega⟩
    obtain ⟨tm, htm⟩ : ∃ tm, termsM a b out (n : Int) = tm := ⟨_, rfl⟩
    have htl := termsM_length a b out n
    have htg := fun i hi => termsM_get (n := (n : Int)) (i := i) hm ⟨by omega, by omega⟩ hi
    rw [htm] at c6 htl
    simp only [htm, hK] at htg htl
    have hdx := dotX_ok hqx hqy (l := tm) (K := K) fun i hi => by
      obtain ⟨q1, q2, g1, g2, g3⟩ := htg i hi
      exact ⟨q1, q2, g1, by omega, by omega⟩
    simp -implicitDefEqProofs +decide only [go_sem, sI, ofH, hl]
    refine CallG.PS _ Tryz.call55 (c6) ?_
    simp -implicitDefEqProofs +decide only [go_sem, htl, List.length_map, hl]
    refine Goes.loop (X := Nat) (fun i => ⟨ofL [(0, .t (.ptr id)), (4, .bp (.loc 4 0) 0), (5, .bp (.loc 5 0) 0), (9, .sl (.loc 90 0) n 0 n), (10, .t (.int .i64 n)), (11, .bp (.loc 11 0) 0), (49, .t (.int .i64 (cnt out))), (50, .t (.int .i64 n)), (58, .t (.slice (tm.map tP))), (59, .t (.int .i64 K)), (60, .t (.int .i64 i))],
        ofH (upd h (.obj id) (some (bankG md .nil (kM a out k n + (2 * i - 1)) false))) [(.loc 4 0, .box [.t (sI a), .t (sX xs)]), (.loc 5 0, .box [.t (sI b), .t (sX ys)]), (.loc 90 0, .arr 5 ((doMX a b out xs ys n).map Vx.T) n 0), (.loc 11 0, .box (sCX i (dotX xs ys (tm.take i))))], m⟩) (fun i => i ≤ K) (fun i => K - i) 0 ?_ (by omega) ?_
    · refine Wk.boxes _ _ (upd_hb hb) rfl ?_ ?_ (fun l hp => by cases l <;> first | rfl | cases hp) ?_ ?_
      · simp [Lab.pool, sCX, refsInL, refsIn]
      · simp -implicitDefEqProofs +decide only [go_sem, ofH, sCX, sI, sX] <;> rfl
      · simp -implicitDefEqProofs +decide only [go_sem]
      · simp -implicitDefEqProofs +decide only [go_sem]
    rintro i hi J2 hJ2
    apply run_sound 200
    simp -implicitDefEqProofs +decide only [go_sem, ofH]
    refine selP_dec (fun h2 => ?_) (fun h2 => ?_)
    · obtain ⟨q1, q2, hq, hq1, hq2⟩ := htg i (by omega)
      obtain ⟨r, hr⟩ := getI (show q1 < xs.length by omega)
      obtain ⟨s, hs⟩ := getI (show q2 < ys.length by omega)
      simp -implicitDefEqProofs +decide only [go_sem, ofH, hq, tP, hl]
      have hbc := hkb2 n (by omega)
      have hQr := hqx r (List.mem_of_getElem? hr)
      have hQs := hqy s (List.mem_of_getElem? hs)
      obtain ⟨c, hc⟩ : ∃ c, kM a out k n + (2 * i - 1) = c := ⟨_, rfl⟩
      have hclean := sCX_clean i (dotX xs ys (tm.take i))
      have cm := bankMulG_ok (upd h (.obj id) (some (bankG md .nil c false))) m id c md .nil false r s (upd_hb hb) (upd_same _ _ _) (by omega) hQr.1 hQs.1 (hQr.2.mono (by decide)) (hQs.2.mono (by decide))
      rw [hup] at cm
      simp only [Vx_T] at cm
      rw [hc]
      refine Goes.drawP mixed (Calm.of (by repeat first | exact Clean.und | refine Clean.upd ?_ rfl | refine Clean.upd ?_ (by simp only [cleanA, cleanL, ])) (by repeat first | exact HCalm.none | exact HCalm.hb hb | exact HCalm.hb (bank_hb hb) | refine HCalm.row ?_ | refine HCalm.box ?_ (by first | rfl | (simp only [cleanA, cleanL, ]; done) | assumption))) ?_
      simp -implicitDefEqProofs +decide only [go_sem, hr, hs, sI, sX, Vx_T, Int.toNat_natCast, hl]
      refine CallD.pool _ [(.obj id, bankG md .nil (c + 1) false)] Tryz.call56 cm rfl (upd_hb hb) (by rintro (_ | _ | _ | _ | _) hp <;> first | (cases hp; done) | simp -implicitDefEqProofs +decide only [go_sem]) (fun l _ => (congrFun (hup c (c + 1)) l).symm) rfl ?_
      simp -implicitDefEqProofs +decide only [go_sem, hup, hl]
      refine ⟨.mk (by kernel_rfl), ?_⟩
      apply run_sound 200
      have hdec : decide ((i : Int) > 0) = decide (0 < i) := decide_eq_decide.2 (by omega)
      have hw := wS (show i < 1000000000000 by omega)
      simp -implicitDefEqProofs +decide only [go_sem, hdec]
      refine selP_dec (fun h3 => ?_) (fun h3 => ?_)
      · obtain ⟨j, rfl⟩ : ∃ j, i = j + 1 := ⟨i - 1, by omega⟩
        have hQd := hdx j (by omega)
        have hmm : (mulV r s).md = md := (mulV_md (hQr.1.trans hQs.1.symm)).trans hQr.1
        have hmB := mulV_B (hQr.1.trans hQs.1.symm) hQr.2 hQs.2
        have ca := bankAddG_ok (upd h (.obj id) (some (bankG md .nil (c + 1) false))) m id (c + 1) md .nil false (dotX xs ys (tm.take (j + 1))) (mulV r s) (upd_hb hb) (upd_same _ _ _) (by omega) hQd.1 hmm (hQd.2.mono (by omega)) (hmB.mono (by decide))
        rw [hup, ← dotT2_nat hr hs, ← dotX_snoc hq] at ca
        simp only [Vx_T] at ca
        have hsCX := sCX_succ j (dotX xs ys (tm.take (j + 1)))
        simp -implicitDefEqProofs +decide only [go_sem, hsCX]
        rw [← dotT2_nat hr hs]
        refine CallG.pool _ Tryz.call57 ca (upd_hb hb) (by rintro (_ | _ | _ | _ | _) hp <;> first | (cases hp; done) | simp -implicitDefEqProofs +decide only [go_sem, hup]) ?_
        apply run_sound 200
        have ec : c + 1 + 1 = kM a out k n + (2 * (j + 1 + 1) - 1) := by omega
        simp -implicitDefEqProofs +decide only [go_sem, hw, ec]
        refine hJ2 (j + 1 + 1) _ (by omega) (by omega) (Wk.boxes _ _ (upd_hb hb) rfl ?_ ?_ (fun l hp => by cases l <;> first | rfl | cases hp) ?_ ?_)
        · simp [Lab.pool, sCX, refsInL, refsIn]
        · simp -implicitDefEqProofs +decide only [go_sem, ofH, sCX_succ, sI, sX] <;> rfl
        · simp -implicitDefEqProofs +decide only [go_sem]
        · simp -implicitDefEqProofs +decide only [go_sem]
      · obtain rfl : i = 0 := by omega
        simp -implicitDefEqProofs +decide only [go_sem, sCX_zero]
        have ec : c + 1 = kM a out k n + (2 * (0 + 1) - 1) := by omega
        have ed : dotX xs ys (tm.take (0 + 1)) = mulV r s := by rw [dotX_one hq, dotT2_nat hr hs]
        simp -implicitDefEqProofs +decide only [go_sem, hw, ec]
        refine hJ2 (0 + 1) _ (by omega) (by omega) (Wk.boxes _ _ (upd_hb hb) rfl ?_ ?_ (by rintro (_ | _ | _ | _ | _) hp <;> first | (cases hp; done) | simp -implicitDefEqProofs +decide only [go_sem, ec]) ?_ ?_)
        · simp [Lab.pool, sCX, refsInL, refsIn]
        · simp -implicitDefEqProofs +decide only [go_sem, ofH, sCX_succ, sI, sX, ed] <;> rfl
        · simp -implicitDefEqProofs +decide only [go_sem]
        · simp -implicitDefEqProofs +decide only [go_sem]
    · obtain rfl : i = K := by omega
      have htk : tm.take i = tm := List.take_of_length_le (by omega)
      obtain ⟨j, rfl⟩ : ∃ j, i = j + 1 := ⟨i - 1, by omega⟩
      have hw := wS (show n < 1000000000000 by omega)
      have hlen := doMX_length a b out xs ys n
      have hbig : n + 1 < big := by unfold big; omega
      have hsn := doMX_snoc a b out xs ys n (dotX xs ys tm) (by rw [htm])
      have hkk : kM a out k n + (2 * (j + 1) - 1) = kM a out k (n + 1) := (hkm n).symm
      rw [htk, hkk]
      simp -implicitDefEqProofs +decide only [go_sem, sCX_succ, hl, hlen, List.length_map, hbig, hsn, hw]
      refine hJ (n + 1) _ (by omega) (by omega) (Wk.boxes _ _ (upd_hb hb) rfl rfl ?_ (fun l hp => by cases l <;> first | rfl | cases hp) ?_ ?_)
      · simp -implicitDefEqProofs +decide only [go_sem, ofH, sI, sX] <;> rfl
      · simp -implicitDefEqProofs +decide only [go_sem]
      · simp -implicitDefEqProofs +decide only [go_sem]
  · obtain rfl : n = (cnt out).toNat := by omega
    simp -implicitDefEqProofs +decide only [go_sem]
    have hlen := doMX_length a b out xs ys (cnt out).toNat
    exact endF.row1 (.inr rfl) (by simp -implicitDefEqProofs +decide only [go_sem]; rfl) (by simp -implicitDefEqProofs +decide only [go_sem]; rfl) (by rw [List.length_map, hlen]) (by rintro (_ | _ | _ | _ | _) hp <;> first | (cases hp; done) | simp -implicitDefEqProofs +decide only [go_sem]) rfl
end Go.Fm
/- What each of the laws on products asks for besides. -/
namespace Go.Fm
open Go.Proofs
set_option maxRecDepth 100000
attribute [local irreducible] tiOf

theorem getD_q (xs : List Rat) (i : Nat) : (xs.map Vx.q).getD i (.q 0) = .q (xs.getD i 0) := by
  rw [List.getD_eq_getElem?_getD, List.getD_eq_getElem?_getD, List.getElem?_map]
  cases xs[i]? <;> rfl
theorem dotX_q (xs ys : List Rat) (l : List (Int × Int)) : dotX (xs.map Vx.q) (ys.map Vx.q) l = .q (dotR xs ys l) := by
  have h1 : ∀ p, dotT2 (xs.map Vx.q) (ys.map Vx.q) p = .q (dotT xs ys p) := fun p => by unfold dotT2 dotT; rw [getD_q, getD_q]; rfl
  have h2 : ∀ (l : List (Int × Int)) (s : Rat), l.foldl (fun s p => addV s (dotT2 (xs.map Vx.q) (ys.map Vx.q) p)) (.q s) = .q (l.foldl (fun s p => s + dotT xs ys p) s) := fun l => by
    induction l with
    | nil => intro s; rfl
    | cons p r ih => intro s; rw [List.foldl_cons, List.foldl_cons, h1]; exact ih _
  cases l with
  | nil => rfl
  | cons p r =>
    show r.foldl _ _ = _
    unfold dotR
    rw [h1, h2, List.foldl_cons, Rat.zero_add]
theorem doMX_q (a b out : List Int) (xs ys : List Rat) (n : Nat) : doMX a b out (xs.map Vx.q) (ys.map Vx.q) n = (doM a b out xs ys n).map Vx.q := by
  unfold doMX doM
  rw [List.map_map]
  exact List.map_congr_left fun i _ => dotX_q _ _ _
theorem sX_q (l : List Rat) : sX (l.map Vx.q) = sV l := by unfold sX sV; rw [List.map_map]; rfl
theorem mdoQ_ok (h : Heap) (m id k : Nat) (a b out : List Int) (xs ys : List Rat) (hb : ∀ l, Lab.pool l = false → h l = none) (hk : h (.obj id) = some (bankO k)) (hkb : k < 100000000)
    (hm : mdims a b = (out, 0)) (hx : (xs.length : Int) = cnt a) (hy : (ys.length : Int) = cnt b) (hqx : ∀ r ∈ xs, QB r 1000) (hqy : ∀ r ∈ ys, QB r 1000) :
    Ret Tryz.prog 12 [.ptr id, argT a xs, argT b ys] h m [.t (sV (doM a b out xs ys (cnt out).toNat))] (upd h (.obj id) (some (bankO (kM a out k (cnt out).toNat)))) m := by
  have hq : ∀ l : List Rat, (∀ r ∈ l, QB r 1000) → AllX 0 1000 (l.map Vx.q) := fun l hl v hv => by
    obtain ⟨r, hr, rfl⟩ := List.mem_map.1 hv
    exact ⟨rfl, hl r hr⟩
  have c := mdoX_ok h m id k 0 a b out (xs.map Vx.q) (ys.map Vx.q) hb hk hkb hm (by rw [List.length_map]; exact hx) (by rw [List.length_map]; exact hy) (hq xs hqx) (hq ys hqy)
  unfold argX at c
  rw [doMX_q, sX_q, sX_q, sX_q] at c
  exact c
theorem bankNewG_ok (h : Heap) (m : Nat) (md : Int) (hmd : md = 0 ∨ md = 1) (hb : ∀ l, Lab.pool l = false → h l = none) (hm : h (.obj m) = none) :
    Ret Tryz.prog 11 [.int .i64 md, .slice []] h m [.t (.ptr m)] (upd h (.obj m) (some (bankG md .nil 0 false))) (m + 1) := by
  have hl : ∀ d j, h (.loc d j) = none := fun d j => hb _ rfl
  have d1 : decide (md < 0) = false := decide_eq_false (by omega)
  have d2 : decide ((2 : Int) < md) = false := decide_eq_false (by omega)
  refine Ret.intro Tryz.func11 rfl (rt := [4]) rfl (by simp [Tryz.ntmps11]) (by decide) (sites := fun d => d == 16) (upd_hb hb) bank_keeps ?_
  apply run_sound 22
  simp -implicitDefEqProofs +decide only [go_sem, hl, d1, d2]
  change Goes _ _ _ _ _
  refine Goes.wk (Wk.freeze 14 (t := .slice []) (ws := [(.loc 12 0, .arr 1 [] 1 0)]) (acc := [.loc 12 0]) (by simp -implicitDefEqProofs +decide only [go_sem])) ?_
  apply run_sound 200
  simp -implicitDefEqProofs +decide only [go_sem, hl, hm]
  exact endF.ptr (.inr rfl) (by simp -implicitDefEqProofs +decide only [go_sem]) (by rintro (_ | _ | _ | _ | _) hp <;> first | (cases hp; done) | simp -implicitDefEqProofs +decide only [go_sem, hl, bankG, nat0]) rfl
theorem bankNewQ_ok (h : Heap) (m : Nat) (hb : ∀ l, Lab.pool l = false → h l = none) (hm : h (.obj m) = none) :
    Ret Tryz.prog 11 [.int .i64 0, .slice []] h m [.t (.ptr m)] (upd h (.obj m) (some (bankO 0))) (m + 1) := bankNewG_ok h m 0 (.inl rfl) hb hm

theorem qR_nat (n : Nat) : qR (n : Rat) = ⟨false, wordsOf n, [1]⟩ := by
  have h : ¬ (n : Rat).num < 0 := by rw [Rat.num_natCast]; omega
  unfold qR
  rw [decide_eq_false h, Rat.num_natCast, Rat.den_natCast, words_one, Int.natAbs_natCast]
theorem lowQ_nat (n : Nat) : lowQ false n 1 = qR (n : Rat) := by
  rw [qR_nat]
  unfold lowQ
  rw [Nat.gcd_one_right, Nat.div_one, Nat.div_one, words_one]; rfl
theorem rVal_ok (n : Nat) (h : n < 18446744073709551616) : Pure Tryz.prog 105 [.bool false, sW [n], sW [1]] [.t (qR (n : Rat)).T] := by
  have hw : WOK [n] := fun y hy => by rw [List.mem_singleton.1 hy]; exact h
  have c := rMake_ok false [n] [1] hw WOK_one (by simp) (by simp) (by decide) (by rw [nv_one, tz_odd rfl]; decide)
  have e : nv [n] = n := by simp [nv]
  rw [e, nv_one, lowQ_nat] at c
  exact c
theorem val28_ok (n : Nat) (h : n < 18446744073709551616) : Pure Tryz.prog 52 [.int .u64 n] [.t (vT (n : Rat))] := by
  have c := rVal_ok n h
  rw [vT_eq]
  rw [qT] at c
  have e1 : sW [n] = T.slice [T.int .u64 (n : Int)] := rfl
  have e2 : sW [1] = T.slice [T.int .u64 1] := rfl
  rw [e1, e2] at c
  refine Pure.introC Tryz.func52 rfl (rv := [.c 2 _]) rfl (by simp [Tryz.ntmps52]) (by decide) (sites := fun _ => false) ?_
  apply run_sound 200
  simp -implicitDefEqProofs +decide only [go_sem]
  refine CallG.PS _ Tryz.call105 (c) ?_
  simp -implicitDefEqProofs +decide only [go_sem]
  exact endC.one (.inr rfl) (by first | rfl | (simp -implicitDefEqProofs +decide only [go_sem, valC, sW]; done) | (simp -implicitDefEqProofs +decide only [go_sem, valC, sW]; rfl)) (by first | rfl | (simp -implicitDefEqProofs +decide only [go_sem, sW]; done) | (simp -implicitDefEqProofs +decide only [go_sem, sW]; rfl)) (fun l hp => by cases l <;> first | rfl | cases hp) rfl
theorem QB_nat (n : Nat) (h : n < 18446744073709551616) : QB (n : Rat) 1 := by
  refine ⟨?_, ?_⟩
  · show (wordsOf (n : Rat).num.natAbs).length ≤ 1
    rw [Rat.num_natCast]
    exact len_wordsOf (by simpa using h)
  · show (wordsOf (n : Rat).den).length ≤ 1
    rw [Rat.den_natCast, words_one]; exact Nat.le_refl _
theorem same28_do : doM [2, 2] [2, 1] [2, 1] [((1 : Nat) : Rat), ((2 : Nat) : Rat), ((3 : Nat) : Rat), ((4 : Nat) : Rat)] [((5 : Nat) : Rat), ((6 : Nat) : Rat)] (cnt [2, 1]).toNat = [((17 : Nat) : Rat), ((39 : Nat) : Rat)] := by
  have e : (cnt [2, 1]).toNat = 2 := by decide
  rw [e]
  have t0 := termsM2 2 2 1 0 (by decide) (by decide) (by decide)
  have t1 := termsM2 2 2 1 1 (by decide) (by decide) (by decide)
  unfold doM
  show [dotR _ _ (termsM [2, 2] [2, 1] [2, 1] ((0 : Nat) : Int)), dotR _ _ (termsM [2, 2] [2, 1] [2, 1] ((1 : Nat) : Int))] = _
  have t0' : termsM [2, 2] [2, 1] [2, 1] ((0 : Nat) : Int) = [(0, 0), (1, 1)] := t0
  have t1' : termsM [2, 2] [2, 1] [2, 1] ((1 : Nat) : Int) = [(2, 0), (3, 1)] := t1
  rw [t0', t1']
  decide +kernel
theorem same28_dims : mdims [2, 2] [2, 1] = ([2, 1], 0) := mdims2 (by decide) (by decide) (by decide)
theorem same28_ok : Pure Tryz.prog 10 [] [.t (.bool true)] := by
  have v1 := val28_ok 1 (by decide)
  have v2 := val28_ok 2 (by decide)
  have v3 := val28_ok 3 (by decide)
  have v4 := val28_ok 4 (by decide)
  have v5 := val28_ok 5 (by decide)
  have v6 := val28_ok 6 (by decide)
  have v17 := val28_ok 17 (by decide)
  have v39 := val28_ok 39 (by decide)
  have hq : ∀ l : List Nat, (∀ n ∈ l, n < 18446744073709551616) → ∀ r ∈ l.map (fun n : Nat => (n : Rat)), QB r 1 := fun l hl r hr => by
    obtain ⟨n, hn, rfl⟩ := List.mem_map.1 hr
    exact QB_nat n (hl n hn)
  have q1 := hq [1, 2, 3, 4] (by decide)
  have q2 := hq [5, 6] (by decide)
  have q3 := hq [17, 39] (by decide)
  have hd := fun (h : Heap) (m id : Nat) (hb : ∀ l, Lab.pool l = false → h l = none) (hk : h (.obj id) = some (bankO 0)) => mdoQ_ok h m id 0 [2, 2] [2, 1] [2, 1] ([1, 2, 3, 4].map fun n : Nat => (n : Rat)) ([5, 6].map fun n : Nat => (n : Rat)) hb hk (by decide) same28_dims (by decide) (by decide)
    (fun r hr => (q1 r hr).mono (by decide)) (fun r hr => (q2 r hr).mono (by decide))
  have ca := rAllR_ok ([17, 39].map fun n : Nat => (n : Rat)) ([17, 39].map fun n : Nat => (n : Rat)) (by decide) (by decide) (fun r hr => (q3 r hr).mono (by decide)) (fun r hr => (q3 r hr).mono (by decide))
  rw [decide_eq_true rfl] at ca
  have e1 : sV ([17, 39].map fun n : Nat => (n : Rat)) = T.slice [vT ((17 : Nat) : Rat), vT ((39 : Nat) : Rat)] := rfl
  rw [e1] at ca
  have hdo : doM [2, 2] [2, 1] [2, 1] ([1, 2, 3, 4].map fun n : Nat => (n : Rat)) ([5, 6].map fun n : Nat => (n : Rat)) (cnt [2, 1]).toNat = [((17 : Nat) : Rat), ((39 : Nat) : Rat)] := same28_do
  simp only [hdo] at hd
  simp only [sV, sI, argT, List.map_cons, List.map_nil, I] at hd
  clear hdo e1 q1 q2 q3 hq
  generalize ((1 : Nat) : Rat) = r1 at *
  generalize ((2 : Nat) : Rat) = r2 at *
  generalize ((3 : Nat) : Rat) = r3 at *
  generalize ((4 : Nat) : Rat) = r4 at *
  generalize ((5 : Nat) : Rat) = r5 at *
  generalize ((6 : Nat) : Rat) = r6 at *
  generalize ((17 : Nat) : Rat) = r17 at *
  generalize ((39 : Nat) : Rat) = r39 at *
  simp only [vT_eq] at v1 v2 v3 v4 v5 v6 v17 v39 hd ca
  have hb0 : ∀ l, Lab.pool l = false → (fun _ => none : Heap) l = none := fun _ _ => rfl
  have cn := bankNewQ_ok (fun _ => none) 0 hb0 rfl
  have hd := hd (upd (fun _ => none) (.obj 0) (some (bankO 0))) 1 0 (bank_hb hb0) (upd_same _ _ _)
  have hup : ∀ c c', upd (upd (fun _ => none : Heap) (.obj 0) (some (bankO c))) (.obj 0) (some (bankO c')) = upd (fun _ => none) (.obj 0) (some (bankO c')) := fun c c' => upd_upd _ _ _ _
  rw [hup] at hd
  obtain ⟨kk, hkk⟩ : ∃ kk, kM [2, 2] [2, 1] 0 (cnt [2, 1]).toNat = kk := ⟨_, rfl⟩
  rw [hkk] at hd
  refine Pure.drop (h' := upd (fun _ => none) (.obj 0) (some (bankO kk))) (m' := 1) ?_ rfl
  refine Ret.intro Tryz.func10 rfl (rt := [0]) rfl (by simp [Tryz.ntmps10]) (by decide) (sites := fun _ => false) (bank_hb hb0) (Keeps.none _) ?_
  apply run_sound 200
  simp -implicitDefEqProofs +decide only [go_sem]
  refine CallG.PS _ Tryz.call52 (v1) ?_
  simp -implicitDefEqProofs +decide only [go_sem]
  refine CallG.PS _ Tryz.call52 (v2) ?_
  simp -implicitDefEqProofs +decide only [go_sem]
  refine CallG.PS _ Tryz.call52 (v3) ?_
  simp -implicitDefEqProofs +decide only [go_sem]
  refine CallG.PS _ Tryz.call52 (v4) ?_
  simp -implicitDefEqProofs +decide only [go_sem]
  refine Goes.drawP mixed (Calm.of (by repeat first | exact Clean.und | refine Clean.upd ?_ rfl | refine Clean.upd ?_ (by simp only [cleanA, cleanL, ])) (by repeat first | exact HCalm.none | exact HCalm.hb hb | exact HCalm.hb (bank_hb hb) | refine HCalm.row ?_ | refine HCalm.box ?_ (by first | rfl | (simp only [cleanA, cleanL, ]; done) | assumption))) ?_
  simp -implicitDefEqProofs +decide only [go_sem]
  refine CallD.make _ [(.obj 0, bankO 0)] 1 Tryz.call11 cn rfl hb0 (fun l hp => by cases l <;> first | rfl | cases hp) (fun _ _ => rfl) rfl (.inl (by simp)) ?_
  simp -implicitDefEqProofs +decide only [go_sem]
  refine CallD.PS _ Tryz.call52 v5 ?_
  simp -implicitDefEqProofs +decide only [go_sem]
  refine CallD.PS _ Tryz.call52 v6 ?_
  simp -implicitDefEqProofs +decide only [go_sem]
  refine CallD.make _ [(.obj 0, bankO kk)] 0 Tryz.call12 hd rfl (bank_hb hb0) (by rintro (_ | _ | _ | _ | _) hp <;> first | (cases hp; done) | simp -implicitDefEqProofs +decide only [go_sem]) (fun l _ => (congrFun (hup 0 kk) l).symm) rfl (.inr rfl) ?_
  simp -implicitDefEqProofs +decide only [go_sem]
  refine ⟨.mk (by kernel_rfl), ?_⟩
  apply run_sound 200
  simp -implicitDefEqProofs +decide only [go_sem]
  refine CallG.PS _ Tryz.call52 (v17) ?_
  simp -implicitDefEqProofs +decide only [go_sem]
  refine CallG.PS _ Tryz.call52 (v39) ?_
  simp -implicitDefEqProofs +decide only [go_sem]
  refine CallG.pure _ Tryz.call14 ca (by simp only [List.all_cons, List.all_nil, noPtr, noPtrL, noPtr_sW, noPtr_sI, noPtr_sV, noPtrL_U, noPtrL_I, noPtrL_vT, I, List.map_cons, List.map_nil, Bool.and_true, Bool.and_self]) (by first | rfl | (simp only [go_sem]; done) | (simp only [go_sem]; rfl)) ?_
  apply run_sound 200
  simp -implicitDefEqProofs +decide only [go_sem]
  exact endF.vals [(0, .bool true)] (.inr rfl) (vals_t (by first | rfl | (simp -implicitDefEqProofs +decide only [go_sem]; done) | (simp -implicitDefEqProofs +decide only [go_sem]; rfl)) rfl vals_nil) (by rintro (_ | _ | _ | _ | _) hp <;> first | (cases hp; done) | simp -implicitDefEqProofs +decide only [go_sem]) rfl
end Go.Fm
/- The reference's bank: sums and products, exact or of doubles. -/
namespace Go.Fm
open Go.Proofs
set_option maxRecDepth 100000
attribute [local irreducible] tiOf

theorem sgn_mul (r s : Rat) : sgn (!decide (neg1 r = neg1 s)) (r.num.natAbs * s.num.natAbs) = r.num * s.num := by
  have h1 := sgn_num r.num
  have h2 := sgn_num s.num
  conv => rhs; rw [← h1, ← h2]
  unfold neg1
  generalize decide (r.num < 0) = a
  generalize decide (s.num < 0) = b
  generalize r.num.natAbs = x
  generalize s.num.natAbs = y
  cases a <;> cases b <;> simp [sgn, Int.neg_mul, Int.mul_neg]
theorem rMul_okQ (r s : Rat) (hr : QB r 40000) (hs : QB s 40000) (zr : ZB r 30000) (zs : ZB s 30000) : Pure Tryz.prog 179 [(qR r).T, (qR s).T] [.t (qR (r * s)).T] := by
  have r1 := hr.n
  have r2 := hr.d
  have s1 := hs.n
  have s2 := hs.d
  have m1 := rMul_ok (wordsOf r.num.natAbs) (wordsOf s.num.natAbs) (WOK_wordsOf _) (WOK_wordsOf _) (by omega) (by omega)
  have m2 := rMul_ok (wordsOf r.den) (wordsOf s.den) (WOK_wordsOf _) (WOK_wordsOf _) (by omega) (by omega)
  simp only [nv_wordsOf] at m1 m2
  have l1 := len_prod r.num.natAbs s.num.natAbs
  have l2 := len_prod r.den s.den
  have hne : r.den * s.den ≠ 0 := Nat.mul_ne_zero r.den_nz s.den_nz
  have c := rMake_ok (!decide (neg1 r = neg1 s)) (wordsOf (r.num.natAbs * s.num.natAbs)) (wordsOf (r.den * s.den)) (WOK_wordsOf _) (WOK_wordsOf _) (by omega) (by omega)
    (by rw [nv_wordsOf]; exact hne) (by rw [nv_wordsOf, tz_mul r.den_nz s.den_nz]; unfold ZB at zr zs; omega)
  rw [nv_wordsOf, nv_wordsOf, lowQ_eq _ _ _ hne] at c
  have e : Rat.normalize (sgn (!decide (neg1 r = neg1 s)) (r.num.natAbs * s.num.natAbs)) (r.den * s.den) hne = r * s := by
    rw [Rat.mul_def]
    congr 1
    exact sgn_mul r s
  rw [e, qT] at c
  rw [qT, qT, qT]
  generalize r * s = t at *
  generalize r.num.natAbs * s.num.natAbs = X at *
  generalize r.den * s.den = D at *
  generalize neg1 r = nr at *
  generalize neg1 s = ns at *
  simp only [sW] at c m1 m2
  refine Pure.introC Tryz.func179 rfl (rv := [.c 4 _]) rfl (by simp [Tryz.ntmps179]) (by decide) (sites := fun _ => false) ?_
  apply run_sound 200
  simp -implicitDefEqProofs +decide only [go_sem, sW]
  refine Goes.drawN mixed ?_
  simp -implicitDefEqProofs +decide only [go_sem, sW]
  refine CallD.P _ Tryz.call200 m1 ?_
  simp -implicitDefEqProofs +decide only [go_sem, sW]
  refine CallD.P _ Tryz.call200 m2 ?_
  simp -implicitDefEqProofs +decide only [go_sem, sW]
  refine CallD.PS _ Tryz.call105 c ?_
  simp -implicitDefEqProofs +decide only [go_sem, sW]
  refine ⟨.mk (by kernel_rfl), ?_⟩
  apply run_sound 200
  simp -implicitDefEqProofs +decide only [go_sem]
  exact endC.one (.inr rfl) (by first | rfl | (simp -implicitDefEqProofs +decide only [go_sem, valC, sW]; done) | (simp -implicitDefEqProofs +decide only [go_sem, valC, sW]; rfl)) (by first | rfl | (simp -implicitDefEqProofs +decide only [go_sem, sW]; done) | (simp -implicitDefEqProofs +decide only [go_sem, sW]; rfl)) (fun l hp => by cases l <;> first | rfl | cases hp) rfl

def bankR (md : Int) (mc : AV) (k : Nat) (tie : Bool) : Obj := .box [.t (.int .i64 md), .t (.int .i64 0), .t (.int .i64 k), mc, .t (.bool tie)]
def Vx.Z (n : Nat) : Vx → Prop
  | .q r => ZB r n
  | .d _ => True
theorem Vx.Z.mono {v : Vx} {a b : Nat} (h : v.Z a) (hab : a ≤ b) : v.Z b := by
  cases v with
  | q r => exact ZB.mono h hab
  | d x => trivial
theorem addV_Z {x y : Vx} {a : Nat} (h : x.md = y.md) (hx : x.Z a) (hy : y.Z a) : (addV x y).Z a := by
  cases x <;> cases y <;> first | exact ZB_add hx hy | trivial | (simp [Vx.md] at h)
theorem mulV_Z {x y : Vx} {a b : Nat} (h : x.md = y.md) (hx : x.Z a) (hy : y.Z b) : (mulV x y).Z (a + b) := by
  cases x <;> cases y <;> first | exact ZB_mul hx hy | trivial | (simp [Vx.md] at h)
theorem Z_of_B {v : Vx} {n : Nat} (h : v.B n) : v.Z (64 * n) := by
  cases v with
  | q r => exact ZB_of h
  | d x => trivial

theorem rexMul_ok (h : Heap) (m id : Nat) (r s : Rat) (hb : ∀ l, Lab.pool l = false → h l = none) (hr : QB r 40000) (hs : QB s 40000) (zr : ZB r 30000) (zs : ZB s 30000) :
    Ret Tryz.prog 113 [.ptr id, .int .i64 6, (qR r).T, (qR s).T] h m [.t (qR (r * s)).T] h m := by
  have hl : ∀ d j, h (.loc d j) = none := fun d j => hb _ rfl
  have c1 := rMul_okQ r s hr hs zr zs
  refine Ret.introC Tryz.func113 rfl (rv := [.c 8 65]) rfl (by simp [Tryz.ntmps113]) (by decide) (sites := fun _ => false) hb (Keeps.refl _) ?_
  simp only [qT] at c1 ⊢
  apply run_sound 200
  simp -implicitDefEqProofs +decide only [go_sem, hl]
  refine CallG.PS _ Tryz.call179 (c1) ?_
  simp -implicitDefEqProofs +decide only [go_sem, hl, sW]
  exact endC.one (.inr rfl) (by first | rfl | (simp -implicitDefEqProofs +decide only [go_sem, valC, hl, sW]; done) | (simp -implicitDefEqProofs +decide only [go_sem, valC, hl, sW]; rfl)) (by first | rfl | (simp -implicitDefEqProofs +decide only [go_sem, hl, sW]; done) | (simp -implicitDefEqProofs +decide only [go_sem, hl, sW]; rfl)) (fun l hp => by cases l <;> first | rfl | cases hp) rfl
theorem rexAdd_ok (h : Heap) (m id : Nat) (r s : Rat) (hb : ∀ l, Lab.pool l = false → h l = none) (hr : QB r 40000) (hs : QB s 40000) (zr : ZB r 30000) (zs : ZB s 30000) :
    Ret Tryz.prog 113 [.ptr id, .int .i64 4, (qR r).T, (qR s).T] h m [.t (qR (r + s)).T] h m := by
  have hl : ∀ d j, h (.loc d j) = none := fun d j => hb _ rfl
  have c1 := rAdd_okQ r s hr hs zr zs
  refine Ret.introC Tryz.func113 rfl (rv := [.c 8 65]) rfl (by simp [Tryz.ntmps113]) (by decide) (sites := fun _ => false) hb (Keeps.refl _) ?_
  simp only [qT] at c1 ⊢
  apply run_sound 200
  simp -implicitDefEqProofs +decide only [go_sem, hl]
  refine CallG.PS _ Tryz.call177 (c1) ?_
  simp -implicitDefEqProofs +decide only [go_sem, hl, sW]
  exact endC.one (.inr rfl) (by first | rfl | (simp -implicitDefEqProofs +decide only [go_sem, valC, hl, sW]; done) | (simp -implicitDefEqProofs +decide only [go_sem, valC, hl, sW]; rfl)) (by first | rfl | (simp -implicitDefEqProofs +decide only [go_sem, hl, sW]; done) | (simp -implicitDefEqProofs +decide only [go_sem, hl, sW]; rfl)) (fun l hp => by cases l <;> first | rfl | cases hp) rfl
theorem rdblAdd_ok (a b : Nat) (ha : a < 18446744073709551616) (hb : b < 18446744073709551616) : Pure Tryz.prog 112 [.int .i64 4, .int .u64 a, .int .u64 b] [.t (.int .u64 (addD a b : Nat))] := by
  have c1 := dAdd_ok a b ha hb
  refine Pure.intro Tryz.func112 rfl (rt := [6]) rfl (by simp [Tryz.ntmps112]) (by decide) (sites := fun _ => false) ?_
  apply run_sound 200
  simp -implicitDefEqProofs +decide only [go_sem]
  refine CallG.P _ Tryz.call169 (c1) ?_
  simp -implicitDefEqProofs +decide only [go_sem]
  exact endF.V [(6, .int .u64 (addD a b : Nat))] (vals_t (by simp -implicitDefEqProofs +decide only [go_sem] <;> rfl) rfl vals_nil)
theorem rdblMul_ok (a b : Nat) (ha : a < 18446744073709551616) (hb : b < 18446744073709551616) : Pure Tryz.prog 112 [.int .i64 6, .int .u64 a, .int .u64 b] [.t (.int .u64 (mulD a b : Nat))] := by
  have c1 := dMul_ok a b ha hb
  refine Pure.intro Tryz.func112 rfl (rt := [6]) rfl (by simp [Tryz.ntmps112]) (by decide) (sites := fun _ => false) ?_
  apply run_sound 200
  simp -implicitDefEqProofs +decide only [go_sem]
  refine CallG.P _ Tryz.call171 (c1) ?_
  simp -implicitDefEqProofs +decide only [go_sem]
  exact endF.V [(6, .int .u64 (mulD a b : Nat))] (vals_t (by simp -implicitDefEqProofs +decide only [go_sem] <;> rfl) rfl vals_nil)
theorem rdoQ_ok (op : Int) (t : Rat) (h : Heap) (m id k : Nat) (mc : AV) (tie : Bool) (r s : Rat) (hb : ∀ l, Lab.pool l = false → h l = none) (hk : h (.obj id) = some (bankR 0 mc k tie)) (hkb : k < 1000000000)
    (he : Ret Tryz.prog 113 [.ptr id, .int .i64 op, (qR r).T, (qR s).T] h m [.t (qR t).T] h m) :
    Ret Tryz.prog 60 [.ptr id, .int .i64 op, vT r, vT s] h m [.t (vT t)] (upd h (.obj id) (some (bankR 0 mc (k + 1) tie))) m := by
  have hl : ∀ d j, h (.loc d j) = none := fun d j => hb _ rfl
  have hw := wS (show k < 1000000000000 by omega)
  refine Ret.introC Tryz.func60 rfl (rv := [.c 8 68]) rfl (by simp [Tryz.ntmps60]) (by decide) (sites := fun _ => false) (upd_hb hb) bank_keeps ?_
  simp only [qT] at he ⊢
  simp only [vT_eq]
  apply run_sound 200
  unfold bankR at hk
  simp -implicitDefEqProofs +decide only [go_sem, hk, hl, sW]
  simp only [sW] at he
  refine CallG.pool _ Tryz.call113 he hb (by rintro (_ | _ | _ | _ | _) hp <;> first | (cases hp; done) | simp -implicitDefEqProofs +decide only [go_sem, hl]) ?_
  apply run_sound 200
  simp -implicitDefEqProofs +decide only [go_sem, hk, hl, hw, sW]
  unfold bankR
  exact endC.oneV (.inr rfl) (by first | (simp -implicitDefEqProofs +decide only [go_sem, valC, hl, sW]; done) | (simp -implicitDefEqProofs +decide only [go_sem, valC, hl, sW]; rfl)) (by first | rfl | (simp -implicitDefEqProofs +decide only [go_sem, hl, sW]; done) | (simp -implicitDefEqProofs +decide only [go_sem, hl, sW]; rfl)) (by rintro (_ | _ | _ | _ | _) hp <;> first | (cases hp; done) | simp -implicitDefEqProofs +decide only [go_sem, hl, sW]) rfl
theorem rdoD_ok (op : Int) (t : Nat) (h : Heap) (m id k : Nat) (mc : AV) (tie : Bool) (a b : Nat) (hb : ∀ l, Lab.pool l = false → h l = none) (hk : h (.obj id) = some (bankR 1 mc k tie)) (hkb : k < 1000000000)
    (he : Pure Tryz.prog 112 [.int .i64 op, .int .u64 a, .int .u64 b] [.t (.int .u64 (t : Nat))]) :
    Ret Tryz.prog 60 [.ptr id, .int .i64 op, (Vx.d a).T, (Vx.d b).T] h m [.t (Vx.d t).T] (upd h (.obj id) (some (bankR 1 mc (k + 1) tie))) m := by
  have hl : ∀ d j, h (.loc d j) = none := fun d j => hb _ rfl
  have hw := wS (show k < 1000000000000 by omega)
  refine Ret.introC Tryz.func60 rfl (rv := [.c 8 68]) rfl (by simp [Tryz.ntmps60]) (by decide) (sites := fun _ => false) (upd_hb hb) bank_keeps ?_
  simp only [Vx_d]
  apply run_sound 200
  unfold bankR at hk
  simp -implicitDefEqProofs +decide only [go_sem, hk, hl]
  refine CallG.P _ Tryz.call112 (he) ?_
  simp -implicitDefEqProofs +decide only [go_sem, hk, hl, hw]
  unfold bankR
  exact endC.oneV (.inr rfl) (by first | (simp -implicitDefEqProofs +decide only [go_sem, valC, hl]; done) | (simp -implicitDefEqProofs +decide only [go_sem, valC, hl]; rfl)) (by first | rfl | (simp -implicitDefEqProofs +decide only [go_sem, hl]; done) | (simp -implicitDefEqProofs +decide only [go_sem, hl]; rfl)) (by rintro (_ | _ | _ | _ | _) hp <;> first | (cases hp; done) | simp -implicitDefEqProofs +decide only [go_sem, hl]) rfl
theorem rdoMul_ok (h : Heap) (m id k : Nat) (md : Int) (mc : AV) (tie : Bool) (x y : Vx) (hb : ∀ l, Lab.pool l = false → h l = none) (hk : h (.obj id) = some (bankR md mc k tie)) (hkb : k < 1000000000) (mx : x.md = md) (my : y.md = md)
    (bx : x.B 40000) (by' : y.B 40000) (zx : x.Z 30000) (zy : y.Z 30000) :
    Ret Tryz.prog 60 [.ptr id, .int .i64 6, x.T, y.T] h m [.t (mulV x y).T] (upd h (.obj id) (some (bankR md mc (k + 1) tie))) m := by
  subst mx
  cases x with
  | q r => cases y with
    | q s => exact rdoQ_ok 6 (r * s) h m id k mc tie r s hb hk hkb (rexMul_ok h m id r s hb bx by' zx zy)
    | d b => simp [Vx.md] at my
  | d a => cases y with
    | q s => simp [Vx.md] at my
    | d b => exact rdoD_ok 6 (mulD a b) h m id k mc tie a b hb hk hkb (rdblMul_ok a b bx by')
theorem rdoAdd_ok (h : Heap) (m id k : Nat) (md : Int) (mc : AV) (tie : Bool) (x y : Vx) (hb : ∀ l, Lab.pool l = false → h l = none) (hk : h (.obj id) = some (bankR md mc k tie)) (hkb : k < 1000000000) (mx : x.md = md) (my : y.md = md)
    (bx : x.B 40000) (by' : y.B 40000) (zx : x.Z 30000) (zy : y.Z 30000) :
    Ret Tryz.prog 60 [.ptr id, .int .i64 4, x.T, y.T] h m [.t (addV x y).T] (upd h (.obj id) (some (bankR md mc (k + 1) tie))) m := by
  subst mx
  cases x with
  | q r => cases y with
    | q s => exact rdoQ_ok 4 (r + s) h m id k mc tie r s hb hk hkb (rexAdd_ok h m id r s hb bx by' zx zy)
    | d b => simp [Vx.md] at my
  | d a => cases y with
    | q s => simp [Vx.md] at my
    | d b => exact rdoD_ok 4 (addD a b) h m id k mc tie a b hb hk hkb (rdblAdd_ok a b bx by')
end Go.Fm
/- A product, by the reference, on exact numbers or doubles. -/
namespace Go.Fm
open Go.Proofs
set_option maxRecDepth 100000
attribute [local irreducible] tiOf

theorem dotX_Z {xs ys : List Vx} {md : Int} {N : Nat} (hx : AllX md N xs) (hy : AllX md N ys) {l : List (Int × Int)} {K : Nat} (hl : ∀ i, i < K → ∃ q1 q2 : Nat, l[i]? = some ((q1 : Int), (q2 : Int)) ∧ q1 < xs.length ∧ q2 < ys.length) :
    ∀ i, i < K → (dotX xs ys (l.take (i + 1))).Z (128 * N)
  | 0, hi => by
    obtain ⟨q1, q2, h, h1, h2⟩ := hl 0 hi
    obtain ⟨r, hr⟩ := getI h1
    obtain ⟨s, hs⟩ := getI h2
    have a := hx r (List.mem_of_getElem? hr)
    have b := hy s (List.mem_of_getElem? hs)
    rw [dotX_one h, dotT2_nat hr hs]
    exact (mulV_Z (a.1.trans b.1.symm) (Z_of_B a.2) (Z_of_B b.2)).mono (by omega)
  | i + 1, hi => by
    obtain ⟨q1, q2, h, h1, h2⟩ := hl (i + 1) hi
    obtain ⟨r, hr⟩ := getI h1
    obtain ⟨s, hs⟩ := getI h2
    have a := hx r (List.mem_of_getElem? hr)
    have b := hy s (List.mem_of_getElem? hs)
    have ih := dotX_Z hx hy hl i (by omega)
    have io := dotX_ok hx hy hl i (by omega)
    rw [dotX_snoc h, dotT2_nat hr hs]
    have hm : (mulV r s).md = md := (mulV_md (a.1.trans b.1.symm)).trans a.1
    exact addV_Z (io.1.trans hm.symm) ih ((mulV_Z (a.1.trans b.1.symm) (Z_of_B a.2) (Z_of_B b.2)).mono (by omega))

set_option maxHeartbeats 2000000 in
theorem rdoX_ok (h : Heap) (m id k : Nat) (md : Int) (a b out : List Int) (xs ys : List Vx) (hb : ∀ l, Lab.pool l = false → h l = none) (hk : h (.obj id) = some (bankR md .nil k false)) (hkb : k < 100000000)
    (hm : mdims a b = (out, 0)) (hx : (xs.length : Int) = cnt a) (hy : (ys.length : Int) = cnt b) (hqx : AllX md 9 xs) (hqy : AllX md 9 ys) :
    Ret Tryz.prog 15 [.ptr id, argX a xs, argX b ys] h m [.t (sX (doMX a b out xs ys (cnt out).toNat))] (upd h (.obj id) (some (bankR md .nil (kM a out k (cnt out).toNat) false))) m := by
  have hl : ∀ d j, h (.loc d j) = none := fun d j => hb _ rfl
  have H := mdims_inv hm
  have hcp : cnt out = prodL out := by unfold cnt; rw [if_pos H.co]
  have c1 := rTerms_ok a b out hm
  rw [← hcp] at c1
  have hup : ∀ c c', upd (upd h (.obj id) (some (bankR md .nil c false))) (.obj id) (some (bankR md .nil c' false)) = upd h (.obj id) (some (bankR md .nil c' false)) := fun c c' => upd_upd _ _ _ _
  have hu0 : upd h (.obj id) (some (bankR md .nil k false)) = h := by
    funext l
    by_cases e : l = .obj id
    · subst e; rw [upd_same, hk]
    · rw [upd_ne _ _ _ _ e]
  have k0 : kM a out k 0 = k := by simp [kM]
  obtain ⟨K, hK⟩ : ∃ K, (a.getD (a.length - 1) 0).toNat = K := ⟨_, rfl⟩
  have hK64 : 1 ≤ K ∧ K ≤ 64 := by
    obtain ⟨K', hK'⟩ := getI (show a.length - 1 < a.length by have := H.la; omega)
    rw [getD_of hK'] at hK
    have hK1 := (chk0 H.ca).2.1 K' (List.mem_of_getElem? hK')
    have h1 := prodL_snoc hK'
    have h2 := prodL_le (chk0 H.ca).2.1 (a.length - 1 + 1)
    have h3 := prodL_pos (d := a.take (a.length - 1)) fun y hy => (chk0 H.ca).2.1 y (List.mem_of_mem_take hy)
    have h4 := (chk0 H.ca).2.2.2
    have h5 := Int.mul_le_mul_of_nonneg_right h3 (show 0 ≤ K' by omega)
    omega
  have hcn : 0 ≤ cnt out ∧ cnt out ≤ 64 := by
    have := (chk0 H.co).2.2
    unfold cnt; rw [if_pos H.co]; omega
  have hkm : ∀ n, kM a out k (n + 1) = kM a out k n + (2 * K - 1) := fun n => by unfold kM; rw [hK, Nat.add_mul, Nat.one_mul]; omega
  have hkb2 : ∀ n, n ≤ 64 → kM a out k n < 200000000 := fun n hn => by
    unfold kM
    rw [hK]
    have := Nat.mul_le_mul hn (show 2 * K - 1 ≤ 128 by omega)
    omega
  obtain ⟨N, hN⟩ : ∃ N, (cnt out).toNat = N := ⟨_, rfl⟩
  rw [hN] at c1 ⊢
  have hN64 : N ≤ 64 := by omega
  have hal := allT_length a b out N
  have hag := fun i (h : i < N) => allT_get (a := a) (b := b) (out := out) h
  refine Ret.intro Tryz.func15 rfl (rt := [6]) rfl (by simp [Tryz.ntmps15]) (by decide) (sites := fun _ => false) (upd_hb hb) bank_keeps ?_
  unfold argX
  apply run_sound 200
  simp -implicitDefEqProofs +decide only [go_sem, hl, sI, sX]
  simp only [sI] at c1
  refine CallG.PS _ Tryz.call59 (c1) ?_
  simp -implicitDefEqProofs +decide only [go_sem, hl, List.length_map, hal]
  refine Goes.wk (Wk.nilRow (d := 8) (lab := .loc 69 0) (size := 5) (by simp -implicitDefEqProofs +decide only [go_sem]) (by simp -implicitDefEqProofs +decide only [go_sem, hl]) rfl (by decide)) ?_
  refine Goes.loop (X := Nat) (fun n => ⟨ofL [(0, .t (.ptr id)), (4, .bp (.loc 4 0) 0), (5, .bp (.loc 5 0) 0), (7, .t (.slice ((allT a b out N).map sP))), (8, .sl (.loc 69 0) n 0 n), (19, .t (.int .i64 N)), (20, .t (.int .i64 n))],
      ofH (upd h (.obj id) (some (bankR md .nil (kM a out k n) false))) [(.loc 4 0, .box [.t (sI a), .t (sX xs)]), (.loc 5 0, .box [.t (sI b), .t (sX ys)]), (.loc 69 0, .arr 5 ((doMX a b out xs ys n).map Vx.T) n 0)], m⟩) (fun n => n ≤ N) (fun n => N - n) 0 ?_ (by omega) ?_
  · rw [k0, hu0]
    refine Wk.boxes _ _ hb rfl rfl ?_ (fun l hp => by cases l <;> first | rfl | cases hp) ?_ ?_
    · simp -implicitDefEqProofs +decide only [go_sem, sI, sX] <;> first | rfl | exact ⟨rfl, rfl, rfl⟩
    · simp -implicitDefEqProofs +decide only [go_sem] <;> rfl
    · simp -implicitDefEqProofs +decide only [go_sem]
  rintro n hn J hJ
  apply run_sound 200
  simp -implicitDefEqProofs +decide only [go_sem, ofH, hl]
  refine selP_dec (fun h1 => ?_) (fun h1 => ?_)
  · obtain ⟨tm, htm⟩ : ∃ tm, termsM a b out (n : Int) = tm := ⟨_, rfl⟩
    have htl := termsM_length a b out n
    have htg := fun i hi => termsM_get (n := (n : Int)) (i := i) hm ⟨by omega, by omega⟩ hi
    have hagn := hag n (by omega)
    rw [htm] at htl hagn
    simp only [htm, hK] at htg htl
    have hdl : ∀ i, i < K → ∃ q1 q2 : Nat, tm[i]? = some ((q1 : Int), (q2 : Int)) ∧ q1 < xs.length ∧ q2 < ys.length := fun i hi => by
      obtain ⟨q1, q2, g1, g2, g3⟩ := htg i hi
      exact ⟨q1, q2, g1, by omega, by omega⟩
    have hdx := dotX_ok hqx hqy (l := tm) (K := K) hdl
    have hdz := dotX_Z hqx hqy (l := tm) (K := K) hdl
    simp -implicitDefEqProofs +decide only [go_sem, sI, ofH, hl, hagn, sP, htl, List.length_map]
    refine Goes.loop (X := Nat) (fun i => ⟨ofL [(0, .t (.ptr id)), (4, .bp (.loc 4 0) 0), (5, .bp (.loc 5 0) 0), (7, .t (.slice ((allT a b out N).map sP))), (8, .sl (.loc 69 0) n 0 n), (9, .t (.int .i64 n)), (10, .bp (.loc 10 0) 0), (19, .t (.int .i64 N)), (20, .t (.int .i64 n)), (28, .t (.int .i64 K)), (29, .t (.int .i64 i))],
        ofH (upd h (.obj id) (some (bankR md .nil (kM a out k n + (2 * i - 1)) false))) [(.loc 4 0, .box [.t (sI a), .t (sX xs)]), (.loc 5 0, .box [.t (sI b), .t (sX ys)]), (.loc 69 0, .arr 5 ((doMX a b out xs ys n).map Vx.T) n 0), (.loc 10 0, .box (sCX i (dotX xs ys (tm.take i))))], m⟩) (fun i => i ≤ K) (fun i => K - i) 0 ?_ (by omega) ?_
    · refine Wk.boxes _ _ (upd_hb hb) rfl ?_ ?_ (fun l hp => by cases l <;> first | rfl | cases hp) ?_ ?_
      · simp [Lab.pool, sCX, refsInL, refsIn]
      · simp -implicitDefEqProofs +decide only [go_sem, ofH, sCX, sI, sX] <;> rfl
      · simp -implicitDefEqProofs +decide only [go_sem, sP]
      · simp -implicitDefEqProofs +decide only [go_sem, sP]
    rintro i hi J2 hJ2
    apply run_sound 200
    simp -implicitDefEqProofs +decide only [go_sem, ofH]
    refine selP_dec (fun h2 => ?_) (fun h2 => ?_)
    · obtain ⟨q1, q2, hq, hq1, hq2⟩ := htg i (by omega)
      obtain ⟨r, hr⟩ := getI (show q1 < xs.length by omega)
      obtain ⟨s, hs⟩ := getI (show q2 < ys.length by omega)
      have hbc := hkb2 n (by omega)
      have hQr := hqx r (List.mem_of_getElem? hr)
      have hQs := hqy s (List.mem_of_getElem? hs)
      obtain ⟨c, hc⟩ : ∃ c, kM a out k n + (2 * i - 1) = c := ⟨_, rfl⟩
      have hclean := sCX_clean i (dotX xs ys (tm.take i))
      have cm := rdoMul_ok (upd h (.obj id) (some (bankR md .nil c false))) m id c md .nil false r s (upd_hb hb) (upd_same _ _ _) (by omega) hQr.1 hQs.1 (hQr.2.mono (by decide)) (hQs.2.mono (by decide)) ((Z_of_B hQr.2).mono (by decide)) ((Z_of_B hQs.2).mono (by decide))
      rw [hup] at cm
      simp only [Vx_T] at cm
      rw [hc]
      simp -implicitDefEqProofs +decide only [go_sem]
      refine Goes.drawP mixed (Calm.of (by repeat first | exact Clean.und | refine Clean.upd ?_ rfl | refine Clean.upd ?_ (by simp only [cleanA, cleanL, ])) (by repeat first | exact HCalm.none | exact HCalm.hb hb | exact HCalm.hb (bank_hb hb) | refine HCalm.row ?_ | refine HCalm.box ?_ (by first | rfl | (simp only [cleanA, cleanL, ]; done) | assumption))) ?_
      simp -implicitDefEqProofs +decide only [go_sem, hr, hs, hq, hagn, sP, tP, sI, sX, Vx_T, Int.toNat_natCast, hl]
      refine CallD.pool _ [(.obj id, bankR md .nil (c + 1) false)] Tryz.call60 cm rfl (upd_hb hb) (by rintro (_ | _ | _ | _ | _) hp <;> first | (cases hp; done) | simp -implicitDefEqProofs +decide only [go_sem]) (fun l _ => (congrFun (hup c (c + 1)) l).symm) rfl ?_
      simp -implicitDefEqProofs +decide only [go_sem, hup, hl]
      refine ⟨.mk (by kernel_rfl), ?_⟩
      apply run_sound 200
      have hw := wS (show i < 1000000000000 by omega)
      simp -implicitDefEqProofs +decide only [go_sem]
      refine selP_dec (fun h3 => ?_) (fun h3 => ?_)
      · obtain rfl : i = 0 := by omega
        have ec : c + 1 = kM a out k n + (2 * (0 + 1) - 1) := by omega
        have ed : dotX xs ys (tm.take (0 + 1)) = mulV r s := by rw [dotX_one hq, dotT2_nat hr hs]
        simp -implicitDefEqProofs +decide only [go_sem, sCX_zero, hw, ec]
        refine hJ2 (0 + 1) _ (by omega) (by omega) (Wk.boxes _ _ (upd_hb hb) rfl ?_ ?_ (by rintro (_ | _ | _ | _ | _) hp <;> first | (cases hp; done) | simp -implicitDefEqProofs +decide only [go_sem, ec]) ?_ ?_)
        · simp [Lab.pool, sCX, refsInL, refsIn]
        · simp -implicitDefEqProofs +decide only [go_sem, ofH, sCX_succ, sI, sX, ed] <;> rfl
        · simp -implicitDefEqProofs +decide only [go_sem, sP]
        · simp -implicitDefEqProofs +decide only [go_sem, sP]
      · obtain ⟨j, rfl⟩ : ∃ j, i = j + 1 := ⟨i - 1, by omega⟩
        have hQd := hdx j (by omega)
        have hZd := hdz j (by omega)
        have hmm : (mulV r s).md = md := (mulV_md (hQr.1.trans hQs.1.symm)).trans hQr.1
        have hmB := mulV_B (hQr.1.trans hQs.1.symm) hQr.2 hQs.2
        have hmZ := mulV_Z (hQr.1.trans hQs.1.symm) (Z_of_B hQr.2) (Z_of_B hQs.2)
        have ca := rdoAdd_ok (upd h (.obj id) (some (bankR md .nil (c + 1) false))) m id (c + 1) md .nil false (dotX xs ys (tm.take (j + 1))) (mulV r s) (upd_hb hb) (upd_same _ _ _) (by omega) hQd.1 hmm (hQd.2.mono (by omega)) (hmB.mono (by decide)) (hZd.mono (by decide)) (hmZ.mono (by decide))
        rw [hup, ← dotT2_nat hr hs, ← dotX_snoc hq] at ca
        simp only [Vx_T] at ca
        have hsC := sCX_succ j (dotX xs ys (tm.take (j + 1)))
        simp -implicitDefEqProofs +decide only [go_sem, hsC]
        rw [← dotT2_nat hr hs]
        refine CallG.pool _ Tryz.call60 ca (upd_hb hb) (by rintro (_ | _ | _ | _ | _) hp <;> first | (cases hp; done) | simp -implicitDefEqProofs +decide only [go_sem, hup]) ?_
        apply run_sound 200
        have ec : c + 1 + 1 = kM a out k n + (2 * (j + 1 + 1) - 1) := by omega
        simp -implicitDefEqProofs +decide only [go_sem, hw, ec]
        refine hJ2 (j + 1 + 1) _ (by omega) (by omega) (Wk.boxes _ _ (upd_hb hb) rfl ?_ ?_ (fun l hp => by cases l <;> first | rfl | cases hp) ?_ ?_)
        · simp [Lab.pool, sCX, refsInL, refsIn]
        · simp -implicitDefEqProofs +decide only [go_sem, ofH, sCX_succ, sI, sX] <;> rfl
        · simp -implicitDefEqProofs +decide only [go_sem, sP]
        · simp -implicitDefEqProofs +decide only [go_sem, sP]
    · obtain rfl : i = K := by omega
      have htk : tm.take i = tm := List.take_of_length_le (by omega)
      obtain ⟨j, rfl⟩ : ∃ j, i = j + 1 := ⟨i - 1, by omega⟩
      have hw := wS (show n < 1000000000000 by omega)
      have hlen := doMX_length a b out xs ys n
      have hbig : n + 1 < big := by unfold big; omega
      have hsn := doMX_snoc a b out xs ys n (dotX xs ys tm) (by rw [htm])
      have hkk : kM a out k n + (2 * (j + 1) - 1) = kM a out k (n + 1) := (hkm n).symm
      rw [htk, hkk]
      simp -implicitDefEqProofs +decide only [go_sem, sCX_succ, hl, hlen, List.length_map, hbig, hsn, hw]
      refine hJ (n + 1) _ (by omega) (by omega) (Wk.boxes _ _ (upd_hb hb) rfl rfl ?_ (fun l hp => by cases l <;> first | rfl | cases hp) ?_ ?_)
      · simp -implicitDefEqProofs +decide only [go_sem, ofH, sI, sX] <;> rfl
      · simp -implicitDefEqProofs +decide only [go_sem, sP]
      · simp -implicitDefEqProofs +decide only [go_sem, sP]
  · obtain rfl : n = N := by omega
    simp -implicitDefEqProofs +decide only [go_sem]
    have hlen := doMX_length a b out xs ys n
    exact endF.row1 (.inr rfl) (by simp -implicitDefEqProofs +decide only [go_sem]; rfl) (by simp -implicitDefEqProofs +decide only [go_sem]; rfl) (by rw [List.length_map, hlen]) (by rintro (_ | _ | _ | _ | _) hp <;> first | (cases hp; done) | simp -implicitDefEqProofs +decide only [go_sem]) rfl
end Go.Fm
/- Operands of exact numbers, or of doubles. -/
namespace Go.Fm
open Go.Proofs
set_option maxRecDepth 100000
attribute [local irreducible] tiOf

def rightD (s : Sc) : Bool := decide (s.x = ⟨false, [], []⟩) && (decide (s.f = 0) && decide (cleanD s.b = s.b))
def rightX (md : Int) (s : Sc) : Bool := if md = 0 then rightB s else rightD s
theorem rRightD_ok (s : Sc) (h : SOK s 1000) (hb : s.b < 18446744073709551616) : Pure Tryz.prog 96 [.int .i64 1, s.T] [.t (.bool (rightD s))] := by
  have c1 := rSame_ok s.x ⟨false, [], []⟩ (by have := h.lp; omega) (by have := h.lq; omega) (by simp) (by simp)
  have c2 := dClean_ok s.b hb
  unfold rightD
  obtain ⟨b1, hb1⟩ : ∃ b, decide (s.x = ⟨false, [], []⟩) = b := ⟨_, rfl⟩
  rw [hb1] at c1 ⊢
  obtain ⟨⟨n, p, q⟩, b, f⟩ := s
  simp only [Rt.T, rT] at c1
  clear hb1 h
  dsimp only at c2 hb ⊢
  have d1 : decide (((cleanD b : Nat) : Int) = (b : Int)) = decide (cleanD b = b) := decide_eq_decide.2 (by omega)
  obtain ⟨v, hv⟩ : ∃ v, (b1 && (decide (f = 0) && decide (cleanD b = b))) = v := ⟨_, rfl⟩
  rw [hv]
  refine Pure.intro Tryz.func96 rfl (rt := [4]) rfl (by simp [Tryz.ntmps96]) (by decide) (sites := fun _ => false) ?_
  apply run_sound 200
  simp -implicitDefEqProofs +decide only [go_sem, Sc.T_eq, sW]
  simp only [sW] at c1
  refine CallG.P _ Tryz.call80 (c1) ?_
  simp -implicitDefEqProofs +decide only [go_sem]
  refine Goes.drawN mixed ?_
  cases b1
  · obtain rfl : v = false := by rw [← hv]; rfl
    simp -implicitDefEqProofs +decide only [go_sem]
    refine ⟨.mk (by kernel_rfl), ?_⟩
    apply run_sound 200
    simp -implicitDefEqProofs +decide only [go_sem]
    exact endF.V [(4, .bool false)] (vals_t (by simp -implicitDefEqProofs +decide only [go_sem] <;> rfl) rfl vals_nil)
  · by_cases h1 : f = 0
    · subst h1
      obtain rfl : decide (cleanD b = b) = v := by rw [← hv]; simp
      simp -implicitDefEqProofs +decide only [go_sem]
      refine CallD.P _ Tryz.call157 c2 ?_
      simp -implicitDefEqProofs +decide only [go_sem, d1]
      refine ⟨.mk (by kernel_rfl), ?_⟩
      apply run_sound 200
      simp -implicitDefEqProofs +decide only [go_sem]
      exact endF.V [(4, .bool (decide (cleanD b = b)))] (vals_t (by simp -implicitDefEqProofs +decide only [go_sem, d1] <;> rfl) rfl vals_nil)
    · obtain rfl : v = false := by rw [← hv, decide_eq_false h1]; rfl
      have e1 : decide (f = 0) = false := decide_eq_false h1
      simp -implicitDefEqProofs +decide only [go_sem, e1]
      refine ⟨.mk (by kernel_rfl), ?_⟩
      apply run_sound 200
      simp -implicitDefEqProofs +decide only [go_sem]
      exact endF.V [(4, .bool false)] (vals_t (by simp -implicitDefEqProofs +decide only [go_sem] <;> rfl) rfl vals_nil)
theorem rRightX_ok (md : Int) (hmd : md = 0 ∨ md = 1) (s : Sc) (h : SOK s 1000) (hb : s.b < 18446744073709551616) : Pure Tryz.prog 96 [.int .i64 md, s.T] [.t (.bool (rightX md s))] := by
  rcases hmd with rfl | rfl
  · exact rRightV_ok s h
  · exact rRightD_ok s h hb
theorem rValsX_ok (md : Int) (hmd : md = 0 ∨ md = 1) (l : List Sc) (hl : l.length < 1000000000) (h : ∀ s ∈ l, SOK s 1000 ∧ s.b < 18446744073709551616) : Pure Tryz.prog 42 [.int .i64 md, sS l] [.t (.bool (l.all (rightX md)))] := by
  refine Pure.intro Tryz.func42 rfl (rt := [4]) rfl (by simp [Tryz.ntmps42]) (by decide) (sites := fun _ => false) ?_
  apply run_sound 200
  simp -implicitDefEqProofs +decide only [go_sem, sS, List.length_map]
  refine Goes.loop (X := Nat) (fun i => ⟨ofL [(0, .t (.int .i64 md)), (1, .t (sS l)), (7, .t (.int .i64 l.length)), (8, .t (.int .i64 i))], fun _ => none, 0⟩) (fun i => i ≤ l.length ∧ (l.take i).all (rightX md) = true) (fun i => l.length - i) 0 (Wk.slots _ rfl rfl (by simp -implicitDefEqProofs +decide only [go_sem, sS]) (by simp -implicitDefEqProofs +decide only [go_sem, sS])) (by simp) ?_
  rintro i ⟨hi, he⟩ J hJ
  apply run_sound 200
  simp -implicitDefEqProofs +decide only [go_sem, sS]
  refine selP_dec (fun hc => ?_) (fun hc => ?_)
  · obtain ⟨s, hs⟩ := getI (show i < l.length by omega)
    have c := rRightX_ok md hmd s (h s (List.mem_of_getElem? hs)).1 (h s (List.mem_of_getElem? hs)).2
    obtain ⟨b, hb⟩ : ∃ b, rightX md s = b := ⟨_, rfl⟩
    have hw := wS (show i < 1000000000000 by omega)
    rw [hb] at c
    simp only [Sc.T, sW] at c
    simp -implicitDefEqProofs +decide only [go_sem, hs, Sc.T, sW]
    refine CallG.P _ Tryz.call96 (c) ?_
    simp -implicitDefEqProofs +decide only [go_sem]
    cases b
    · have e : l.all (rightX md) = false := all_mem hs hb
      rw [e]
      simp -implicitDefEqProofs +decide only [go_sem]
      exact endF.V [(4, .bool false)] (vals_t (by simp -implicitDefEqProofs +decide only [go_sem] <;> rfl) rfl vals_nil)
    · simp -implicitDefEqProofs +decide only [go_sem, hw]
      refine hJ (i + 1) _ ⟨by omega, all_take hs he hb⟩ (by omega) (Wk.slots _ rfl rfl (by simp -implicitDefEqProofs +decide only [go_sem, sS, hw]) (by simp -implicitDefEqProofs +decide only [go_sem, sS, hw]))
  · have e : l.all (rightX md) = true := all_done he (by omega)
    rw [e]
    simp -implicitDefEqProofs +decide only [go_sem]
    exact endF.V [(4, .bool true)] (vals_t (by simp -implicitDefEqProofs +decide only [go_sem] <;> rfl) rfl vals_nil)

theorem argsRightX_ok (md : Int) (hmd : md = 0 ∨ md = 1) (l : List Ag) (hl : l.length < 9000000000000000000) (h : argsB l = false → ∀ a ∈ l, ∀ s ∈ a.v, SOK s 1000 ∧ s.b < 18446744073709551616) :
    Pure Tryz.prog 9 [.int .i64 md, sA l] [.t (.bool (!argsB l && l.all fun a => a.v.all (rightX md)))] := by
  rcases hmd with rfl | rfl
  · have c1 := args_ok l hl
    obtain ⟨b, hb⟩ : ∃ b, argsB l = b := ⟨_, rfl⟩
    rw [hb] at c1 h ⊢
    simp only [sA] at c1
    obtain ⟨v, hv⟩ : ∃ v, (!b && l.all fun a => a.v.all (rightX 0)) = v := ⟨_, rfl⟩
    rw [hv]
    refine Pure.intro Tryz.func9 rfl (rt := [4]) rfl (by simp [Tryz.ntmps9]) (by decide) (sites := fun _ => false) ?_
    apply run_sound 200
    simp -implicitDefEqProofs +decide only [go_sem, sA, List.length_map]
    refine CallG.P _ Tryz.call51 (c1) ?_
    simp -implicitDefEqProofs +decide only [go_sem]
    cases b
    · have h := h rfl
      have hla : l.length ≤ 6 ∧ ∀ a ∈ l, a.v.length ≤ 100 := by
        unfold argsB at hb
        rw [Bool.or_eq_false_iff, List.any_eq_false] at hb
        refine ⟨by have := of_decide_eq_false hb.2; omega, fun a ha => ?_⟩
        have := hb.1 a ha
        unfold agB at this
        simp only [Bool.or_eq_true, decide_eq_true_eq, not_or] at this
        omega
      simp -implicitDefEqProofs +decide only [go_sem, List.length_map]
      refine Goes.loop (X := Nat) (fun i => ⟨ofL [(0, .t (.int .i64 0)), (1, .t (sA l)), (17, .t (.int .i64 l.length)), (18, .t (.int .i64 i))], fun _ => none, 0⟩) (fun i => i ≤ l.length ∧ (l.take i).all (fun a => a.v.all (rightX 0)) = true) (fun i => l.length - i) 0 (Wk.slots _ rfl rfl (by simp -implicitDefEqProofs +decide only [go_sem, sA]) (by simp -implicitDefEqProofs +decide only [go_sem, sA])) (by simp) ?_
      rintro i ⟨hi, he⟩ J hJ
      apply run_sound 200
      simp -implicitDefEqProofs +decide only [go_sem, sA]
      refine selP_dec (fun hc => ?_) (fun hc => ?_)
      · obtain ⟨a, ha⟩ := getI (show i < l.length by omega)
        have c := rValsX_ok 0 (.inl rfl) a.v (by have := hla.2 a (List.mem_of_getElem? ha); omega) (h a (List.mem_of_getElem? ha))
        obtain ⟨b, hb⟩ : ∃ b, a.v.all (rightX 0) = b := ⟨_, rfl⟩
        have hla6 := hla.1
        have hw := wS (show i < 1000000000000 by omega)
        rw [hb] at c
        simp only [sS] at c
        simp -implicitDefEqProofs +decide only [go_sem, ha, Ag.T, sI, sS]
        refine CallG.P _ Tryz.call42 (c) ?_
        simp -implicitDefEqProofs +decide only [go_sem]
        cases b
        · obtain rfl : v = false := by rw [← hv, all_mem ha hb]; rfl
          simp -implicitDefEqProofs +decide only [go_sem]
          exact endF.V [(4, .bool false)] (vals_t (by simp -implicitDefEqProofs +decide only [go_sem] <;> rfl) rfl vals_nil)
        · simp -implicitDefEqProofs +decide only [go_sem, hw]
          refine hJ (i + 1) _ ⟨by omega, all_take ha he hb⟩ (by omega) (Wk.slots _ rfl rfl (by simp -implicitDefEqProofs +decide only [go_sem, sA, hw]) (by simp -implicitDefEqProofs +decide only [go_sem, sA, hw]))
      · obtain rfl : v = true := by rw [← hv, all_done he (by omega)]; rfl
        simp -implicitDefEqProofs +decide only [go_sem]
        exact endF.V [(4, .bool true)] (vals_t (by simp -implicitDefEqProofs +decide only [go_sem] <;> rfl) rfl vals_nil)
    · obtain rfl : v = false := by rw [← hv]; rfl
      simp -implicitDefEqProofs +decide only [go_sem]
      exact endF.V [(4, .bool false)] (vals_t (by simp -implicitDefEqProofs +decide only [go_sem] <;> rfl) rfl vals_nil)
  · have c1 := args_ok l hl
    obtain ⟨b, hb⟩ : ∃ b, argsB l = b := ⟨_, rfl⟩
    rw [hb] at c1 h ⊢
    simp only [sA] at c1
    obtain ⟨v, hv⟩ : ∃ v, (!b && l.all fun a => a.v.all (rightX 1)) = v := ⟨_, rfl⟩
    rw [hv]
    refine Pure.intro Tryz.func9 rfl (rt := [4]) rfl (by simp [Tryz.ntmps9]) (by decide) (sites := fun _ => false) ?_
    apply run_sound 200
    simp -implicitDefEqProofs +decide only [go_sem, sA, List.length_map]
    refine CallG.P _ Tryz.call51 (c1) ?_
    simp -implicitDefEqProofs +decide only [go_sem]
    cases b
    · have h := h rfl
      have hla : l.length ≤ 6 ∧ ∀ a ∈ l, a.v.length ≤ 100 := by
        unfold argsB at hb
        rw [Bool.or_eq_false_iff, List.any_eq_false] at hb
        refine ⟨by have := of_decide_eq_false hb.2; omega, fun a ha => ?_⟩
        have := hb.1 a ha
        unfold agB at this
        simp only [Bool.or_eq_true, decide_eq_true_eq, not_or] at this
        omega
      simp -implicitDefEqProofs +decide only [go_sem, List.length_map]
      refine Goes.loop (X := Nat) (fun i => ⟨ofL [(0, .t (.int .i64 1)), (1, .t (sA l)), (17, .t (.int .i64 l.length)), (18, .t (.int .i64 i))], fun _ => none, 0⟩) (fun i => i ≤ l.length ∧ (l.take i).all (fun a => a.v.all (rightX 1)) = true) (fun i => l.length - i) 0 (Wk.slots _ rfl rfl (by simp -implicitDefEqProofs +decide only [go_sem, sA]) (by simp -implicitDefEqProofs +decide only [go_sem, sA])) (by simp) ?_
      rintro i ⟨hi, he⟩ J hJ
      apply run_sound 200
      simp -implicitDefEqProofs +decide only [go_sem, sA]
      refine selP_dec (fun hc => ?_) (fun hc => ?_)
      · obtain ⟨a, ha⟩ := getI (show i < l.length by omega)
        have c := rValsX_ok 1 (.inr rfl) a.v (by have := hla.2 a (List.mem_of_getElem? ha); omega) (h a (List.mem_of_getElem? ha))
        obtain ⟨b, hb⟩ : ∃ b, a.v.all (rightX 1) = b := ⟨_, rfl⟩
        have hla6 := hla.1
        have hw := wS (show i < 1000000000000 by omega)
        rw [hb] at c
        simp only [sS] at c
        simp -implicitDefEqProofs +decide only [go_sem, ha, Ag.T, sI, sS]
        refine CallG.P _ Tryz.call42 (c) ?_
        simp -implicitDefEqProofs +decide only [go_sem]
        cases b
        · obtain rfl : v = false := by rw [← hv, all_mem ha hb]; rfl
          simp -implicitDefEqProofs +decide only [go_sem]
          exact endF.V [(4, .bool false)] (vals_t (by simp -implicitDefEqProofs +decide only [go_sem] <;> rfl) rfl vals_nil)
        · simp -implicitDefEqProofs +decide only [go_sem, hw]
          refine hJ (i + 1) _ ⟨by omega, all_take ha he hb⟩ (by omega) (Wk.slots _ rfl rfl (by simp -implicitDefEqProofs +decide only [go_sem, sA, hw]) (by simp -implicitDefEqProofs +decide only [go_sem, sA, hw]))
      · obtain rfl : v = true := by rw [← hv, all_done he (by omega)]; rfl
        simp -implicitDefEqProofs +decide only [go_sem]
        exact endF.V [(4, .bool true)] (vals_t (by simp -implicitDefEqProofs +decide only [go_sem] <;> rfl) rfl vals_nil)
    · obtain rfl : v = false := by rw [← hv]; rfl
      simp -implicitDefEqProofs +decide only [go_sem]
      exact endF.V [(4, .bool false)] (vals_t (by simp -implicitDefEqProofs +decide only [go_sem] <;> rfl) rfl vals_nil)
end Go.Fm
/- What the law on products asks for: new banks, operands. -/
namespace Go.Fm
open Go.Proofs
set_option maxRecDepth 100000
attribute [local irreducible] tiOf

noncomputable def wholeB (x y : Ag) : Bool := decide ((mdims x.d y.d).2 = 0) && (decide ((x.v.length : Int) = cnt x.d) && decide ((y.v.length : Int) = cnt y.d))
theorem whole_ok (x y : Ag) (hx : x.d.length < 1000000000) (hy : y.d.length < 1000000000) : Pure Tryz.prog 13 [x.T, y.T] [.t (.bool (wholeB x y))] := by
  obtain ⟨l, e, hm⟩ : ∃ l e, mdims x.d y.d = (l, e) := ⟨_, _, rfl⟩
  have c1 := rDims_ok x.d y.d l e hx hy hm
  have c2 := rCount_ok x.d hx
  have c3 := rCount_ok y.d hy
  unfold wholeB
  rw [hm]
  dsimp only
  obtain ⟨d, v⟩ := x
  obtain ⟨d', v'⟩ := y
  dsimp only at *
  simp only [sI] at c2 c3
  refine Pure.intro Tryz.func13 rfl (rt := [4]) rfl (by simp [Tryz.ntmps13]) (by decide) (sites := fun _ => false) ?_
  apply run_sound 200
  simp -implicitDefEqProofs +decide only [go_sem, Ag.T, sI, sS]
  refine CallG.PS _ Tryz.call58 (c1) ?_
  simp -implicitDefEqProofs +decide only [go_sem]
  by_cases he : e = 0
  · subst he
    by_cases h1 : (v.length : Int) = cnt d
    · have d1 : decide ((v.length : Int) = cnt d) = true := decide_eq_true h1
      obtain ⟨b, hb⟩ : ∃ b, decide ((v'.length : Int) = cnt d') = b := ⟨_, rfl⟩
      rw [d1, hb]
      refine Goes.drawN mixed ?_
      simp -implicitDefEqProofs +decide only [go_sem, sI, sS, List.length_map]
      refine CallD.P _ Tryz.call25 c2 ?_
      simp -implicitDefEqProofs +decide only [go_sem, sI, sS, List.length_map, d1]
      refine CallD.P _ Tryz.call25 c3 ?_
      simp -implicitDefEqProofs +decide only [go_sem, hb]
      refine ⟨.mk (by kernel_rfl), ?_⟩
      apply run_sound 200
      simp -implicitDefEqProofs +decide only [go_sem]
      exact endF.V [(4, .bool b)] (vals_t (by simp -implicitDefEqProofs +decide only [go_sem] <;> rfl) rfl vals_nil)
    · have d1 : decide ((v.length : Int) = cnt d) = false := decide_eq_false h1
      rw [d1]
      refine Goes.drawN mixed ?_
      simp -implicitDefEqProofs +decide only [go_sem, sI, sS, List.length_map]
      refine CallD.P _ Tryz.call25 c2 ?_
      simp -implicitDefEqProofs +decide only [go_sem, sI, sS, List.length_map, d1]
      refine ⟨.mk (by kernel_rfl), ?_⟩
      apply run_sound 200
      simp -implicitDefEqProofs +decide only [go_sem]
      exact endF.V [(4, .bool false)] (vals_t (by simp -implicitDefEqProofs +decide only [go_sem] <;> rfl) rfl vals_nil)
  · have d0 : decide (e = 0) = false := decide_eq_false he
    rw [d0]
    refine Goes.drawN mixed ?_
    simp -implicitDefEqProofs +decide only [go_sem, d0]
    refine ⟨.mk (by kernel_rfl), ?_⟩
    apply run_sound 200
    simp -implicitDefEqProofs +decide only [go_sem]
    exact endF.V [(4, .bool false)] (vals_t (by simp -implicitDefEqProofs +decide only [go_sem] <;> rfl) rfl vals_nil)

attribute [go_sem] noPtr_sV
set_option maxHeartbeats 1000000 in
theorem short_of {l : List Ag} (h : argsB l = false) : l.length ≤ 6 ∧ ∀ a ∈ l, a.d.length ≤ 20 ∧ a.v.length ≤ 100 ∧ wideB 9 a.v = false := by
  unfold argsB at h
  rw [Bool.or_eq_false_iff, List.any_eq_false] at h
  refine ⟨by have := of_decide_eq_false h.2; omega, fun a ha => ?_⟩
  have := h.1 a ha
  unfold agB at this
  simp only [Bool.or_eq_true, decide_eq_true_eq, not_or] at this
  exact ⟨by omega, by omega, by simpa using this.2⟩
theorem argsSOK {l : List Ag} (hw : ∀ a ∈ l, ∀ s ∈ a.v, WOK s.x.p ∧ WOK s.x.q) : argsB l = false → ∀ a ∈ l, ∀ s ∈ a.v, SOK s 1000 := fun h a ha s hs => by
  have := wide_SOK ((short_of h).2 a ha).2.2 (hw a ha) s hs
  exact ⟨this.p, this.q, by have := this.lp; omega, by have := this.lq; omega⟩

theorem opsG_ok (h : Heap) (m id k : Nat) (md : Int) (mc : AV) (tie : Bool) (hb : ∀ l, Lab.pool l = false → h l = none) (hk : h (.obj id) = some (bankG md mc k tie)) :
    Ret Tryz.prog 16 [.ptr id] h m [.t (.int .i64 k)] h m := by
  have hl : ∀ d j, h (.loc d j) = none := fun d j => hb _ rfl
  unfold bankG at hk
  refine Ret.intro Tryz.func16 rfl (rt := [2]) rfl (by simp [Tryz.ntmps16]) (by decide) (sites := fun _ => false) hb (Keeps.refl _) ?_
  apply run_sound 200
  simp -implicitDefEqProofs +decide only [go_sem, hk, hl]
  exact endF.oneH (.inr rfl) (by simp -implicitDefEqProofs +decide only [go_sem, hk, hl]) rfl (fun _ _ => rfl) rfl
theorem argsRightN_ok (md : Int) (hmd : ¬ (md = 0 ∨ md = 1)) (l : List Ag) : Pure Tryz.prog 9 [.int .i64 md, sA l] [.t (.bool false)] := by
  have d1 : decide (md = 0) = false := decide_eq_false (by omega)
  have d2 : decide (md = 1) = false := decide_eq_false (by omega)
  have d3 : decide (md ≠ 0) = true := decide_eq_true (by omega)
  have d4 : decide (md ≠ 1) = true := decide_eq_true (by omega)
  refine Pure.intro Tryz.func9 rfl (rt := [4]) rfl (by simp [Tryz.ntmps9]) (by decide) (sites := fun _ => false) ?_
  apply run_sound 200
  simp -implicitDefEqProofs +decide only [go_sem, d1, d2, d3, d4]
  exact endF.V [(4, .bool false)] (vals_t (by simp -implicitDefEqProofs +decide only [go_sem] <;> rfl) rfl vals_nil)
theorem rightX_sc {md : Int} (hmd : md = 0 ∨ md = 1) {s : Sc} (hw : WOK s.x.p ∧ WOK s.x.q) (hb : s.b < 18446744073709551616) (h : rightX md s = true) : ∃ v : Vx, s = v.sc ∧ v.md = md ∧ ∀ b, v = .d b → b < 18446744073709551616 := by
  rcases hmd with rfl | rfl
  · obtain ⟨r, hr⟩ := right_scR hw.1 hw.2 h
    exact ⟨.q r, hr, rfl, fun b hb => by cases hb⟩
  · have h : rightD s = true := h
    unfold rightD at h
    simp only [Bool.and_eq_true, decide_eq_true_eq] at h
    obtain ⟨h1, h2, h3⟩ := h
    obtain ⟨x, b, f⟩ := s
    dsimp only at h1 h2 hb
    subst h1 h2
    exact ⟨.d b, rfl, rfl, fun b' hb' => by cases hb'; exact hb⟩
theorem rightX_list {md : Int} (hmd : md = 0 ∨ md = 1) : ∀ {l : List Sc}, (∀ s ∈ l, WOK s.x.p ∧ WOK s.x.q) → (∀ s ∈ l, s.b < 18446744073709551616) → l.all (rightX md) = true → ∃ xs : List Vx, l = xs.map Vx.sc ∧ ∀ v ∈ xs, v.md = md ∧ ∀ b, v = .d b → b < 18446744073709551616
  | [], _, _, _ => ⟨[], rfl, fun _ h => by cases h⟩
  | s :: l, h, hb, ha => by
    simp only [List.all_cons, Bool.and_eq_true] at ha
    obtain ⟨v, hv, hm⟩ := rightX_sc hmd (h s (by simp)) (hb s (by simp)) ha.1
    obtain ⟨xs, hxs, hms⟩ := rightX_list hmd (fun t ht => h t (by simp [ht])) (fun t ht => hb t (by simp [ht])) ha.2
    refine ⟨v :: xs, by rw [hv, hxs]; rfl, fun w hw => ?_⟩
    rcases List.mem_cons.1 hw with rfl | hw
    · exact hm
    · exact hms w hw
theorem wideX_B {xs : List Vx} {k : Nat} (h : wideB k (xs.map Vx.sc) = false) (hb : ∀ v ∈ xs, ∀ b, v = .d b → b < 18446744073709551616) : ∀ v ∈ xs, v.B k := by
  intro v hv
  unfold wideB at h
  rw [List.any_eq_false] at h
  have := h v.sc (List.mem_map.2 ⟨v, hv, rfl⟩)
  unfold longB at this
  simp only [Bool.or_eq_true, decide_eq_true_eq, not_or] at this
  cases v with
  | q r => exact ⟨by have := this.1; show (wordsOf r.num.natAbs).length ≤ k; exact Nat.le_of_not_lt this, by have := this.2; show (wordsOf r.den).length ≤ k; exact Nat.le_of_not_lt this⟩
  | d b => exact hb _ hv b rfl
theorem rightNumX {md : Int} (hmd : md = 0 ∨ md = 1) {a : Ag} (hw : ∀ s ∈ a.v, WOK s.x.p ∧ WOK s.x.q) (hb : ∀ s ∈ a.v, s.b < 18446744073709551616) (h : a.v.all (rightX md) = true) (hs : wideB 9 a.v = false) : ∃ xs : List Vx, a.v = xs.map Vx.sc ∧ AllX md 9 xs := by
  obtain ⟨xs, hxs, hm⟩ := rightX_list hmd hw hb h
  rw [hxs] at hs
  have hB := wideX_B hs (fun v hv b hvb => (hm v hv).2 b hvb)
  exact ⟨xs, hxs, fun v hv => ⟨(hm v hv).1, hB v hv⟩⟩
theorem Ag_sc (d : List Int) (xs : List Vx) : (Ag.mk d (xs.map Vx.sc)).T = argX d xs := by unfold Ag.T argX; rw [sX_S]

theorem mdoNo_ok (h : Heap) (m id k : Nat) (md : Int) (x y : Ag) (hb : ∀ l, Lab.pool l = false → h l = none) (hk : h (.obj id) = some (bankG md .nil k false))
    (hx : x.d.length < 1000000000) (hy : y.d.length < 1000000000) (hxv : x.v.length < 1000000000) (hyv : y.v.length < 1000000000) (hw : wholeB x y = false) :
    Ret Tryz.prog 12 [.ptr id, x.T, y.T] h m [.t (.slice [])] h m := by
  have hl : ∀ d j, h (.loc d j) = none := fun d j => hb _ rfl
  obtain ⟨l, e, hm⟩ : ∃ l e, mdims x.d y.d = (l, e) := ⟨_, _, rfl⟩
  have c1 := mdims_ok x.d y.d l e hx hy hm
  have c2 := count_ok x.d hx
  have c3 := count_ok y.d hy
  unfold wholeB at hw
  rw [hm] at hw
  dsimp only at hw
  obtain ⟨d, v⟩ := x
  obtain ⟨d', v'⟩ := y
  dsimp only at *
  simp only [sI] at c1 c2 c3
  refine Ret.intro Tryz.func12 rfl (rt := [6]) rfl (by simp [Tryz.ntmps12]) (by decide) (sites := fun _ => false) hb (Keeps.refl _) ?_
  apply run_sound 200
  simp -implicitDefEqProofs +decide only [go_sem, Ag.T, sI, sS, hl]
  refine CallG.PS _ Tryz.call53 (c1) ?_
  simp -implicitDefEqProofs +decide only [go_sem, hl]
  refine Goes.drawP mixed (Calm.of (by repeat first | exact Clean.und | refine Clean.upd ?_ rfl | refine Clean.upd ?_ (by simp only [cleanA, cleanL, ])) (by repeat first | exact HCalm.none | exact HCalm.hb hb | exact HCalm.hb (bank_hb hb) | refine HCalm.row ?_ | refine HCalm.box ?_ (by first | rfl | (simp only [cleanA, cleanL, ]; done) | assumption))) ?_
  by_cases he : e = 0
  · subst he
    by_cases h1 : (v.length : Int) = cnt d
    · have h2 : ¬ (v'.length : Int) = cnt d' := fun h2 => by rw [decide_eq_true h1, decide_eq_true h2] at hw; simp at hw
      have e1 : decide ((v.length : Int) ≠ cnt d) = false := decide_eq_false (fun g => g h1)
      have e2 : decide ((v'.length : Int) ≠ cnt d') = true := decide_eq_true h2
      simp -implicitDefEqProofs +decide only [go_sem, List.length_map, hl]
      refine CallD.P _ Tryz.call54 c2 ?_
      simp -implicitDefEqProofs +decide only [go_sem, e1, List.length_map, hl]
      refine CallD.P _ Tryz.call54 c3 ?_
      simp -implicitDefEqProofs +decide only [go_sem, e2, List.length_map, hl]
      refine ⟨.mk (by kernel_rfl), ?_⟩
      apply run_sound 200
      simp -implicitDefEqProofs +decide only [go_sem]
      exact endF.nil (.inr rfl) (by simp -implicitDefEqProofs +decide only [go_sem]) (by rintro (_ | _ | _ | _ | _) hp <;> first | (cases hp; done) | simp -implicitDefEqProofs +decide only [go_sem, hl]) rfl
    · have e1 : decide ((v.length : Int) ≠ cnt d) = true := decide_eq_true h1
      simp -implicitDefEqProofs +decide only [go_sem, List.length_map, hl]
      refine CallD.P _ Tryz.call54 c2 ?_
      simp -implicitDefEqProofs +decide only [go_sem, e1, List.length_map, hl]
      refine ⟨.mk (by kernel_rfl), ?_⟩
      apply run_sound 200
      simp -implicitDefEqProofs +decide only [go_sem]
      exact endF.nil (.inr rfl) (by simp -implicitDefEqProofs +decide only [go_sem]) (by rintro (_ | _ | _ | _ | _) hp <;> first | (cases hp; done) | simp -implicitDefEqProofs +decide only [go_sem, hl]) rfl
  · have e0 : decide (e ≠ 0) = true := decide_eq_true he
    simp -implicitDefEqProofs +decide only [go_sem, e0, hl]
    refine ⟨.mk (by kernel_rfl), ?_⟩
    apply run_sound 200
    simp -implicitDefEqProofs +decide only [go_sem]
    exact endF.nil (.inr rfl) (by simp -implicitDefEqProofs +decide only [go_sem]) (by rintro (_ | _ | _ | _ | _) hp <;> first | (cases hp; done) | simp -implicitDefEqProofs +decide only [go_sem, hl]) rfl
end Go.Fm
/- The law MatmulDoes. -/
namespace Go.Fm
open Go.Proofs
set_option maxRecDepth 100000
attribute [local irreducible] tiOf

theorem doMX_AllX {a b out : List Int} {xs ys : List Vx} {md : Int} (hm : mdims a b = (out, 0)) (hx : (xs.length : Int) = cnt a) (hy : (ys.length : Int) = cnt b) (hqx : AllX md 9 xs) (hqy : AllX md 9 ys) {N : Nat} (hN : (N : Int) ≤ cnt out) :
    AllX md 10000 (doMX a b out xs ys N) := by
  intro v hv
  unfold doMX at hv
  obtain ⟨i, hi, rfl⟩ := List.mem_map.1 hv
  have hi := List.mem_range.1 hi
  have H := mdims_inv hm
  obtain ⟨K, hK⟩ : ∃ K, (a.getD (a.length - 1) 0).toNat = K := ⟨_, rfl⟩
  have hK64 : 1 ≤ K ∧ K ≤ 64 := by
    obtain ⟨K', hK'⟩ := getI (show a.length - 1 < a.length by have := H.la; omega)
    rw [getD_of hK'] at hK
    have hK1 := (chk0 H.ca).2.1 K' (List.mem_of_getElem? hK')
    have h1 := prodL_snoc hK'
    have h2 := prodL_le (chk0 H.ca).2.1 (a.length - 1 + 1)
    have h3 := prodL_pos (d := a.take (a.length - 1)) fun y hy => (chk0 H.ca).2.1 y (List.mem_of_mem_take hy)
    have h4 := (chk0 H.ca).2.2.2
    have h5 := Int.mul_le_mul_of_nonneg_right h3 (show 0 ≤ K' by omega)
    omega
  have htl := termsM_length a b out (i : Int)
  have htg := fun j hj => termsM_get (n := (i : Int)) (i := j) hm ⟨by omega, by omega⟩ hj
  simp only [hK] at htg htl
  have hd := dotX_ok hqx hqy (l := termsM a b out (i : Int)) (K := K) (fun j hj => by
    obtain ⟨q1, q2, g1, g2, g3⟩ := htg j hj
    exact ⟨q1, q2, g1, by omega, by omega⟩) (K - 1) (by omega)
  rw [show K - 1 + 1 = K by omega, List.take_of_length_le (by omega)] at hd
  exact ⟨hd.1, hd.2.mono (by omega)⟩
theorem ScB_Vx {v : Vx} {n : Nat} (h : v.B n) (hn : n < 1000000000) : ScB 1000000000 v.sc := by
  cases v with
  | q r =>
    have h1 := h.n
    have h2 := h.d
    exact ⟨by show (wordsOf r.num.natAbs).length < _; omega, by show (wordsOf r.den).length < _; omega⟩
  | d b => exact ⟨by show (0 : Nat) < _; decide, by show (0 : Nat) < _; decide⟩
theorem rAllX_ok (a : List Vx) {md : Int} {n : Nat} (hn : n < 1000000000) (ha : a.length < 1000000000) (h : AllX md n a) : Pure Tryz.prog 14 [sX a, sX a] [.t (.bool true)] := by
  have hq : ∀ s ∈ a.map Vx.sc, ScB 1000000000 s := fun s hs => by
    obtain ⟨v, hv, rfl⟩ := List.mem_map.1 hs
    exact ScB_Vx (h v hv).2 hn
  have c := rAllV_ok (a.map Vx.sc) (a.map Vx.sc) (by simpa using ha) (by simpa using ha) hq hq
  rw [decide_eq_true rfl, ← sX_S] at c
  exact c
theorem AllX.mono {md : Int} {a b : Nat} {l : List Vx} (h : AllX md a l) (hab : a ≤ b) : AllX md b l := fun v hv => ⟨(h v hv).1, (h v hv).2.mono hab⟩

set_option maxHeartbeats 4000000 in
theorem matmulDoes_yes (md : Int) (hmd : md = 0 ∨ md = 1) (a b : List Int) (xs ys : List Vx) (cr : Pure Tryz.prog 9 [.int .i64 md, sA [⟨a, xs.map Vx.sc⟩, ⟨b, ys.map Vx.sc⟩]] [.t (.bool true)])
    (ha : a.length < 1000000000) (hb : b.length < 1000000000) (hqx : AllX md 9 xs) (hqy : AllX md 9 ys) (hw : wholeB ⟨a, xs.map Vx.sc⟩ ⟨b, ys.map Vx.sc⟩ = true) :
    Pure Tryz.prog 3 [.int .i64 md, argX a xs, argX b ys] [.t (.bool true)] := by
  have hb0 : ∀ l, Lab.pool l = false → (fun _ => none : Heap) l = none := fun _ _ => rfl
  have cs := same28_ok
  have cw := whole_ok ⟨a, xs.map Vx.sc⟩ ⟨b, ys.map Vx.sc⟩ ha hb
  rw [hw, Ag_sc, Ag_sc] at cw
  unfold wholeB at hw
  simp only [Bool.and_eq_true, decide_eq_true_eq, List.length_map] at hw
  obtain ⟨w1, w2, w3⟩ := hw
  obtain ⟨out, hm⟩ : ∃ out, mdims a b = (out, 0) := ⟨_, Prod.ext rfl w1⟩
  have H := mdims_inv hm
  have n1 := bankNewG_ok (fun _ => none) 0 md hmd hb0 rfl
  have d1 := mdoX_ok (upd (fun _ => none) (.obj 0) (some (bankG md .nil 0 false))) 1 0 0 md a b out xs ys (upd_hb hb0) (upd_same _ _ _) (by decide) hm w2 w3 (hqx.mono (by decide)) (hqy.mono (by decide))
  rw [upd_upd] at d1
  have hcn : 0 ≤ cnt out ∧ cnt out ≤ 64 := by
    have := (chk0 H.co).2.2
    unfold cnt; rw [if_pos H.co]; omega
  obtain ⟨k1, hk1⟩ : ∃ k1, kM a out 0 (cnt out).toNat = k1 := ⟨_, rfl⟩
  rw [hk1] at d1
  have hbase : ∀ l, Lab.pool l = false → upd (fun _ => none : Heap) (.obj 0) (some (bankG md .nil k1 false)) l = none := upd_hb hb0
  have d2 := rdoX_ok (upd (upd (fun _ => none) (.obj 0) (some (bankG md .nil k1 false))) (.obj 1) (some (bankR md .nil 0 false))) 2 1 0 md a b out xs ys (upd_hb hbase) (upd_same _ _ _) (by decide) hm w2 w3 hqx hqy
  rw [upd_upd, hk1] at d2
  have hvx := doMX_AllX (N := (cnt out).toNat) hm w2 w3 hqx hqy (by omega)
  have hvl := doMX_length a b out xs ys (cnt out).toNat
  obtain ⟨v, hv⟩ : ∃ v, doMX a b out xs ys (cnt out).toNat = v := ⟨_, rfl⟩
  rw [hv] at d1 d2 hvx hvl
  have ca := rAllX_ok v (by decide) (by omega) hvx
  obtain ⟨h2, hh2⟩ : ∃ h2 : Heap, upd (upd (fun _ => none) (.obj 0) (some (bankG md .nil k1 false))) (.obj 1) (some (bankR md .nil k1 false)) = h2 := ⟨_, rfl⟩
  have hb2 : ∀ l, Lab.pool l = false → h2 l = none := by rw [← hh2]; exact upd_hb hbase
  have co := opsG_ok h2 2 0 k1 md .nil false hb2 (by rw [← hh2]; rfl)
  have ce := errG_ok h2 2 0 k1 md .nil false hb2 (by rw [← hh2]; rfl)
  rw [← hh2] at co ce
  simp only [sA, List.map_cons, List.map_nil, Ag_sc] at cr
  simp only [argX] at cr cw d1 d2
  refine Pure.drop (h' := upd (upd (fun _ => none) (.obj 0) (some (bankG md .nil k1 false))) (.obj 1) (some (bankR md .nil k1 false))) (m' := 2) ?_ rfl
  refine Ret.intro Tryz.func3 rfl (rt := [6]) rfl (by simp [Tryz.ntmps3]) (by decide) (sites := fun d => d == 9) (upd_hb hbase) (Keeps.none _) ?_
  unfold argX
  apply run_sound 200
  simp -implicitDefEqProofs +decide only [go_sem]
  refine CallG.pure _ Tryz.call9 cr (by simp only [List.all_cons, List.all_nil, noPtr, noPtrL, noPtr_sI, noPtr_sX, Bool.and_self]) (by first | rfl | (simp only [go_sem]; done) | (simp only [go_sem]; rfl)) ?_
  apply run_sound 200
  simp -implicitDefEqProofs +decide only [go_sem]
  refine CallG.pool _ Tryz.call11 n1 hb0 (by rintro (_ | _ | _ | _ | _) hp <;> first | (cases hp; done) | simp -implicitDefEqProofs +decide only [go_sem]) ?_
  apply run_sound 200
  simp -implicitDefEqProofs +decide only [go_sem]
  refine CallG.pool _ Tryz.call12 d1 (upd_hb hb0) (by rintro (_ | _ | _ | _ | _) hp <;> first | (cases hp; done) | simp -implicitDefEqProofs +decide only [go_sem]) ?_
  apply run_sound 200
  simp -implicitDefEqProofs +decide only [go_sem]
  refine CallG.pure _ Tryz.call13 cw (by simp only [List.all_cons, List.all_nil, noPtr, noPtrL, noPtr_sI, noPtr_sX, Bool.and_self]) (by first | rfl | (simp only [go_sem]; done) | (simp only [go_sem]; rfl)) ?_
  apply run_sound 200
  simp -implicitDefEqProofs +decide only [go_sem]
  have hb3 : ∀ l, Lab.pool l = false → upd (upd (fun _ => none : Heap) (.obj 0) (some (bankG md .nil k1 false))) (.obj 1) (some (bankR md .nil 0 false)) l = none := upd_hb hbase
  refine Goes.wk (show Wk _ _ ⟨ofL [(0, .t (.int .i64 md)), (4, .bp (.loc 4 0) 0), (5, .bp (.loc 5 0) 0), (7, .t (.ptr 0)), (8, .t (sX v)), (9, .bp (.obj 1) 0)],
      ofH (upd (upd (fun _ => none) (.obj 0) (some (bankG md .nil k1 false))) (.obj 1) (some (bankR md .nil 0 false))) [(.loc 4 0, .box [.t (sI a), .t (sX xs)]), (.loc 5 0, .box [.t (sI b), .t (sX ys)])], 2⟩ from Wk.boxes _ _ hb3 rfl rfl ?_ ?_ ?_ ?_) ?_
  · simp -implicitDefEqProofs +decide only [go_sem] <;> rfl
  · exact (by rintro (_ | _ | _ | _ | _) hp <;> first | (cases hp; done) | simp -implicitDefEqProofs +decide only [go_sem, bankR])
  · simp -implicitDefEqProofs +decide only [go_sem] <;> rfl
  · simp -implicitDefEqProofs +decide only [go_sem]
  refine Goes.drawP mixed (Calm.of (by repeat first | exact Clean.und | refine Clean.upd ?_ rfl | refine Clean.upd ?_ (by simp only [cleanA, cleanL, ])) (by repeat first | exact HCalm.none | exact HCalm.hb hb | exact HCalm.hb (bank_hb hb) | refine HCalm.row ?_ | refine HCalm.box ?_ (by first | rfl | (simp only [cleanA, cleanL, ]; done) | assumption))) ?_
  simp -implicitDefEqProofs +decide only [go_sem, ofH]
  refine CallD.make _ [(.obj 1, bankR md .nil k1 false)] 0 Tryz.call15 d2 rfl (upd_hb hbase) (by rintro (_ | _ | _ | _ | _) hp <;> first | (cases hp; done) | simp -implicitDefEqProofs +decide only [go_sem]) (fun l _ => (congrFun (upd_upd _ _ _ _) l).symm) rfl (.inr rfl) ?_
  simp -implicitDefEqProofs +decide only [go_sem, sX]
  simp only [sX] at ca
  refine CallD.pure _ Tryz.call14 ca (by simp only [List.all_cons, List.all_nil, noPtr_sXU, Bool.and_self]) (by first | rfl | (simp only [go_sem]; done) | (simp only [go_sem]; rfl)) ?_
  simp -implicitDefEqProofs +decide only [go_sem]
  refine CallD.look _ Tryz.call16 co rfl (upd_hb hbase) (by rintro (_ | _ | _ | _ | _) hp <;> first | (cases hp; done) | simp -implicitDefEqProofs +decide only [go_sem]) ?_
  simp -implicitDefEqProofs +decide only [go_sem, bankR]
  refine CallD.look _ Tryz.call17 ce rfl (upd_hb hbase) (by rintro (_ | _ | _ | _ | _) hp <;> first | (cases hp; done) | simp -implicitDefEqProofs +decide only [go_sem, bankR]) ?_
  simp -implicitDefEqProofs +decide only [go_sem]
  refine CallD.P _ Tryz.call10 cs ?_
  simp -implicitDefEqProofs +decide only [go_sem]
  refine ⟨.mk (by kernel_rfl), ?_⟩
  apply run_sound 200
  simp -implicitDefEqProofs +decide only [go_sem]
  exact endF.vals [(6, .bool true)] (.inr rfl) (vals_t (by first | rfl | (simp -implicitDefEqProofs +decide only [go_sem]; done) | (simp -implicitDefEqProofs +decide only [go_sem]; rfl)) rfl vals_nil) (by rintro (_ | _ | _ | _ | _) hp <;> first | (cases hp; done) | simp -implicitDefEqProofs +decide only [go_sem]) rfl

theorem matmulDoes_no (md : Int) (hmd : md = 0 ∨ md = 1) (x y : Ag) (cr : Pure Tryz.prog 9 [.int .i64 md, sA [x, y]] [.t (.bool true)])
    (hx : x.d.length < 1000000000) (hy : y.d.length < 1000000000) (hxv : x.v.length < 1000000000) (hyv : y.v.length < 1000000000) (hw : wholeB x y = false) :
    Pure Tryz.prog 3 [.int .i64 md, x.T, y.T] [.t (.bool true)] := by
  have hb0 : ∀ l, Lab.pool l = false → (fun _ => none : Heap) l = none := fun _ _ => rfl
  have cs := same28_ok
  have cw := whole_ok x y hx hy
  rw [hw] at cw
  have n1 := bankNewG_ok (fun _ => none) 0 md hmd hb0 rfl
  have d1 := mdoNo_ok (upd (fun _ => none) (.obj 0) (some (bankG md .nil 0 false))) 1 0 0 md x y (upd_hb hb0) (upd_same _ _ _) hx hy hxv hyv hw
  simp only [sA, List.map_cons, List.map_nil] at cr
  obtain ⟨xd, xv⟩ := x
  obtain ⟨yd, yv⟩ := y
  simp only [Ag.T] at cr cw d1
  refine Pure.drop (h' := upd (fun _ => none) (.obj 0) (some (bankG md .nil 0 false))) (m' := 1) ?_ rfl
  refine Ret.intro Tryz.func3 rfl (rt := [6]) rfl (by simp [Tryz.ntmps3]) (by decide) (sites := fun d => d == 9) (upd_hb hb0) (Keeps.none _) ?_
  apply run_sound 200
  simp -implicitDefEqProofs +decide only [go_sem, Ag.T]
  refine CallG.pure _ Tryz.call9 cr (by simp only [List.all_cons, List.all_nil, noPtr, noPtrL, noPtr_sI, noPtr_sS, Bool.and_self]) (by first | rfl | (simp only [go_sem]; done) | (simp only [go_sem]; rfl)) ?_
  apply run_sound 200
  simp -implicitDefEqProofs +decide only [go_sem]
  refine CallG.pool _ Tryz.call11 n1 hb0 (by rintro (_ | _ | _ | _ | _) hp <;> first | (cases hp; done) | simp -implicitDefEqProofs +decide only [go_sem]) ?_
  apply run_sound 200
  simp -implicitDefEqProofs +decide only [go_sem]
  refine CallG.pool _ Tryz.call12 d1 (upd_hb hb0) (by rintro (_ | _ | _ | _ | _) hp <;> first | (cases hp; done) | simp -implicitDefEqProofs +decide only [go_sem]) ?_
  apply run_sound 200
  simp -implicitDefEqProofs +decide only [go_sem]
  refine CallG.pure _ Tryz.call13 cw (by simp only [List.all_cons, List.all_nil, noPtr, noPtrL, noPtr_sI, noPtr_sS, Bool.and_self]) (by first | rfl | (simp only [go_sem]; done) | (simp only [go_sem]; rfl)) ?_
  apply run_sound 200
  simp -implicitDefEqProofs +decide only [go_sem]
  refine CallG.P _ Tryz.call10 (cs) ?_
  simp -implicitDefEqProofs +decide only [go_sem]
  exact endF.vals [(6, .bool true)] (.inr rfl) (vals_t (by first | rfl | (simp -implicitDefEqProofs +decide only [go_sem]; done) | (simp -implicitDefEqProofs +decide only [go_sem]; rfl)) rfl vals_nil) (by rintro (_ | _ | _ | _ | _) hp <;> first | (cases hp; done) | simp -implicitDefEqProofs +decide only [go_sem]) rfl
theorem matmulDoes_r (md : Int) (x y : Ag) (cr : Pure Tryz.prog 9 [.int .i64 md, sA [x, y]] [.t (.bool false)]) : Pure Tryz.prog 3 [.int .i64 md, x.T, y.T] [.t (.bool true)] := by
  have cs := same28_ok
  simp only [sA, List.map_cons, List.map_nil] at cr
  obtain ⟨xd, xv⟩ := x
  obtain ⟨yd, yv⟩ := y
  simp only [Ag.T] at cr
  refine Pure.intro Tryz.func3 rfl (rt := [6]) rfl (by simp [Tryz.ntmps3]) (by decide) (sites := fun _ => false) ?_
  apply run_sound 200
  simp -implicitDefEqProofs +decide only [go_sem, Ag.T]
  refine CallG.pure _ Tryz.call9 cr (by simp only [List.all_cons, List.all_nil, noPtr, noPtrL, noPtr_sI, noPtr_sS, Bool.and_self]) (by first | rfl | (simp only [go_sem]; done) | (simp only [go_sem]; rfl)) ?_
  apply run_sound 200
  simp -implicitDefEqProofs +decide only [go_sem]
  refine CallG.P _ Tryz.call10 (cs) ?_
  simp -implicitDefEqProofs +decide only [go_sem]
  exact endF.V [(6, .bool true)] (vals_t (by simp -implicitDefEqProofs +decide only [go_sem] <;> rfl) rfl vals_nil)
theorem matmulDoes_ok (md : Int) (x y : Ag) (hx : ∀ s ∈ x.v, ScW s ∧ s.b < 18446744073709551616) (hy : ∀ s ∈ y.v, ScW s ∧ s.b < 18446744073709551616) : Pure Tryz.prog 3 [.int .i64 md, x.T, y.T] [.t (.bool true)] := by
  by_cases hmd : md = 0 ∨ md = 1
  case neg => exact matmulDoes_r md x y (argsRightN_ok md hmd [x, y])
  have hw : ∀ a ∈ [x, y], ∀ s ∈ a.v, ScW s ∧ s.b < 18446744073709551616 := by
    intro a ha
    simp only [List.mem_cons, List.not_mem_nil, or_false] at ha
    rcases ha with rfl | rfl
    · exact hx
    · exact hy
  have cr := argsRightX_ok md hmd [x, y] (by simp) (fun hb a ha s hs => ⟨argsSOK (fun a ha s hs => (hw a ha s hs).1) hb a ha s hs, (hw a ha s hs).2⟩)
  obtain ⟨b, hb⟩ : ∃ b, (!argsB [x, y] && [x, y].all fun a => a.v.all (rightX md)) = b := ⟨_, rfl⟩
  rw [hb] at cr
  cases b with
  | false => exact matmulDoes_r md x y cr
  | true =>
    rw [Bool.and_eq_true] at hb
    obtain ⟨hb1, hb2⟩ := hb
    have hb1 : argsB [x, y] = false := by simpa using hb1
    obtain ⟨_, hsh⟩ := short_of hb1
    obtain ⟨x1, x2, x3⟩ := hsh x (by simp)
    obtain ⟨y1, y2, y3⟩ := hsh y (by simp)
    simp only [List.all_cons, List.all_nil, Bool.and_true, Bool.and_eq_true] at hb2
    cases hwb : wholeB x y with
    | false => exact matmulDoes_no md hmd x y cr (by omega) (by omega) (by omega) (by omega) hwb
    | true =>
      obtain ⟨xs, hxs, hxq⟩ := rightNumX hmd (fun s hs => (hx s hs).1) (fun s hs => (hx s hs).2) hb2.1 x3
      obtain ⟨ys, hys, hyq⟩ := rightNumX hmd (fun s hs => (hy s hs).1) (fun s hs => (hy s hs).2) hb2.2 y3
      obtain ⟨xd, xv⟩ := x
      obtain ⟨yd, yv⟩ := y
      dsimp only at hxs hys x1 y1
      subst hxs hys
      rw [Ag_sc, Ag_sc]
      exact matmulDoes_yes md hmd xd yd xs ys cr (by omega) (by omega) hxq hyq hwb
end Go.Fm
