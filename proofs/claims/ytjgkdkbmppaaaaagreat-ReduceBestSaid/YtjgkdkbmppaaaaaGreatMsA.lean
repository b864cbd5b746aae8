/- An element of an operand of a product. -/
import Derived.Test.YtjgkdkbmppaaaaaGreatDsA
import Derived.Test.YtjgkdkbmppaaaaaGreatFsC
set_option linter.unusedVariables false
set_option linter.unusedSimpArgs false
namespace Go.Fm
open Go.Proofs
set_option maxRecDepth 100000
attribute [local irreducible] tiOf

/-- The place in an operand. -/
def srcAt (d p : List Int) (first : Nat) (row col : Int) : List Int := (List.range (d.length - 2)).map (fun i => if 1 < d.getD i 0 then p.getD (first + i) 0 else 0) ++ [row, col]
def frontG (L : List Int) (k : Nat) : List Int := L.take k ++ List.replicate (L.length - k) 0
end Go.Fm
/- The elements that are multiplied. -/
namespace Go.Fm
open Go.Proofs
set_option maxRecDepth 100000
attribute [local irreducible] tiOf

/-- Dims of which there is a product, and its dims. -/
structure MD (a b out : List Int) : Prop where
  ca : chk a = 0
  cb : chk b = 0
  co : chk out = 0
  la : 2 ≤ a.length
  lb : 2 ≤ b.length
  ab : a[a.length - 1]? = b[b.length - 2]?
  eo : out = spr (a.take (a.length - 2)) (b.take (b.length - 2)) ++ [a.getD (a.length - 2) 0, b.getD (b.length - 1) 0]
  nc : ¬ clash (a.take (a.length - 2)) (b.take (b.length - 2))
namespace MD
variable {a b out : List Int}
theorem rk (h : MD a b out) : rankD (a.take (a.length - 2)) (b.take (b.length - 2)) = max a.length b.length - 2 := by
  have := h.la; have := h.lb
  unfold rankD; rw [List.length_take, List.length_take]; omega
theorem lo (h : MD a b out) : out.length = max a.length b.length := by
  have h1 := h.la; have h2 := h.lb
  rw [h.eo, List.length_append, spr_length, h.rk]
  simp; omega
theorem row (h : MD a b out) : out[out.length - 2]? = a[a.length - 2]? := by
  have h1 := h.la; have h2 := h.lb; have h3 := h.lo
  obtain ⟨x, hx⟩ := getI (show a.length - 2 < a.length by omega)
  rw [hx, h3]
  conv => lhs; rw [h.eo]
  rw [List.getElem?_append_right (by rw [spr_length, h.rk]; exact Nat.le_refl _), spr_length, h.rk, Nat.sub_self, getD_of hx]; rfl
theorem col (h : MD a b out) : out[out.length - 1]? = b[b.length - 1]? := by
  have h1 := h.la; have h2 := h.lb; have h3 := h.lo
  obtain ⟨x, hx⟩ := getI (show b.length - 1 < b.length by omega)
  rw [hx, h3]
  conv => lhs; rw [h.eo]
  rw [List.getElem?_append_right (by rw [spr_length, h.rk]; omega), spr_length, h.rk, show max a.length b.length - 1 - (max a.length b.length - 2) = 1 by omega, getD_of hx]; rfl
end MD

/-- The pairs of elements that are multiplied. -/
def pairK (a b out p : List Int) (row col k : Int) : Int × Int := (placeI a (srcAt a p (out.length - a.length) row k), placeI b (srcAt b p (out.length - b.length) k col))
def pairsL (a b out p : List Int) (row col : Int) (n : Nat) : List (Int × Int) := (List.range n).map fun (k : Nat) => pairK a b out p row col (k : Int)
def termsM (a b out : List Int) (n : Int) : List (Int × Int) :=
  pairsL a b out (digL out n) ((digL out n).getD (out.length - 2) 0) ((digL out n).getD (out.length - 1) 0) (a.getD (a.length - 1) 0).toNat
def tP (p : Int × Int) : T := .agg [.int .i64 p.1, .int .i64 p.2]
end Go.Fm
/- The elements that are multiplied, by the program. -/
namespace Go.Fm
open Go.Proofs
set_option maxRecDepth 100000
attribute [local irreducible] tiOf

attribute [go_sem] List.range_zero Nat.zero_mul Nat.one_mul Nat.mul_one List.set_cons_zero List.set_cons_succ
end Go.Fm
/- Exact numbers: how long sums and products are; sums of products. -/
namespace Go.Fm
open Go.Proofs
set_option maxRecDepth 100000
attribute [local irreducible] tiOf

theorem QB_add {r s : Rat} {a b : Nat} (hr : QB r a) (hs : QB s b) : QB (r + s) (a + b + 1) := by
  have h := add_low r s
  have h1 := congrArg Rt.p h
  have h2 := congrArg Rt.q h
  have p1 := hr.n
  have p2 := hr.d
  have p3 := hs.n
  have p4 := hs.d
  constructor
  · show (wordsOf (r + s).num.natAbs).length ≤ a + b + 1
    have : (qR (r + s)).p = wordsOf (r + s).num.natAbs := rfl
    rw [← this, ← h1]
    unfold lowQ
    refine Nat.le_trans (len_mono (Nat.div_le_self _ _)) (Nat.le_trans (len_mono (sumQ_le _ _ _ _)) (Nat.le_trans (len_sum _ _) ?_))
    have l1 := len_prod r.num.natAbs s.den
    have l2 := len_prod s.num.natAbs r.den
    omega
  · have : (qR (r + s)).q = wordsOf (r + s).den := rfl
    show (wordsOf (r + s).den).length ≤ a + b + 1
    rw [← this, ← h2]
    unfold lowQ
    refine Nat.le_trans (len_mono (Nat.div_le_self _ _)) (Nat.le_trans (len_prod _ _) ?_)
    omega
theorem QB.mono {r : Rat} {a b : Nat} (h : QB r a) (hab : a ≤ b) : QB r b := ⟨Nat.le_trans h.n hab, Nat.le_trans h.d hab⟩

/-- The sum of the products of some elements. -/
def dotT (xs ys : List Rat) (p : Int × Int) : Rat := xs.getD p.1.toNat 0 * ys.getD p.2.toNat 0
def dotR (xs ys : List Rat) (l : List (Int × Int)) : Rat := l.foldl (fun s p => s + dotT xs ys p) 0
/-- A row of scalars; an operand. -/
def sV (l : List Rat) : T := .slice (l.map vT)
def argT (d : List Int) (l : List Rat) : T := .agg [sI d, sV l]
/-- The cells of the sum so far: none, before the first product. -/
def sC (k : Nat) (r : Rat) : List AV := if k = 0 then [.t (.bool false), .nil, .nil, .t (.int .u64 0), .t (.int .i64 0)] else [.t (.bool (neg1 r)), .t (sW (wordsOf r.num.natAbs)), .t (sW (wordsOf r.den)), .t (.int .u64 0), .t (.int .i64 0)]
/-- A product's elements. -/
noncomputable def doM (a b out : List Int) (xs ys : List Rat) (n : Nat) : List Rat := (List.range n).map fun (i : Nat) => dotR xs ys (termsM a b out (i : Int))
end Go.Fm
/- A product, by the program, on exact numbers. -/
namespace Go.Fm
open Go.Proofs
set_option maxRecDepth 100000
attribute [local irreducible] tiOf

def kM (a out : List Int) (k n : Nat) : Nat := k + n * (2 * (a.getD (a.length - 1) 0).toNat - 1)
theorem HCalm.box {h : Heap} {l : Lab} {cs : List AV} (hh : HCalm h) (hc : cleanL cs = true) : HCalm (upd h l (some (.box cs))) := fun l' o ho => by
  by_cases e : l' = l
  · subst e; rw [upd_same] at ho; cases ho; exact .inr hc
  · rw [upd_ne _ _ _ _ e] at ho; exact hh l' o ho
theorem toNat_lit1 : Int.toNat 1 = 1 := rfl
theorem ite_dup {α : Type} {c : Prop} [Decidable c] (x y z : α) : (if c then x else if c then y else z) = if c then x else z := by split <;> rfl
attribute [go_sem] toNat_lit1 ite_dup
end Go.Fm
/- Products of matrices as sums: turned, and of a sum. -/
namespace Go.Fm
open Go.Proofs
set_option maxRecDepth 100000

/-- Sums, one by one. -/
def addL (ys zs : List Rat) : List Rat := List.zipWith (· + ·) ys zs
/-- A matrix turned. -/
def turnR (n m : Nat) (xs : List Rat) : List Rat := (List.range (m * n)).map fun t => xs.getD (t % n * m + t / n) 0
end Go.Fm
/- All places, in order. -/
namespace Go.Fm
open Go.Proofs
set_option maxRecDepth 100000

/-- All places: n of them. -/
def allD (d : List Int) (n : Nat) : List (List Int) := (List.range n).map fun (k : Nat) => digL d (k : Int)
end Go.Fm
/- All places, by the reference. -/
namespace Go.Fm
open Go.Proofs
set_option maxRecDepth 100000
attribute [local irreducible] tiOf

def sL (l : List (List Int)) : T := .slice (l.map sI)

def nP (d : List Int) (i : Nat) : Nat := (prodL (d.take i)).toNat
end Go.Fm
/- What is spread, in numbers. -/
namespace Go.Fm
open Go.Proofs
set_option maxRecDepth 100000

/-- Dims that can be spread to others. -/
structure FitD (f t : List Int) : Prop where
  cf : chk f = 0
  ct : chk t = 0
  l : f.length ≤ t.length
  e : ∀ (i : Nat) (x : Int), f[i]? = some x → x ≠ 1 → t[t.length - f.length + i]? = some x
/-- The place that is spread to the n-th one. -/
def srcS (f t : List Int) (n : Int) : List Int := (List.range f.length).map fun k => if f.getD k 0 = 1 then 0 else (digL t n).getD (t.length - f.length + k) 0
def srcN (f t : List Int) (n : Int) : Int := placeI f (srcS f t n)
def sourcesD (f t : List Int) (n : Nat) : List Int := (List.range n).map fun (k : Nat) => srcN f t (k : Int)
end Go.Fm
