/- An element of an operand of a product. -/
import Derived.Test.YteodjhhobkcnjaaGreatDzA
import Derived.Test.YteodjhhobkcnjaaGreatFzC
set_option linter.unusedVariables false
set_option linter.unusedSimpArgs false
namespace Go.Fm
open Go.Proofs
set_option maxRecDepth 100000
attribute [local irreducible] tiOf
def srcAt (d p:List Int) (first:Nat) (row col:Int):List Int:=(List.range (d.length-2)).map (fun i=>if 1<d.getD i 0 then p.getD (first+i) 0 else 0)++[row,col]
structure MD (a b out:List Int):Prop where
 ca:chk a=0
 cb:chk b=0
 co:chk out=0
 la:2≤a.length
 lb:2≤b.length
 ab:a[a.length-1]?=b[b.length-2]?
 eo:out=spr (a.take (a.length-2)) (b.take (b.length-2))++[a.getD (a.length-2) 0,b.getD (b.length-1) 0]
 nc:¬clash (a.take (a.length-2)) (b.take (b.length-2))
namespace MD
variable {a b out:List Int}
end MD
def pairK (a b out p:List Int) (row col k:Int):Int×Int:=(placeI a (srcAt a p (out.length-a.length) row k),placeI b (srcAt b p (out.length-b.length) k col))
def pairsL (a b out p:List Int) (row col:Int) (n:Nat):List (Int×Int):=(List.range n).map fun(k:Nat)=>pairK a b out p row col (k:Int)
def termsM (a b out:List Int) (n:Int):List (Int×Int):=
 pairsL a b out (digL out n) ((digL out n).getD (out.length-2) 0) ((digL out n).getD (out.length-1) 0) (a.getD (a.length-1) 0).toNat
attribute [go_sem] List.range_zero Nat.zero_mul Nat.one_mul Nat.mul_one List.set_cons_zero List.set_cons_succ
theorem QB_mul {r s:Rat} {a b:Nat} (hr:QB r a) (hs:QB s b):QB (r*s) (a+b):=by
 have h:=mul_low r s
 have h1:=congrArg Rt.p h
 have h2:=congrArg Rt.q h
 have p1:=hr.n
 have p2:=hr.d
 have p3:=hs.n
 have p4:=hs.d
 constructor
 ·show(wordsOf (r*s).num.natAbs).length≤a+b
  have:(qR (r*s)).p=wordsOf (r*s).num.natAbs:=rfl
  rw[←this,←h1]
  unfold lowQ
  refine Nat.le_trans (len_mono (Nat.div_le_self _ _)) (Nat.le_trans (len_prod _ _) ?_)
  have l1:=len_mono (Nat.div_le_self r.num.natAbs (Nat.gcd r.num.natAbs s.den))
  have l2:=len_mono (Nat.div_le_self s.num.natAbs (Nat.gcd s.num.natAbs r.den))
  omega
 ·have:(qR (r*s)).q=wordsOf (r*s).den:=rfl
  show(wordsOf (r*s).den).length≤a+b
  rw[←this,←h2]
  unfold lowQ
  refine Nat.le_trans (len_mono (Nat.div_le_self _ _)) (Nat.le_trans (len_prod _ _) ?_)
  have l1:=len_mono (Nat.div_le_self r.den (Nat.gcd s.num.natAbs r.den))
  have l2:=len_mono (Nat.div_le_self s.den (Nat.gcd r.num.natAbs s.den))
  omega
theorem QB_add {r s:Rat} {a b:Nat} (hr:QB r a) (hs:QB s b):QB (r+s) (a+b+1):=by
 have h:=add_low r s
 have h1:=congrArg Rt.p h
 have h2:=congrArg Rt.q h
 have p1:=hr.n
 have p2:=hr.d
 have p3:=hs.n
 have p4:=hs.d
 constructor
 ·show(wordsOf (r+s).num.natAbs).length≤a+b+1
  have:(qR (r+s)).p=wordsOf (r+s).num.natAbs:=rfl
  rw[←this,←h1]
  unfold lowQ
  refine Nat.le_trans (len_mono (Nat.div_le_self _ _)) (Nat.le_trans (len_mono (sumQ_le _ _ _ _)) (Nat.le_trans (len_sum _ _) ?_))
  have l1:=len_prod r.num.natAbs s.den
  have l2:=len_prod s.num.natAbs r.den
  omega
 ·have:(qR (r+s)).q=wordsOf (r+s).den:=rfl
  show(wordsOf (r+s).den).length≤a+b+1
  rw[←this,←h2]
  unfold lowQ
  refine Nat.le_trans (len_mono (Nat.div_le_self _ _)) (Nat.le_trans (len_prod _ _) ?_)
  omega
theorem QB.mono {r:Rat} {a b:Nat} (h:QB r a) (hab:a≤b):QB r b:=⟨Nat.le_trans h.n hab,Nat.le_trans h.d hab⟩
def dotT (xs ys:List Rat) (p:Int×Int):Rat:=xs.getD p.1.toNat 0*ys.getD p.2.toNat 0
def dotR (xs ys:List Rat) (l:List (Int×Int)):Rat:=l.foldl (fun s p=>s+dotT xs ys p) 0
def sV (l:List Rat):T:=.slice (l.map vT)
noncomputable def doM (a b out:List Int) (xs ys:List Rat) (n:Nat):List Rat:=(List.range n).map fun(i:Nat)=>dotR xs ys (termsM a b out (i:Int))
theorem HCalm.box {h:Heap} {l:Lab} {cs:List AV} (hh:HCalm h) (hc:cleanL cs=true):HCalm (upd h l (some (.box cs))):=fun l' o ho=>by
 by_cases e:l'=l
 ·subst e;rw[upd_same]at ho;cases ho;exact .inr hc
 ·rw[upd_ne _ _ _ _ e]at ho;exact hh l' o ho
theorem toNat_lit1:Int.toNat 1=1:=rfl
theorem ite_dup {α:Type} {c:Prop} [Decidable c] (x y z:α):(if c then x else if c then y else z)=if c then x else z:=by split<;>rfl
theorem wrap01:IntKind.wrap .i64 (0+1)=1:=by decide
attribute [go_sem] toNat_lit1 ite_dup wrap01
end Go.Fm
namespace Go.Fm
open Go.Proofs
set_option maxRecDepth 100000
theorem sizeD_spr {a b:List Int} {k:Nat} (h1:1≤k) (h2:k≤rankD a b):sizeD (spr a b) k=mx (sizeD a k) (sizeD b k):=by
 unfold sizeD
 rw[spr_length,if_neg (by omega),List.getD_eq_getElem?_getD,spr_get (by omega),show rankD a b-(rankD a b-k)=k by omega]
 rfl
structure FitD (f t:List Int):Prop where
 cf:chk f=0
 ct:chk t=0
 l:f.length≤t.length
 e:∀(i:Nat) (x:Int),f[i]?=some x→x≠1→t[t.length-f.length+i]?=some x
theorem twoS_fit {f t:List Int} (h:twoS f t=(t,0)):FitD f t:=by
 by_cases cf:chk f=0
 case neg=>unfold twoS at h;rw[if_pos cf]at h;exact absurd (Prod.mk.inj h).2 cf
 by_cases ct:chk t=0
 case neg=>unfold twoS at h;rw[if_neg (fun h=>h cf),if_pos ct]at h;exact absurd (Prod.mk.inj h).2 ct
 rw[twoS_eq cf ct]at h
 split at h
 ·exact absurd (Prod.mk.inj h).2 (by decide)
 rename_i h1
 split at h
 ·rename_i h2;exact absurd (Prod.mk.inj h).2 h2
 have e:=(Prod.mk.inj h).1
 have hl:=congrArg List.length e
 rw[spr_length]at hl
 have hl2:f.length≤t.length:=by unfold rankD at hl;omega
 refine⟨cf,ct,hl2,fun i x hx h1x=> ?_⟩
 have hi:=(List.getElem?_eq_some_iff.1 hx).1
 obtain⟨y,hy⟩:=getI (show t.length-f.length+i<t.length by omega)
 have hk:sizeD (spr f t) (f.length-i)=sizeD t (f.length-i):=by rw[e]
 rw[sizeD_spr (by omega) (by omega)]at hk
 have hf:sizeD f (f.length-i)=x:=by unfold sizeD;rw[if_neg (by omega),show f.length-(f.length-i)=i by omega,getD_of hx]
 have ht:sizeD t (f.length-i)=y:=by unfold sizeD;rw[if_neg (by omega),show t.length-(f.length-i)=t.length-f.length+i by omega,getD_of hy]
 rw[hf,ht]at hk
 rw[hy]
 have hx1:=(chk0 cf).2.1 x (List.mem_of_getElem? hx)
 by_cases hxy:x=y
 ·rw[hxy]
 ·exfalso
  refine h1 ⟨f.length-i,by omega,by omega,by rw[hf,ht];exact hxy,by rw[hf];exact h1x,?_⟩
  rw[ht]
  intro h
  rw[h]at hk
  unfold mx at hk
  split at hk<;>omega
def srcS (f t:List Int) (n:Int):List Int:=(List.range f.length).map fun k=>if f.getD k 0=1 then 0 else (digL t n).getD (t.length-f.length+k) 0
theorem srcS_length (f t:List Int) (n:Int):(srcS f t n).length=f.length:=by simp[srcS]
theorem srcS_get {f t:List Int} {n:Int} {k:Nat} {x y:Int} (hx:f[k]?=some x) (hy:(digL t n)[t.length-f.length+k]?=some y):(srcS f t n)[k]?=some (if x=1 then 0 else y):=by
 obtain⟨hk,he⟩:=List.getElem?_eq_some_iff.1 hx
 simp[srcS,hk,he,hy]
theorem srcS_in {f t:List Int} {n:Int} (h:FitD f t):InD f (srcS f t n):=by
 refine⟨h.cf,srcS_length f t n,fun i x m hx hm=> ?_⟩
 have hi:=(List.getElem?_eq_some_iff.1 hm).1
 have hl:=h.l
 obtain⟨y,hy⟩:=getI (show t.length-f.length+i<(digL t n).length by rw[digL_length];omega)
 rw[srcS_get hm hy]at hx
 cases hx
 have h1:=(chk0 h.cf).2.1 m (List.mem_of_getElem? hm)
 split
 ·omega
 ·rename_i hm1
  exact(digit_in (n:=n) h.ct).b _ _ _ hy (h.e i m hm hm1)
def srcN (f t:List Int) (n:Int):Int:=placeI f (srcS f t n)
end Go.Fm
