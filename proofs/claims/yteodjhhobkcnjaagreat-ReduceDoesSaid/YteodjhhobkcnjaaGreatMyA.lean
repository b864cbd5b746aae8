/- An element of an operand of a product. -/
import Derived.Test.YteodjhhobkcnjaaGreatDyA
import Derived.Test.YteodjhhobkcnjaaGreatFyC
set_option linter.unusedVariables false
set_option linter.unusedSimpArgs false
namespace Go.Fm
open Go.Proofs
set_option maxRecDepth 100000
attribute [local irreducible] tiOf

def srcAt (d p:List Int) (first:Nat) (row col:Int):List Int:=(List.range (d.length-2)).map (fun i=>if 1<d.getD i 0 then p.getD (first+i) 0 else 0)++[row,col]
def frontG (L:List Int) (k:Nat):List Int:=L.take k++List.replicate (L.length-k) 0
end Go.Fm
/- The elements that are multiplied. -/
namespace Go.Fm
open Go.Proofs
set_option maxRecDepth 100000
attribute [local irreducible] tiOf

structure MD (a b out:List Int):Prop where
 ca:chk a=0
 cb:chk b=0
 co:chk out=0
 la:2≤a.length
 lb:2≤b.length
 ab:a[a.length-1]?=b[b.length-2]?
 eo:out=spr (a.take (a.length-2)) (b.take (b.length-2))++[a.getD (a.length-2) 0,b.getD (b.length-1) 0]
 nc:¬clash (a.take (a.length-2)) (b.take (b.length-2))
namespace MD
variable {a b out:List Int}
theorem rk (h:MD a b out):rankD (a.take (a.length-2)) (b.take (b.length-2))=max a.length b.length-2:=by
 have:=h.la;have:=h.lb
 unfold rankD;rw[List.length_take,List.length_take];omega
theorem lo (h:MD a b out):out.length=max a.length b.length:=by
 have h1:=h.la;have h2:=h.lb
 rw[h.eo,List.length_append,spr_length,h.rk]
 simp;omega
theorem row (h:MD a b out):out[out.length-2]?=a[a.length-2]?:=by
 have h1:=h.la;have h2:=h.lb;have h3:=h.lo
 obtain⟨x,hx⟩:=getI (show a.length-2<a.length by omega)
 rw[hx,h3]
 conv=>lhs;rw[h.eo]
 rw[List.getElem?_append_right (by rw[spr_length,h.rk];exact Nat.le_refl _),spr_length,h.rk,Nat.sub_self,getD_of hx];rfl
theorem col (h:MD a b out):out[out.length-1]?=b[b.length-1]?:=by
 have h1:=h.la;have h2:=h.lb;have h3:=h.lo
 obtain⟨x,hx⟩:=getI (show b.length-1<b.length by omega)
 rw[hx,h3]
 conv=>lhs;rw[h.eo]
 rw[List.getElem?_append_right (by rw[spr_length,h.rk];omega),spr_length,h.rk,show max a.length b.length-1-(max a.length b.length-2)=1 by omega,getD_of hx];rfl
end MD

def pairK (a b out p:List Int) (row col k:Int):Int×Int:=(placeI a (srcAt a p (out.length-a.length) row k),placeI b (srcAt b p (out.length-b.length) k col))
def pairsL (a b out p:List Int) (row col:Int) (n:Nat):List (Int×Int):=(List.range n).map fun(k:Nat)=>pairK a b out p row col (k:Int)
def termsM (a b out:List Int) (n:Int):List (Int×Int):=
 pairsL a b out (digL out n) ((digL out n).getD (out.length-2) 0) ((digL out n).getD (out.length-1) 0) (a.getD (a.length-1) 0).toNat
def tP (p:Int×Int):T:=.agg [.int .i64 p.1,.int .i64 p.2]
end Go.Fm
/- The elements that are multiplied, by the program. -/
namespace Go.Fm
open Go.Proofs
set_option maxRecDepth 100000
attribute [local irreducible] tiOf

attribute [go_sem] List.range_zero Nat.zero_mul Nat.one_mul Nat.mul_one List.set_cons_zero List.set_cons_succ
end Go.Fm
/- Exact numbers: how long sums and products are; sums of products. -/
namespace Go.Fm
open Go.Proofs
set_option maxRecDepth 100000
attribute [local irreducible] tiOf

theorem QB_mul {r s:Rat} {a b:Nat} (hr:QB r a) (hs:QB s b):QB (r*s) (a+b):=by
 have h:=mul_low r s
 have h1:=congrArg Rt.p h
 have h2:=congrArg Rt.q h
 have p1:=hr.n
 have p2:=hr.d
 have p3:=hs.n
 have p4:=hs.d
 constructor
 ·show(wordsOf (r*s).num.natAbs).length≤a+b
  have:(qR (r*s)).p=wordsOf (r*s).num.natAbs:=rfl
  rw[←this,←h1]
  unfold lowQ
  refine Nat.le_trans (len_mono (Nat.div_le_self _ _)) (Nat.le_trans (len_prod _ _) ?_)
  have l1:=len_mono (Nat.div_le_self r.num.natAbs (Nat.gcd r.num.natAbs s.den))
  have l2:=len_mono (Nat.div_le_self s.num.natAbs (Nat.gcd s.num.natAbs r.den))
  omega
 ·have:(qR (r*s)).q=wordsOf (r*s).den:=rfl
  show(wordsOf (r*s).den).length≤a+b
  rw[←this,←h2]
  unfold lowQ
  refine Nat.le_trans (len_mono (Nat.div_le_self _ _)) (Nat.le_trans (len_prod _ _) ?_)
  have l1:=len_mono (Nat.div_le_self r.den (Nat.gcd s.num.natAbs r.den))
  have l2:=len_mono (Nat.div_le_self s.den (Nat.gcd r.num.natAbs s.den))
  omega
theorem QB_add {r s:Rat} {a b:Nat} (hr:QB r a) (hs:QB s b):QB (r+s) (a+b+1):=by
 have h:=add_low r s
 have h1:=congrArg Rt.p h
 have h2:=congrArg Rt.q h
 have p1:=hr.n
 have p2:=hr.d
 have p3:=hs.n
 have p4:=hs.d
 constructor
 ·show(wordsOf (r+s).num.natAbs).length≤a+b+1
  have:(qR (r+s)).p=wordsOf (r+s).num.natAbs:=rfl
  rw[←this,←h1]
  unfold lowQ
  refine Nat.le_trans (len_mono (Nat.div_le_self _ _)) (Nat.le_trans (len_mono (sumQ_le _ _ _ _)) (Nat.le_trans (len_sum _ _) ?_))
  have l1:=len_prod r.num.natAbs s.den
  have l2:=len_prod s.num.natAbs r.den
  omega
 ·have:(qR (r+s)).q=wordsOf (r+s).den:=rfl
  show(wordsOf (r+s).den).length≤a+b+1
  rw[←this,←h2]
  unfold lowQ
  refine Nat.le_trans (len_mono (Nat.div_le_self _ _)) (Nat.le_trans (len_prod _ _) ?_)
  omega
theorem QB.mono {r:Rat} {a b:Nat} (h:QB r a) (hab:a≤b):QB r b:=⟨Nat.le_trans h.n hab,Nat.le_trans h.d hab⟩

def dotT (xs ys:List Rat) (p:Int×Int):Rat:=xs.getD p.1.toNat 0*ys.getD p.2.toNat 0
def dotR (xs ys:List Rat) (l:List (Int×Int)):Rat:=l.foldl (fun s p=>s+dotT xs ys p) 0
def sV (l:List Rat):T:=.slice (l.map vT)
def argT (d:List Int) (l:List Rat):T:=.agg [sI d,sV l]
def sC (k:Nat) (r:Rat):List AV:=if k=0 then [.t (.bool false),.nil,.nil,.t (.int .u64 0),.t (.int .i64 0)] else [.t (.bool (neg1 r)),.t (sW (wordsOf r.num.natAbs)),.t (sW (wordsOf r.den)),.t (.int .u64 0),.t (.int .i64 0)]
noncomputable def doM (a b out:List Int) (xs ys:List Rat) (n:Nat):List Rat:=(List.range n).map fun(i:Nat)=>dotR xs ys (termsM a b out (i:Int))
end Go.Fm
/- A product, by the program, on exact numbers. -/
namespace Go.Fm
open Go.Proofs
set_option maxRecDepth 100000
attribute [local irreducible] tiOf

def kM (a out:List Int) (k n:Nat):Nat:=k+n*(2*(a.getD (a.length-1) 0).toNat-1)
theorem HCalm.box {h:Heap} {l:Lab} {cs:List AV} (hh:HCalm h) (hc:cleanL cs=true):HCalm (upd h l (some (.box cs))):=fun l' o ho=>by
 by_cases e:l'=l
 ·subst e;rw[upd_same]at ho;cases ho;exact .inr hc
 ·rw[upd_ne _ _ _ _ e]at ho;exact hh l' o ho
theorem toNat_lit1:Int.toNat 1=1:=rfl
theorem ite_dup {α:Type} {c:Prop} [Decidable c] (x y z:α):(if c then x else if c then y else z)=if c then x else z:=by split<;>rfl
attribute [go_sem] toNat_lit1 ite_dup
end Go.Fm
/- Products of matrices as sums: turned, and of a sum. -/
namespace Go.Fm
open Go.Proofs
set_option maxRecDepth 100000

def addL (ys zs:List Rat):List Rat:=List.zipWith (· + ·) ys zs
def turnR (n m:Nat) (xs:List Rat):List Rat:=(List.range (m*n)).map fun t=>xs.getD (t%n*m+t/n) 0
end Go.Fm
/- All places, in order. -/
namespace Go.Fm
open Go.Proofs
set_option maxRecDepth 100000

theorem prodL_nil:prodL []=1:=rfl
theorem prodL_one (x:Int):prodL [x]=x:=by simp[prodL]
theorem digL_snoc {d:List Int} {m k x:Int} (hx0:0≤x) (hx:x<m) (hk0:0≤k) (hk:k<prodL d) (hd:∀y∈d,1≤y):digL (d++[m]) (k*m+x)=digL d k++[x]:=by
 have hm:0<m:=by omega
 have h1:(k*m+x)/m=k:=by
  rw[Int.mul_comm,Int.mul_add_ediv_left _ _ (by omega),Int.ediv_eq_zero_of_lt hx0 hx,Int.add_zero]
 have h2:(k*m+x)%m=x:=by
  rw[Int.mul_comm,Int.mul_add_emod_self_left,Int.emod_eq_of_lt hx0 hx]
 unfold digL
 rw[List.length_append,List.length_singleton,List.range_succ,List.map_append]
 congr 1
 ·refine List.map_congr_left fun i hi=> ?_
  have hi:=List.mem_range.1 hi
  unfold digit
  have e1:(d++[m]).drop (i+1)=d.drop (i+1)++[m]:=List.drop_append_of_le_length (by omega)
  have e2:(d++[m]).getD i 0=d.getD i 0:=by
   rw[List.getD_eq_getElem?_getD,List.getElem?_append_left hi,List.getD_eq_getElem?_getD]
  rw[e1,e2,prodL_append,prodL_one,Int.mul_comm (prodL _) m,←Int.ediv_ediv_of_nonneg (by omega),h1]
 ·unfold digit
  have e1:(d++[m]).drop (d.length+1)=[]:=List.drop_of_length_le (by simp)
  have e2:(d++[m]).getD d.length 0=m:=by
   rw[List.getD_eq_getElem?_getD,List.getElem?_append_right (Nat.le_refl _),Nat.sub_self];rfl
  show [(k*m+x)/prodL ((d++[m]).drop (d.length+1))%(d++[m]).getD d.length 0]=[x]
  rw[e1,e2,prodL_nil,Int.ediv_one,h2]
def allD (d:List Int) (n:Nat):List (List Int):=(List.range n).map fun(k:Nat)=>digL d (k:Int)
theorem allD_length (d:List Int) (n:Nat):(allD d n).length=n:=by simp[allD]
theorem allD_get {d:List Int} {n k:Nat} (h:k<n):(allD d n)[k]?=some (digL d (k:Int)):=by simp[allD,h]
theorem allD_snoc (d:List Int) (n:Nat):allD d n++[digL d (n:Int)]=allD d (n+1):=by simp[allD,List.range_succ]
theorem digL_take {d:List Int} {i:Nat} {m:Int} (h:d[i]?=some m) {k x:Int} (hx0:0≤x) (hx:x<m) (hk0:0≤k) (hk:k<prodL (d.take i)) (hd:∀y∈d,1≤y):
  digL (d.take i) k++[x]=digL (d.take (i+1)) (k*m+x):=by
 rw[List.take_add_one,h,Option.toList_some,digL_snoc hx0 hx hk0 hk fun y hy=>hd y (List.mem_of_mem_take hy)]
end Go.Fm
/- All places, by the reference. -/
namespace Go.Fm
open Go.Proofs
set_option maxRecDepth 100000
attribute [local irreducible] tiOf

def sL (l:List (List Int)):T:=.slice (l.map sI)

def nP (d:List Int) (i:Nat):Nat:=(prodL (d.take i)).toNat
theorem nP_le {d:List Int} (h:chk d=0) (i:Nat):1≤nP d i∧nP d i≤64:=by
 obtain⟨_,h1,_,h3⟩:=chk0 h
 have h2:=prodL_pos (d:=d.take i) fun y hy=>h1 y (List.mem_of_mem_take hy)
 have h4:=prodL_le h1 i
 unfold nP;omega
theorem nP_succ {d:List Int} {i:Nat} {m:Int} (h:chk d=0) (hm:d[i]?=some m):nP d (i+1)=nP d i*m.toNat:=by
 obtain⟨_,h1,_,_⟩:=chk0 h
 have h2:=prodL_pos (d:=d.take i) fun y hy=>h1 y (List.mem_of_mem_take hy)
 have h3:=h1 m (List.mem_of_getElem? hm)
 unfold nP
 rw[prodL_snoc hm,Int.toNat_mul (by omega) (by omega)]

theorem rAll_ok (d:List Int) (hc:chk d=0):Pure Tryz.prog 82 [sI d] [.t (sL (allD d (prodL d).toNat))]:=by
 obtain⟨l6,hd1,_,_⟩:=chk0 hc
 have c1:=rCheck_ok d (by omega)
 rw[hc]at c1
 refine Pure.I Tryz.func82 [2] ?_
 refine SmJ ?_
 refine CallG.P _ Tryz.call78 (c1) ?_
 refine Sm ?_
 refine Goes.wk (Wk.freeze 3 (t:=sL (allD (d.take 0) (nP d 0))) (ws:=[(.loc 12 0,.arr 1 [T.slice []] 0 1)]) (acc:=[.loc 12 0]) (by simp-implicitDefEqProofs+decide only[go_sem];rfl)) ?_
 refine Goes.loop (X:=Nat) (fun i=>⟨ofL [(0,tI d),(3,.t (sL (allD (d.take i) (nP d i)))),(14,.t (.int .i64 d.length)),(15,.t (.int .i64 i))],fun _=>none,0⟩) (fun i=>i≤d.length) (fun i=>d.length-i) 0 ?_ (by omega) ?_
 ·exact(Wk.mixed _ (fun _ _=>rfl) rfl (fun l hp=>by cases l<;>first|rfl|cases hp) (by simp-implicitDefEqProofs+decide only[go_sem,tI,sI]) (by simp-implicitDefEqProofs+decide only[go_sem,tI,sI]))
 rintro i hi J hJ
 apply run_sound 200
 simp-implicitDefEqProofs+decide only[go_sem,tI,sI,sL]
 refine selP_dec (fun h1=> ?_) (fun h1=> ?_)
 ·have hi2:i<d.length:=by omega
  obtain⟨m,hm⟩:=getI hi2
  have hm1:=hd1 m (List.mem_of_getElem? hm)
  have hN:=nP_le hc i
  have hS:=nP_succ hc hm
  have hS2:=nP_le hc (i+1)
  have hm64:m.toNat≤nP d i*m.toNat:=Nat.le_mul_of_pos_left _ (by omega)
  have hw:=wS (show i<1000000000000 by omega)
  have hal:=allD_length (d.take i) (nP d i)
  refine Sm ?_
  refine Goes.wk (Wk.nilRow (d:=5) (lab:=.loc 41 0) (size:=1) (by simp-implicitDefEqProofs+decide only[go_sem]) (by simp-implicitDefEqProofs+decide only[go_sem]) rfl (by decide)) ?_
  refine Goes.loop (X:=Nat) (fun k=>⟨ofL [(0,tI d),(3,.t (sL (allD (d.take i) (nP d i)))),(4,.t (.int .i64 i)),(5,.sl (.loc 41 0) (k*m.toNat) 0 (k*m.toNat)),(14,.t (.int .i64 d.length)),(15,.t (.int .i64 i)),(19,.t (.int .i64 (nP d i))),(20,.t (.int .i64 k))],
    ofH (fun _=>none) [(.loc 41 0,.arr 1 ((allD (d.take (i+1)) (k*m.toNat)).map sI) (k*m.toNat) 0)],0⟩) (fun k=>k≤nP d i) (fun k=>nP d i-k) 0 ?_ (by omega) ?_
  ·simp only[Nat.zero_mul]
   exact(Wk.rows _ _ (fun _ _=>rfl) rfl rfl (by simp-implicitDefEqProofs+decide only[go_sem,ofH,tW,sW,sL,hal,List.length_map]<;>first|rfl|exact⟨rfl,rfl⟩|skip) (fun l hp=>by cases l<;>first|rfl|cases hp) (by simp-implicitDefEqProofs+decide only[go_sem,tI,sI,tW,sW,sL,hal,List.length_map]<;>first|rfl|skip) (by simp-implicitDefEqProofs+decide only[go_sem,tI,sI,tW,sW]))
  rintro k hk J2 hJ2
  apply run_sound 200
  simp-implicitDefEqProofs+decide only[go_sem,tI,sI,sL]
  refine selP_dec (fun h2=> ?_) (fun h2=> ?_)
  ·have hwk:=wS (show k<1000000000000 by omega)
   simp-implicitDefEqProofs+decide only[go_sem,hm,I]
   refine Goes.loop (X:=Nat) (fun x=>⟨ofL [(0,tI d),(3,.t (sL (allD (d.take i) (nP d i)))),(4,.t (.int .i64 i)),(5,.sl (.loc 41 0) (k*m.toNat+x) 0 (k*m.toNat+x)),(6,.t (.int .i64 k)),(14,.t (.int .i64 d.length)),(15,.t (.int .i64 i)),(19,.t (.int .i64 (nP d i))),(20,.t (.int .i64 k)),(26,.t (.int .i64 m)),(27,.t (.int .i64 x))],
     ofH (fun _=>none) [(.loc 41 0,.arr 1 ((allD (d.take (i+1)) (k*m.toNat+x)).map sI) (k*m.toNat+x) 0)],0⟩) (fun x=>x≤m.toNat) (fun x=>m.toNat-x) 0 ?_ (by omega) ?_
   ·exact(Wk.rows _ _ (fun _ _=>rfl) rfl rfl (by simp-implicitDefEqProofs+decide only[go_sem,ofH,tW,sW,sL]<;>first|rfl|exact⟨rfl,rfl⟩|skip) (fun l hp=>by cases l<;>first|rfl|cases hp) (by simp-implicitDefEqProofs+decide only[go_sem,tI,sI,tW,sW,sL]<;>first|rfl|skip) (by simp-implicitDefEqProofs+decide only[go_sem,tI,sI,tW,sW]))
   rintro x hx J3 hJ3
   apply run_sound 200
   simp-implicitDefEqProofs+decide only[go_sem,tI,sI,sL]
   refine selP_dec (fun h3=> ?_) (fun h3=> ?_)
   ·have hwx:=wS (show x<1000000000000 by omega)
    have hg:((allD (d.take i) (nP d i)).map sI)[k]?=some (sI (digL (d.take i) (k:Int))):=by rw[List.getElem?_map,allD_get (by omega)];rfl
    have hdl:=digL_take hm (x:=x) (k:=k) (by omega) (by omega) (by omega) (by unfold nP at*;omega) hd1
    have hcast:(k:Int)*m+x=((k*m.toNat+x:Nat):Int):=by
     rw[Int.natCast_add,Int.natCast_mul,Int.toNat_of_nonneg (by omega)]
    rw[hcast]at hdl
    have hsn:(allD (d.take (i+1)) (k*m.toNat+x)).map sI++[T.slice ((digL (d.take i) (k:Int)).map I++[I (x:Int)])]=(allD (d.take (i+1)) (k*m.toNat+x+1)).map sI:=by
     rw[←allD_snoc,List.map_append,←hdl];simp[sI]
    have hbig:k*m.toNat+x+1<big:=by
     have:=Nat.mul_le_mul_right m.toNat (show k+1≤nP d i by omega)
     rw[Nat.add_mul]at this
     unfold big;omega
    have hal2:=allD_length (d.take (i+1)) (k*m.toNat+x)
    have hge:=allD_length (d.take i) (nP d i)
    have hdlen:(digL (d.take i) (k:Int)).length+1<big:=by rw[digL_length,List.length_take];unfold big;omega
    have hdlen0:(digL (d.take i) (k:Int)).length<big:=by omega
    have htk:List.take ((digL (d.take i) (k:Int)).length+1) ((digL (d.take i) (k:Int)).map I++[T.int .i64 x])=(digL (d.take i) (k:Int)++[(x:Int)]).map I:=by
     rw[List.take_of_length_le (by simp),List.map_append];rfl
    simp-implicitDefEqProofs+decide only[go_sem,ofH,hg,sI,hdlen0,hdlen,List.length_map,Nat.zero_add,htk,List.nil_append,hal2,hbig,hsn,hwx]
    refine hJ3 (x+1) _ (by omega) (by omega) (Wk.rows _ _ (fun _ _=>rfl) rfl rfl (by simp-implicitDefEqProofs+decide only[go_sem,ofH,tW,sW,sL]<;>first|rfl|exact⟨rfl,rfl⟩|skip) (fun l hp=>by cases l<;>first|rfl|cases hp) (by simp-implicitDefEqProofs+decide only[go_sem,tI,sI,tW,sW,sL]<;>first|rfl|skip) (by simp-implicitDefEqProofs+decide only[go_sem,tI,sI,tW,sW]))
   ·obtain rfl:x=m.toNat:=by omega
    simp-implicitDefEqProofs+decide only[go_sem,ofH,hwk]
    have hmul:k*m.toNat+m.toNat=(k+1)*m.toNat:=by rw[Nat.add_mul,Nat.one_mul]
    rw[hmul]
    refine hJ2 (k+1) _ (by omega) (by omega) (Wk.rows _ _ (fun _ _=>rfl) rfl rfl (by simp-implicitDefEqProofs+decide only[go_sem,ofH,tW,sW,sL]<;>first|rfl|exact⟨rfl,rfl⟩|skip) (fun l hp=>by cases l<;>first|rfl|cases hp) (by simp-implicitDefEqProofs+decide only[go_sem,tI,sI,tW,sW,sL]<;>first|rfl|skip) (by simp-implicitDefEqProofs+decide only[go_sem,tI,sI,tW,sW]))
  ·obtain rfl:k=nP d i:=by omega
   simp-implicitDefEqProofs+decide only[go_sem,ofH,hw]
   rw[←hS]
   have hal3:=allD_length (d.take (i+1)) (nP d (i+1))
   have htk3:List.take (nP d (i+1)) ((allD (d.take (i+1)) (nP d (i+1))).map sI)=(allD (d.take (i+1)) (nP d (i+1))).map sI:=List.take_of_length_le (by rw[List.length_map,hal3];exact Nat.le_refl _)
   refine hJ (i+1) _ (by omega) (by omega) (Wk.trans (Wk.freeze 3 (t:=sL (allD (d.take (i+1)) (nP d (i+1)))) (ws:=[(.loc 41 0,.arr 1 ((allD (d.take (i+1)) (nP d (i+1))).map sI) (nP d (i+1)) (nP d (i+1)))]) (acc:=[.loc 41 0]) (by simp-implicitDefEqProofs+decide only[go_sem,htk3,hal3,List.length_map];rfl)) (Wk.mixed _ (fun _ _=>rfl) rfl (fun l hp=>by cases l<;>first|rfl|cases hp) (by simp-implicitDefEqProofs+decide only[go_sem,tI,sI]) (by simp-implicitDefEqProofs+decide only[go_sem,tI,sI])))
 ·obtain rfl:i=d.length:=by omega
  refine Sm ?_
  have e1:d.take d.length=d:=List.take_length
  have e2:nP d d.length=(prodL d).toNat:=by unfold nP;rw[e1]
  rw[e2]
  exact endF.one (.inr rfl) (by simp-implicitDefEqProofs+decide only[go_sem,sL]) rfl (fun _ _=>rfl) rfl
end Go.Fm
/- What is spread, in numbers. -/
namespace Go.Fm
open Go.Proofs
set_option maxRecDepth 100000

structure FitD (f t:List Int):Prop where
 cf:chk f=0
 ct:chk t=0
 l:f.length≤t.length
 e:∀(i:Nat) (x:Int),f[i]?=some x→x≠1→t[t.length-f.length+i]?=some x
def srcS (f t:List Int) (n:Int):List Int:=(List.range f.length).map fun k=>if f.getD k 0=1 then 0 else (digL t n).getD (t.length-f.length+k) 0
def srcN (f t:List Int) (n:Int):Int:=placeI f (srcS f t n)
def sourcesD (f t:List Int) (n:Nat):List Int:=(List.range n).map fun(k:Nat)=>srcN f t (k:Int)
end Go.Fm
/- Products' elements, by the reference. -/
namespace Go.Fm
open Go.Proofs
set_option maxRecDepth 100000
attribute [local irreducible] tiOf

def sP (l:List (Int×Int)):T:=.slice (l.map tP)
def allT (a b out:List Int) (n:Nat):List (List (Int×Int)):=(List.range n).map fun(i:Nat)=>termsM a b out (i:Int)
end Go.Fm
