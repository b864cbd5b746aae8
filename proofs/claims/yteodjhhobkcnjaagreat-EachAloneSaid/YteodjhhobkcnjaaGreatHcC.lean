/- An element of an operand of a product. -/
import Derived.Test.YteodjhhobkcnjaaGreatHcB
import Derived.Test.YteodjhhobkcnjaaGreatHaC
set_option linter.unusedVariables false
set_option linter.unusedSimpArgs false
namespace Go.Fm
open Go.Proofs
set_option maxRecDepth 100000
attribute [local irreducible] tiOf
def srcAt (d p:List Int) (first:Nat) (row col:Int):List Int:=(List.range (d.length-2)).map (fun i=>if 1<d.getD i 0 then p.getD (first+i) 0 else 0)++[row,col]
structure MD (a b out:List Int):Prop where
 ca:chk a=0
 cb:chk b=0
 co:chk out=0
 la:2≤a.length
 lb:2≤b.length
 ab:a[a.length-1]?=b[b.length-2]?
 eo:out=spr (a.take (a.length-2)) (b.take (b.length-2))++[a.getD (a.length-2) 0,b.getD (b.length-1) 0]
 nc:¬clash (a.take (a.length-2)) (b.take (b.length-2))
namespace MD
variable {a b out:List Int}
end MD
def pairK (a b out p:List Int) (row col k:Int):Int×Int:=(placeI a (srcAt a p (out.length-a.length) row k),placeI b (srcAt b p (out.length-b.length) k col))
def pairsL (a b out p:List Int) (row col:Int) (n:Nat):List (Int×Int):=(List.range n).map fun(k:Nat)=>pairK a b out p row col (k:Int)
def termsM (a b out:List Int) (n:Int):List (Int×Int):=
 pairsL a b out (digL out n) ((digL out n).getD (out.length-2) 0) ((digL out n).getD (out.length-1) 0) (a.getD (a.length-1) 0).toNat
attribute [go_sem] List.range_zero Nat.zero_mul Nat.one_mul Nat.mul_one List.set_cons_zero List.set_cons_succ
theorem QB_mul {r s:Rat} {a b:Nat} (hr:QB r a) (hs:QB s b):QB (r*s) (a+b):=by
 have h:=mul_low r s
 have h1:=congrArg Rt.p h
 have h2:=congrArg Rt.q h
 have p1:=hr.n
 have p2:=hr.d
 have p3:=hs.n
 have p4:=hs.d
 constructor
 ·show(wordsOf (r*s).num.natAbs).length≤a+b
  have:(qR (r*s)).p=wordsOf (r*s).num.natAbs:=rfl
  rw[←this,←h1]
  unfold lowQ
  refine Nat.le_trans (len_mono (Nat.div_le_self _ _)) (Nat.le_trans (len_prod _ _) ?_)
  have l1:=len_mono (Nat.div_le_self r.num.natAbs (Nat.gcd r.num.natAbs s.den))
  have l2:=len_mono (Nat.div_le_self s.num.natAbs (Nat.gcd s.num.natAbs r.den))
  omega
 ·have:(qR (r*s)).q=wordsOf (r*s).den:=rfl
  show(wordsOf (r*s).den).length≤a+b
  rw[←this,←h2]
  unfold lowQ
  refine Nat.le_trans (len_mono (Nat.div_le_self _ _)) (Nat.le_trans (len_prod _ _) ?_)
  have l1:=len_mono (Nat.div_le_self r.den (Nat.gcd s.num.natAbs r.den))
  have l2:=len_mono (Nat.div_le_self s.den (Nat.gcd r.num.natAbs s.den))
  omega
theorem QB_add {r s:Rat} {a b:Nat} (hr:QB r a) (hs:QB s b):QB (r+s) (a+b+1):=by
 have h:=add_low r s
 have h1:=congrArg Rt.p h
 have h2:=congrArg Rt.q h
 have p1:=hr.n
 have p2:=hr.d
 have p3:=hs.n
 have p4:=hs.d
 constructor
 ·show(wordsOf (r+s).num.natAbs).length≤a+b+1
  have:(qR (r+s)).p=wordsOf (r+s).num.natAbs:=rfl
  rw[←this,←h1]
  unfold lowQ
  refine Nat.le_trans (len_mono (Nat.div_le_self _ _)) (Nat.le_trans (len_mono (sumQ_le _ _ _ _)) (Nat.le_trans (len_sum _ _) ?_))
  have l1:=len_prod r.num.natAbs s.den
  have l2:=len_prod s.num.natAbs r.den
  omega
 ·have:(qR (r+s)).q=wordsOf (r+s).den:=rfl
  show(wordsOf (r+s).den).length≤a+b+1
  rw[←this,←h2]
  unfold lowQ
  refine Nat.le_trans (len_mono (Nat.div_le_self _ _)) (Nat.le_trans (len_prod _ _) ?_)
  omega
theorem QB.mono {r:Rat} {a b:Nat} (h:QB r a) (hab:a≤b):QB r b:=⟨Nat.le_trans h.n hab,Nat.le_trans h.d hab⟩
def dotT (xs ys:List Rat) (p:Int×Int):Rat:=xs.getD p.1.toNat 0*ys.getD p.2.toNat 0
def dotR (xs ys:List Rat) (l:List (Int×Int)):Rat:=l.foldl (fun s p=>s+dotT xs ys p) 0
def sV (l:List Rat):T:=.slice (l.map vT)
noncomputable def doM (a b out:List Int) (xs ys:List Rat) (n:Nat):List Rat:=(List.range n).map fun(i:Nat)=>dotR xs ys (termsM a b out (i:Int))
theorem HCalm.box {h:Heap} {l:Lab} {cs:List AV} (hh:HCalm h) (hc:cleanL cs=true):HCalm (upd h l (some (.box cs))):=fun l' o ho=>by
 by_cases e:l'=l
 ·subst e;rw[upd_same]at ho;cases ho;exact .inr hc
 ·rw[upd_ne _ _ _ _ e]at ho;exact hh l' o ho
theorem toNat_lit1:Int.toNat 1=1:=rfl
theorem ite_dup {α:Type} {c:Prop} [Decidable c] (x y z:α):(if c then x else if c then y else z)=if c then x else z:=by split<;>rfl
theorem wrap01:IntKind.wrap .i64 (0+1)=1:=by decide
attribute [go_sem] toNat_lit1 ite_dup wrap01
end Go.Fm
namespace Go.Fm
open Go.Proofs
set_option maxRecDepth 100000
theorem prodL_nil:prodL []=1:=rfl
theorem prodL_one (x:Int):prodL [x]=x:=by simp[prodL]
theorem digL_snoc {d:List Int} {m k x:Int} (hx0:0≤x) (hx:x<m) (hk0:0≤k) (hk:k<prodL d) (hd:∀y∈d,1≤y):digL (d++[m]) (k*m+x)=digL d k++[x]:=by
 have hm:0<m:=by omega
 have h1:(k*m+x)/m=k:=by
  rw[Int.mul_comm,Int.mul_add_ediv_left _ _ (by omega),Int.ediv_eq_zero_of_lt hx0 hx,Int.add_zero]
 have h2:(k*m+x)%m=x:=by
  rw[Int.mul_comm,Int.mul_add_emod_self_left,Int.emod_eq_of_lt hx0 hx]
 unfold digL
 rw[List.length_append,List.length_singleton,List.range_succ,List.map_append]
 congr 1
 ·refine List.map_congr_left fun i hi=> ?_
  have hi:=List.mem_range.1 hi
  unfold digit
  have e1:(d++[m]).drop (i+1)=d.drop (i+1)++[m]:=List.drop_append_of_le_length (by omega)
  have e2:(d++[m]).getD i 0=d.getD i 0:=by
   rw[List.getD_eq_getElem?_getD,List.getElem?_append_left hi,List.getD_eq_getElem?_getD]
  rw[e1,e2,prodL_append,prodL_one,Int.mul_comm (prodL _) m,←Int.ediv_ediv_of_nonneg (by omega),h1]
 ·unfold digit
  have e1:(d++[m]).drop (d.length+1)=[]:=List.drop_of_length_le (by simp)
  have e2:(d++[m]).getD d.length 0=m:=by
   rw[List.getD_eq_getElem?_getD,List.getElem?_append_right (Nat.le_refl _),Nat.sub_self];rfl
  show [(k*m+x)/prodL ((d++[m]).drop (d.length+1))%(d++[m]).getD d.length 0]=[x]
  rw[e1,e2,prodL_nil,Int.ediv_one,h2]
def allD (d:List Int) (n:Nat):List (List Int):=(List.range n).map fun(k:Nat)=>digL d (k:Int)
theorem allD_length (d:List Int) (n:Nat):(allD d n).length=n:=by simp[allD]
theorem allD_get {d:List Int} {n k:Nat} (h:k<n):(allD d n)[k]?=some (digL d (k:Int)):=by simp[allD,h]
theorem allD_snoc (d:List Int) (n:Nat):allD d n++[digL d (n:Int)]=allD d (n+1):=by simp[allD,List.range_succ]
theorem digL_take {d:List Int} {i:Nat} {m:Int} (h:d[i]?=some m) {k x:Int} (hx0:0≤x) (hx:x<m) (hk0:0≤k) (hk:k<prodL (d.take i)) (hd:∀y∈d,1≤y):
  digL (d.take i) k++[x]=digL (d.take (i+1)) (k*m+x):=by
 rw[List.take_add_one,h,Option.toList_some,digL_snoc hx0 hx hk0 hk fun y hy=>hd y (List.mem_of_mem_take hy)]
end Go.Fm
namespace Go.Fm
open Go.Proofs
set_option maxRecDepth 100000
attribute [local irreducible] tiOf
def sL (l:List (List Int)):T:=.slice (l.map sI)
def nP (d:List Int) (i:Nat):Nat:=(prodL (d.take i)).toNat
theorem nP_le {d:List Int} (h:chk d=0) (i:Nat):1≤nP d i∧nP d i≤64:=by
 obtain⟨_,h1,_,h3⟩:=chk0 h
 have h2:=prodL_pos (d:=d.take i) fun y hy=>h1 y (List.mem_of_mem_take hy)
 have h4:=prodL_le h1 i
 unfold nP;omega
theorem nP_succ {d:List Int} {i:Nat} {m:Int} (h:chk d=0) (hm:d[i]?=some m):nP d (i+1)=nP d i*m.toNat:=by
 obtain⟨_,h1,_,_⟩:=chk0 h
 have h2:=prodL_pos (d:=d.take i) fun y hy=>h1 y (List.mem_of_mem_take hy)
 have h3:=h1 m (List.mem_of_getElem? hm)
 unfold nP
 rw[prodL_snoc hm,Int.toNat_mul (by omega) (by omega)]
theorem rAll_ok (d:List Int) (hc:chk d=0):Pure Tryz.prog 82 [sI d] [.t (sL (allD d (prodL d).toNat))]:=by
 obtain⟨l6,hd1,_,_⟩:=chk0 hc
 have c1:=rCheck_ok d (by omega)
 rw[hc]at c1
 refine Pure.I Tryz.func82 [2] ?_
 refine SmJ ?_
 refine CallG.P _ Tryz.call78 (c1) ?_
 refine Sm ?_
 refine Goes.wk (Wk.freeze 3 (t:=sL (allD (d.take 0) (nP d 0))) (ws:=[(.loc 12 0,.arr 1 [T.slice []] 0 1)]) (acc:=[.loc 12 0]) (by simp-implicitDefEqProofs+decide only[go_sem];rfl)) ?_
 refine Goes.loop (X:=Nat) (fun i=>⟨ofL [(0,tI d),(3,.t (sL (allD (d.take i) (nP d i)))),(14,.t (.int .i64 d.length)),(15,.t (.int .i64 i))],fun _=>none,0⟩) (fun i=>i≤d.length) (fun i=>d.length-i) 0 ?_ (by omega) ?_
 ·exact(Wk.mixed _ (fun _ _=>rfl) rfl (fun l hp=>by cases l<;>first|rfl|cases hp) (by simp-implicitDefEqProofs+decide only[go_sem,tI,sI]) (by simp-implicitDefEqProofs+decide only[go_sem,tI,sI]))
 rintro i hi J hJ
 apply run_sound 200
 simp-implicitDefEqProofs+decide only[go_sem,tI,sI,sL]
 apply selP_dec<;>intro h1
 ·have hi2:i<d.length:=by omega
  obtain⟨m,hm⟩:=getI hi2
  have hm1:=hd1 m (List.mem_of_getElem? hm)
  have hN:=nP_le hc i
  have hS:=nP_succ hc hm
  have hS2:=nP_le hc (i+1)
  have hm64:m.toNat≤nP d i*m.toNat:=Nat.le_mul_of_pos_left _ (by omega)
  have hw:=wS (show i<1000000000000 by omega)
  have hal:=allD_length (d.take i) (nP d i)
  refine Sm ?_
  refine Goes.wk (Wk.nilRow (d:=5) (lab:=.loc 41 0) (size:=1) (by simp-implicitDefEqProofs+decide only[go_sem]) (by simp-implicitDefEqProofs+decide only[go_sem]) rfl (by decide)) ?_
  refine Goes.loop (X:=Nat) (fun k=>⟨ofL [(0,tI d),(3,.t (sL (allD (d.take i) (nP d i)))),(4,.t (.int .i64 i)),(5,.sl (.loc 41 0) (k*m.toNat) 0 (k*m.toNat)),(14,.t (.int .i64 d.length)),(15,.t (.int .i64 i)),(19,.t (.int .i64 (nP d i))),(20,.t (.int .i64 k))],
    ofH (fun _=>none) [(.loc 41 0,.arr 1 ((allD (d.take (i+1)) (k*m.toNat)).map sI) (k*m.toNat) 0)],0⟩) (fun k=>k≤nP d i) (fun k=>nP d i-k) 0 ?_ (by omega) ?_
  ·simp only[Nat.zero_mul]
   exact(Wk.rows _ _ (fun _ _=>rfl) rfl rfl (by simp-implicitDefEqProofs+decide only[go_sem,ofH,tW,sW,sL,hal,List.length_map]<;>first|rfl|exact⟨rfl,rfl⟩|skip) (fun l hp=>by cases l<;>first|rfl|cases hp) (by simp-implicitDefEqProofs+decide only[go_sem,tI,sI,tW,sW,sL,hal,List.length_map]<;>first|rfl|skip) (by simp-implicitDefEqProofs+decide only[go_sem,tI,sI,tW,sW]))
  rintro k hk J2 hJ2
  apply run_sound 200
  simp-implicitDefEqProofs+decide only[go_sem,tI,sI,sL]
  apply selP_dec<;>intro h2
  ·have hwk:=wS (show k<1000000000000 by omega)
   simp-implicitDefEqProofs+decide only[go_sem,hm,I]
   refine Goes.loop (X:=Nat) (fun x=>⟨ofL [(0,tI d),(3,.t (sL (allD (d.take i) (nP d i)))),(4,.t (.int .i64 i)),(5,.sl (.loc 41 0) (k*m.toNat+x) 0 (k*m.toNat+x)),(6,.t (.int .i64 k)),(14,.t (.int .i64 d.length)),(15,.t (.int .i64 i)),(19,.t (.int .i64 (nP d i))),(20,.t (.int .i64 k)),(26,.t (.int .i64 m)),(27,.t (.int .i64 x))],
     ofH (fun _=>none) [(.loc 41 0,.arr 1 ((allD (d.take (i+1)) (k*m.toNat+x)).map sI) (k*m.toNat+x) 0)],0⟩) (fun x=>x≤m.toNat) (fun x=>m.toNat-x) 0 ?_ (by omega) ?_
   ·exact(Wk.rows _ _ (fun _ _=>rfl) rfl rfl (by simp-implicitDefEqProofs+decide only[go_sem,ofH,tW,sW,sL]<;>first|rfl|exact⟨rfl,rfl⟩|skip) (fun l hp=>by cases l<;>first|rfl|cases hp) (by simp-implicitDefEqProofs+decide only[go_sem,tI,sI,tW,sW,sL]<;>first|rfl|skip) (by simp-implicitDefEqProofs+decide only[go_sem,tI,sI,tW,sW]))
   rintro x hx J3 hJ3
   apply run_sound 200
   simp-implicitDefEqProofs+decide only[go_sem,tI,sI,sL]
   apply selP_dec<;>intro h3
   ·have hwx:=wS (show x<1000000000000 by omega)
    have hg:((allD (d.take i) (nP d i)).map sI)[k]?=some (sI (digL (d.take i) (k:Int))):=by rw[List.getElem?_map,allD_get (by omega)];rfl
    have hdl:=digL_take hm (x:=x) (k:=k) (by omega) (by omega) (by omega) (by unfold nP at*;omega) hd1
    have hcast:(k:Int)*m+x=((k*m.toNat+x:Nat):Int):=by
     rw[Int.natCast_add,Int.natCast_mul,Int.toNat_of_nonneg (by omega)]
    rw[hcast]at hdl
    have hsn:(allD (d.take (i+1)) (k*m.toNat+x)).map sI++[T.slice ((digL (d.take i) (k:Int)).map I++[I (x:Int)])]=(allD (d.take (i+1)) (k*m.toNat+x+1)).map sI:=by
     rw[←allD_snoc,List.map_append,←hdl];simp[sI]
    have hbig:k*m.toNat+x+1<big:=by
     have:=Nat.mul_le_mul_right m.toNat (show k+1≤nP d i by omega)
     rw[Nat.add_mul]at this
     unfold big;omega
    have hal2:=allD_length (d.take (i+1)) (k*m.toNat+x)
    have hge:=allD_length (d.take i) (nP d i)
    have hdlen:(digL (d.take i) (k:Int)).length+1<big:=by rw[digL_length,List.length_take];unfold big;omega
    have hdlen0:(digL (d.take i) (k:Int)).length<big:=by omega
    have htk:List.take ((digL (d.take i) (k:Int)).length+1) ((digL (d.take i) (k:Int)).map I++[T.int .i64 x])=(digL (d.take i) (k:Int)++[(x:Int)]).map I:=by
     rw[List.take_of_length_le (by simp),List.map_append];rfl
    simp-implicitDefEqProofs+decide only[go_sem,ofH,hg,sI,hdlen0,hdlen,List.length_map,Nat.zero_add,htk,List.nil_append,hal2,hbig,hsn,hwx]
    refine hJ3 (x+1) _ (by omega) (by omega) (Wk.rows _ _ (fun _ _=>rfl) rfl rfl (by simp-implicitDefEqProofs+decide only[go_sem,ofH,tW,sW,sL]<;>first|rfl|exact⟨rfl,rfl⟩|skip) (fun l hp=>by cases l<;>first|rfl|cases hp) (by simp-implicitDefEqProofs+decide only[go_sem,tI,sI,tW,sW,sL]<;>first|rfl|skip) (by simp-implicitDefEqProofs+decide only[go_sem,tI,sI,tW,sW]))
   ·obtain rfl:x=m.toNat:=by omega
    simp-implicitDefEqProofs+decide only[go_sem,ofH,hwk]
    have hmul:k*m.toNat+m.toNat=(k+1)*m.toNat:=by rw[Nat.add_mul,Nat.one_mul]
    rw[hmul]
    refine hJ2 (k+1) _ (by omega) (by omega) (Wk.rows _ _ (fun _ _=>rfl) rfl rfl (by simp-implicitDefEqProofs+decide only[go_sem,ofH,tW,sW,sL]<;>first|rfl|exact⟨rfl,rfl⟩|skip) (fun l hp=>by cases l<;>first|rfl|cases hp) (by simp-implicitDefEqProofs+decide only[go_sem,tI,sI,tW,sW,sL]<;>first|rfl|skip) (by simp-implicitDefEqProofs+decide only[go_sem,tI,sI,tW,sW]))
  ·obtain rfl:k=nP d i:=by omega
   simp-implicitDefEqProofs+decide only[go_sem,ofH,hw]
   rw[←hS]
   have hal3:=allD_length (d.take (i+1)) (nP d (i+1))
   have htk3:List.take (nP d (i+1)) ((allD (d.take (i+1)) (nP d (i+1))).map sI)=(allD (d.take (i+1)) (nP d (i+1))).map sI:=List.take_of_length_le (by rw[List.length_map,hal3];exact Nat.le_refl _)
   refine hJ (i+1) _ (by omega) (by omega) (Wk.trans (Wk.freeze 3 (t:=sL (allD (d.take (i+1)) (nP d (i+1)))) (ws:=[(.loc 41 0,.arr 1 ((allD (d.take (i+1)) (nP d (i+1))).map sI) (nP d (i+1)) (nP d (i+1)))]) (acc:=[.loc 41 0]) (by simp-implicitDefEqProofs+decide only[go_sem,htk3,hal3,List.length_map];rfl)) (Wk.mixed _ (fun _ _=>rfl) rfl (fun l hp=>by cases l<;>first|rfl|cases hp) (by simp-implicitDefEqProofs+decide only[go_sem,tI,sI]) (by simp-implicitDefEqProofs+decide only[go_sem,tI,sI])))
 ·obtain rfl:i=d.length:=by omega
  refine Sm ?_
  have e1:d.take d.length=d:=List.take_length
  have e2:nP d d.length=(prodL d).toNat:=by unfold nP;rw[e1]
  rw[e2]
  exact endF.one (.inr rfl) (by simp-implicitDefEqProofs+decide only[go_sem,sL]) rfl (fun _ _=>rfl) rfl
end Go.Fm
namespace Go.Fm
open Go.Proofs
set_option maxRecDepth 100000
theorem sizeD_spr {a b:List Int} {k:Nat} (h1:1≤k) (h2:k≤rankD a b):sizeD (spr a b) k=mx (sizeD a k) (sizeD b k):=by
 unfold sizeD
 rw[spr_length,if_neg (by omega),List.getD_eq_getElem?_getD,spr_get (by omega),show rankD a b-(rankD a b-k)=k by omega]
 rfl
structure FitD (f t:List Int):Prop where
 cf:chk f=0
 ct:chk t=0
 l:f.length≤t.length
 e:∀(i:Nat) (x:Int),f[i]?=some x→x≠1→t[t.length-f.length+i]?=some x
theorem twoS_fit {f t:List Int} (h:twoS f t=(t,0)):FitD f t:=by
 by_cases cf:chk f=0
 case neg=>unfold twoS at h;rw[if_pos cf]at h;exact absurd (Prod.mk.inj h).2 cf
 by_cases ct:chk t=0
 case neg=>unfold twoS at h;rw[if_neg (fun h=>h cf),if_pos ct]at h;exact absurd (Prod.mk.inj h).2 ct
 rw[twoS_eq cf ct]at h
 split at h
 ·exact absurd (Prod.mk.inj h).2 (by decide)
 rename_i h1
 split at h
 ·rename_i h2;exact absurd (Prod.mk.inj h).2 h2
 have e:=(Prod.mk.inj h).1
 have hl:=congrArg List.length e
 rw[spr_length]at hl
 have hl2:f.length≤t.length:=by unfold rankD at hl;omega
 refine⟨cf,ct,hl2,fun i x hx h1x=> ?_⟩
 have hi:=(List.getElem?_eq_some_iff.1 hx).1
 obtain⟨y,hy⟩:=getI (show t.length-f.length+i<t.length by omega)
 have hk:sizeD (spr f t) (f.length-i)=sizeD t (f.length-i):=by rw[e]
 rw[sizeD_spr (by omega) (by omega)]at hk
 have hf:sizeD f (f.length-i)=x:=by unfold sizeD;rw[if_neg (by omega),show f.length-(f.length-i)=i by omega,getD_of hx]
 have ht:sizeD t (f.length-i)=y:=by unfold sizeD;rw[if_neg (by omega),show t.length-(f.length-i)=t.length-f.length+i by omega,getD_of hy]
 rw[hf,ht]at hk
 rw[hy]
 have hx1:=(chk0 cf).2.1 x (List.mem_of_getElem? hx)
 by_cases hxy:x=y
 ·rw[hxy]
 ·exfalso
  refine h1 ⟨f.length-i,by omega,by omega,by rw[hf,ht];exact hxy,by rw[hf];exact h1x,?_⟩
  rw[ht]
  intro h
  rw[h]at hk
  unfold mx at hk
  split at hk<;>omega
def srcS (f t:List Int) (n:Int):List Int:=(List.range f.length).map fun k=>if f.getD k 0=1 then 0 else (digL t n).getD (t.length-f.length+k) 0
theorem srcS_length (f t:List Int) (n:Int):(srcS f t n).length=f.length:=by simp[srcS]
theorem srcS_get {f t:List Int} {n:Int} {k:Nat} {x y:Int} (hx:f[k]?=some x) (hy:(digL t n)[t.length-f.length+k]?=some y):(srcS f t n)[k]?=some (if x=1 then 0 else y):=by
 obtain⟨hk,he⟩:=List.getElem?_eq_some_iff.1 hx
 simp[srcS,hk,he,hy]
theorem srcS_in {f t:List Int} {n:Int} (h:FitD f t):InD f (srcS f t n):=by
 refine⟨h.cf,srcS_length f t n,fun i x m hx hm=> ?_⟩
 have hi:=(List.getElem?_eq_some_iff.1 hm).1
 have hl:=h.l
 obtain⟨y,hy⟩:=getI (show t.length-f.length+i<(digL t n).length by rw[digL_length];omega)
 rw[srcS_get hm hy]at hx
 cases hx
 have h1:=(chk0 h.cf).2.1 m (List.mem_of_getElem? hm)
 split
 ·omega
 ·rename_i hm1
  exact(digit_in (n:=n) h.ct).b _ _ _ hy (h.e i m hm hm1)
def srcN (f t:List Int) (n:Int):Int:=placeI f (srcS f t n)
def sourcesD (f t:List Int) (n:Nat):List Int:=(List.range n).map fun(k:Nat)=>srcN f t (k:Int)
theorem sourcesD_length (f t:List Int) (n:Nat):(sourcesD f t n).length=n:=by simp[sourcesD]
theorem sourcesD_snoc (f t:List Int) (n:Nat):sourcesD f t n++[srcN f t (n:Int)]=sourcesD f t (n+1):=by simp[sourcesD,List.range_succ]
theorem sourcesD_get {f t:List Int} {n k:Nat} (h:k<n):(sourcesD f t n)[k]?=some (srcN f t (k:Int)):=by simp[sourcesD,h]
end Go.Fm
namespace Go.Fm
open Go.Proofs
set_option maxRecDepth 100000
attribute [local irreducible] tiOf
theorem twoS_len (a b:List Int):(twoS a b).1.length≤rankD a b:=twoS_length a b
theorem rFits_ok (a b:List Int) (ha:a.length<1000000000) (hb:b.length<1000000000):Pure Tryz.prog 93 [sI a,sI b] [.t (.bool (decide (twoS a b=(b,0))))]:=by
 have hl:=twoS_len a b
 obtain⟨l,e,hle⟩:∃l e,twoS a b=(l,e):=⟨_,_,rfl⟩
 have c1:=rTwo_ok a b l e ha hb hle
 rw[hle]at hl⊢
 unfold rankD at hl
 dsimp only at hl
 have c2:=rSameI_ok l b (by omega)
 refine Pure.I Tryz.func93 [4] ?_
 refine SmJ ?_
 refine CallG.PS _ Tryz.call111 (c1) ?_
 refine Sm ?_
 apply selP_dec<;>intro h
 ·subst h
  refine SmJ ?_
  refine CallG.P _ Tryz.call155 (c2) ?_
  refine Sm ?_
  have:decide ((l,(0:Int))=(b,0))=decide (l=b):=decide_eq_decide.2 ⟨fun h=>(Prod.mk.inj h).1,fun h=>by rw[h]⟩
  rw[this]
  exact endF.one (.inr rfl) (by simp-implicitDefEqProofs+decide only[go_sem]) rfl (fun _ _=>rfl) rfl
 ·refine Sm ?_
  have:decide ((l,e)=(b,0))=false:=decide_eq_false fun hh=>h (Prod.mk.inj hh).2
  rw[this]
  exact endF.one (.inr rfl) (by simp-implicitDefEqProofs+decide only[go_sem]) rfl (fun _ _=>rfl) rfl
theorem rSources_no (f t:List Int) (ha:f.length<1000000000) (hb:t.length<1000000000) (h:twoS f t≠(t,0)):Pure Tryz.prog 40 [sI f,sI t] [.t (.slice [])]:=by
 have c1:=rFits_ok f t ha hb
 rw[decide_eq_false h]at c1
 refine Pure.I Tryz.func40 [4] ?_
 refine SmJ ?_
 refine CallG.P _ Tryz.call93 (c1) ?_
 refine Sm ?_
 exact endF.nil (.inr rfl) (by simp-implicitDefEqProofs+decide only[go_sem]) (fun _ _=>rfl) rfl
theorem rSources_ok (f t:List Int) (h:twoS f t=(t,0)):Pure Tryz.prog 40 [sI f,sI t] [.t (sI (sourcesD f t (prodL t).toNat))]:=by
 have F:=twoS_fit h
 have lf:=(chk0 F.cf).1
 have lt:=(chk0 F.ct).1
 have hP:=(chk0 F.ct).2.2
 have hfl:=F.l
 have c1:=rFits_ok f t (by omega) (by omega)
 rw[decide_eq_true h]at c1
 have c2:=rAll_ok t F.ct
 obtain⟨N,hN⟩:∃N,(prodL t).toNat=N:=⟨_,rfl⟩
 rw[hN]at c2⊢
 have hal:=allD_length t N
 refine Pure.I Tryz.func40 [4] ?_
 refine SmJ ?_
 refine CallG.P _ Tryz.call93 (c1) ?_
 refine SmJ ?_
 refine CallG.PS _ Tryz.call82 (c2) ?_
 simp-implicitDefEqProofs+decide only[go_sem,sL,hal,List.length_map]
 refine Goes.wk (Wk.nilRow (d:=6) (lab:=.loc 56 0) (size:=1) (by simp-implicitDefEqProofs+decide only[go_sem]) (by simp-implicitDefEqProofs+decide only[go_sem]) rfl (by decide)) ?_
 refine Goes.loop (X:=Nat) (fun n=>⟨ofL [(0,tI f),(1,tI t),(5,.t (sL (allD t N))),(6,.sl (.loc 56 0) n 0 n),(17,.t (.int .i64 N)),(18,.t (.int .i64 n))],
     ofH (fun _=>none) [(.loc 56 0,.arr 1 ((sourcesD f t n).map I) n 0)],0⟩) (fun n=>n≤N) (fun n=>N-n) 0 ?_ (by omega) ?_
 ·exact(Wk.rows _ _ (fun _ _=>rfl) rfl rfl (by simp-implicitDefEqProofs+decide only[go_sem,ofH,tW,sW,sL]<;>first|rfl|exact⟨rfl,rfl⟩|skip) (fun l hp=>by cases l<;>first|rfl|cases hp) (by simp-implicitDefEqProofs+decide only[go_sem,tI,sI,tW,sW,sL]<;>first|rfl|skip) (by simp-implicitDefEqProofs+decide only[go_sem,tI,sI,tW,sW]))
 rintro n hn J hJ
 apply run_sound 200
 simp-implicitDefEqProofs+decide only[go_sem,tI,sI,sL]
 apply selP_dec<;>intro h1
 ·have hg:((allD t N).map sI)[n]?=some (sI (digL t (n:Int))):=by rw[List.getElem?_map,allD_get (by omega)];rfl
  have hw:=wS (show n<1000000000000 by omega)
  have hdl:=digL_length t (n:Int)
  have hsl:=srcS_length f t (n:Int)
  have hsn:=sourcesD_length f t n
  refine Sm ?_
  refine Goes.wk (Wk.nilRow (d:=8) (lab:=.loc 49 0) (size:=1) (by simp-implicitDefEqProofs+decide only[go_sem]) (by simp-implicitDefEqProofs+decide only[go_sem,ofH]) rfl (by decide)) ?_
  refine Goes.loop (X:=Nat) (fun k=>⟨ofL [(0,tI f),(1,tI t),(5,.t (sL (allD t N))),(6,.sl (.loc 56 0) n 0 n),(7,.t (.int .i64 n)),(8,.sl (.loc 49 0) k 0 k),(17,.t (.int .i64 N)),(18,.t (.int .i64 n)),(22,.t (.int .i64 f.length)),(23,.t (.int .i64 k))],
      ofH (fun _=>none) [(.loc 56 0,.arr 1 ((sourcesD f t n).map I) n 0),(.loc 49 0,.arr 1 (((srcS f t n).take k).map I) k 0)],0⟩) (fun k=>k≤f.length) (fun k=>f.length-k) 0 ?_ (by omega) ?_
  ·exact(Wk.rows _ _ (fun _ _=>rfl) rfl rfl (by simp-implicitDefEqProofs+decide only[go_sem,ofH,tW,sW,sL]<;>first|rfl|exact⟨rfl,rfl⟩|skip) (fun l hp=>by cases l<;>first|rfl|cases hp) (by simp-implicitDefEqProofs+decide only[go_sem,tI,sI,tW,sW,sL]<;>first|rfl|skip) (by simp-implicitDefEqProofs+decide only[go_sem,tI,sI,tW,sW]))
  rintro k hk J2 hJ2
  apply run_sound 200
  simp-implicitDefEqProofs+decide only[go_sem,tI,sI,sL]
  have htl:((srcS f t (n:Int)).take k).length=k:=by rw[List.length_take];omega
  apply selP_dec<;>intro h2
  ·obtain⟨x,hx⟩:=getI (show k<f.length by omega)
   obtain⟨y,hy⟩:=getI (show t.length-f.length+k<(digL t (n:Int)).length by omega)
   have hgg:=srcS_get hx hy
   have hwk:=wS (show k<1000000000000 by omega)
   have hkb:k+1<big:=by unfold big;omega
   have wt1:IntKind.wrap .i64 ((t.length:Int)-f.length)=((t.length-f.length:Nat):Int):=by rw[w64]<;>omega
   have wt2:IntKind.wrap .i64 (((t.length-f.length:Nat):Int)+k)=((t.length-f.length+k:Nat):Int):=by rw[w64]<;>omega
   simp-implicitDefEqProofs+decide only[go_sem,hx,I]
   apply selP_dec<;>intro h3
   ·rw[if_pos h3]at hgg
    have hst:((srcS f t n).take k).map I++[T.int .i64 0]=((srcS f t n).take (k+1)).map I:=by rw[List.take_add_one,hgg,List.map_append];rfl
    simp-implicitDefEqProofs+decide only[go_sem,ofH,htl,hkb,hst,hwk]
    refine hJ2 (k+1) _ (by omega) (by omega) (Wk.rows _ _ (fun _ _=>rfl) rfl rfl (by simp-implicitDefEqProofs+decide only[go_sem,ofH,tW,sW,sL]<;>first|rfl|exact⟨rfl,rfl⟩|skip) (fun l hp=>by cases l<;>first|rfl|cases hp) (by simp-implicitDefEqProofs+decide only[go_sem,tI,sI,tW,sW,sL]<;>first|rfl|skip) (by simp-implicitDefEqProofs+decide only[go_sem,tI,sI,tW,sW]))
   ·rw[if_neg h3]at hgg
    have hst:((srcS f t n).take k).map I++[T.int .i64 y]=((srcS f t n).take (k+1)).map I:=by rw[List.take_add_one,hgg,List.map_append];rfl
    simp-implicitDefEqProofs+decide only[go_sem,hg,sI,wt1,wt2,hy,I,ofH,htl,hkb,hst,hwk,Int.toNat_natCast]
    refine hJ2 (k+1) _ (by omega) (by omega) (Wk.rows _ _ (fun _ _=>rfl) rfl rfl (by simp-implicitDefEqProofs+decide only[go_sem,ofH,tW,sW,sL]<;>first|rfl|exact⟨rfl,rfl⟩|skip) (fun l hp=>by cases l<;>first|rfl|cases hp) (by simp-implicitDefEqProofs+decide only[go_sem,tI,sI,tW,sW,sL]<;>first|rfl|skip) (by simp-implicitDefEqProofs+decide only[go_sem,tI,sI,tW,sW]))
  ·obtain rfl:k=f.length:=by omega
   have htk:(srcS f t (n:Int)).take f.length=srcS f t n:=List.take_of_length_le (by omega)
   have htk2:List.take f.length ((srcS f t (n:Int)).map I)=(srcS f t n).map I:=List.take_of_length_le (by rw[List.length_map];omega)
   have c3:=rPlace_ok f (srcS f t n) (srcS_in F)
   have hnb:n+1<big:=by unfold big;omega
   have hsn2:(sourcesD f t n).map I++[T.int .i64 (placeI f (srcS f t n))]=(sourcesD f t (n+1)).map I:=by rw[←sourcesD_snoc,List.map_append];rfl
   rw[htk]
   simp-implicitDefEqProofs+decide only[go_sem,ofH,htk2,List.length_map]
   refine CallG.P _ Tryz.call94 (c3) ?_
   simp-implicitDefEqProofs+decide only[go_sem,ofH,hsn,hnb,hsn2,hw,List.length_map]
   refine hJ (n+1) _ (by omega) (by omega) (Wk.rows _ _ (fun _ _=>rfl) rfl rfl (by simp-implicitDefEqProofs+decide only[go_sem,ofH,tW,sW,sL]<;>first|rfl|exact⟨rfl,rfl⟩|skip) (fun l hp=>by cases l<;>first|rfl|cases hp) (by simp-implicitDefEqProofs+decide only[go_sem,tI,sI,tW,sW,sL]<;>first|rfl|skip) (by simp-implicitDefEqProofs+decide only[go_sem,tI,sI,tW,sW]))
 ·obtain rfl:n=N:=by omega
  have hsn:=sourcesD_length f t n
  simp-implicitDefEqProofs+decide only[go_sem,ofH]
  exact endF.row1 (.inr rfl) (by simp-implicitDefEqProofs+decide only[go_sem];rfl) (by simp-implicitDefEqProofs+decide only[go_sem];rfl) (by rw[List.length_map,hsn]) (fun l hp=>by cases l<;>first|rfl|cases hp) rfl
end Go.Fm
