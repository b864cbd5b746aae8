/- What laws on operands use besides. -/
import Derived.Test.YteodjhhobkcnjaaGreatHdA
import Derived.Test.YteodjhhobkcnjaaGreatHcC
set_option linter.unusedVariables false
set_option linter.unusedSimpArgs false
namespace Go.Fm
open Go.Proofs
set_option maxRecDepth 100000
attribute [local irreducible] tiOf
theorem qR_nat (n:Nat):qR (n:Rat)=⟨false,wordsOf n,[1]⟩:=by
 have h:¬(n:Rat).num<0:=by rw[Rat.num_natCast];omega
 unfold qR
 rw[decide_eq_false h,Rat.num_natCast,Rat.den_natCast,words_one,Int.natAbs_natCast]
theorem QB_nat (n:Nat) (h:n<18446744073709551616):QB (n:Rat) 1:=by
 refine⟨?_,?_⟩
 ·show(wordsOf (n:Rat).num.natAbs).length≤1
  rw[Rat.num_natCast]
  exact len_wordsOf (by simpa using h)
 ·show(wordsOf (n:Rat).den).length≤1
  rw[Rat.den_natCast,words_one];exact Nat.le_refl _
attribute [go_sem] noPtr_sV
theorem short_of {l:List Ag} (h:argsB l=false):l.length≤6∧∀a∈l,a.d.length≤20∧a.v.length≤100∧wideB 9 a.v=false:=by
 unfold argsB at h
 rw[Bool.or_eq_false_iff,List.any_eq_false]at h
 refine⟨by have:=of_decide_eq_false h.2;omega,fun a ha=> ?_⟩
 have:=h.1 a ha
 unfold agB at this
 simp only[Bool.or_eq_true,decide_eq_true_eq,not_or]at this
 exact⟨by omega,by omega,by simpa using this.2⟩
theorem argsSOK {l:List Ag} (hw:∀a∈l,∀s∈a.v,WOK s.x.p∧WOK s.x.q):argsB l=false→∀a∈l,∀s∈a.v,SOK s 1000:=fun h a ha s hs=>by
 have:=wide_SOK ((short_of h).2 a ha).2.2 (hw a ha) s hs
 exact⟨this.p,this.q,by have:=this.lp;omega,by have:=this.lq;omega⟩
theorem noPtrL_Sc (l:List Sc):noPtrL (l.map Sc.T)=true:=by have:=noPtr_sS l;simpa only[sS,noPtr] using this
theorem copied_ok (x:Rt) (hp:x.p.length<1000000000) (hq:x.q.length<1000000000):Pure Tryz.prog 122 [x.T] [.t x.T]:=by
 obtain⟨n,p,q⟩:=x
 dsimp only at hp hq
 have b1:p.length<big:=by unfold big;omega
 have b2:q.length<big:=by unfold big;omega
 have t1:List.take p.length (p.map U)=p.map U:=List.take_of_length_le (by simp)
 have t2:List.take q.length (q.map U)=q.map U:=List.take_of_length_le (by simp)
 refine Pure.J Tryz.func122 [.c 2 _] ?_
 simp-implicitDefEqProofs+decide only[go_sem,Rt.T,rT,sW]
 refine Goes.drawN mixed ?_
 simp-implicitDefEqProofs+decide only[go_sem,b1,b2,t1,t2,List.length_map,Nat.zero_add,List.nil_append]
 refine⟨.mk (by kernel_rfl),?_⟩
 apply run_sound 200
 refine Sm ?_
 exact endC.one (.inr rfl) (by first|rfl|(simp-implicitDefEqProofs+decide only[go_sem,valC,Rt.T,rT,sW,t1,t2];done)|(simp-implicitDefEqProofs+decide only[go_sem,valC,Rt.T,rT,sW,t1,t2];rfl)) (by first|rfl|(simp-implicitDefEqProofs+decide only[go_sem,Rt.T,rT,sW,t1,t2];done)|(simp-implicitDefEqProofs+decide only[go_sem,Rt.T,rT,sW,t1,t2];rfl)) (fun l hp=>by cases l<;>first|rfl|cases hp) rfl
theorem copy_ok (s:Sc) (h:ScB 1000000000 s):Pure Tryz.prog 67 [s.T] [.t s.T]:=by
 have c:=copied_ok s.x h.1 h.2
 obtain⟨⟨n,p,q⟩,b,f⟩:=s
 simp only[Rt.T,rT,sW]at c
 refine Pure.J Tryz.func67 [.c 2 _] ?_
 simp-implicitDefEqProofs+decide only[go_sem,Sc.T_eq,sW]
 refine Goes.drawN mixed ?_
 refine Sm ?_
 refine CallD.PS _ Tryz.call122 c ?_
 refine Sm ?_
 refine⟨.mk (by kernel_rfl),?_⟩
 apply run_sound 200
 refine Sm ?_
 exact endC.one (.inr rfl) (by first|rfl|(simp-implicitDefEqProofs+decide only[go_sem,valC,Sc.T_eq,sW];done)|(simp-implicitDefEqProofs+decide only[go_sem,valC,Sc.T_eq,sW];rfl)) (by first|rfl|(simp-implicitDefEqProofs+decide only[go_sem,Sc.T_eq,sW];done)|(simp-implicitDefEqProofs+decide only[go_sem,Sc.T_eq,sW];rfl)) (fun l hp=>by cases l<;>first|rfl|cases hp) rfl
theorem equalI_ok (a b:List Int) (ha:a.length<1000000000):Pure Tryz.prog 237 [sI a,sI b] [.t (.bool (decide (a=b)))]:=by
 refine Pure.I Tryz.func237 [4] ?_
 refine SmJ ?_
 apply selP_dec<;>intro h1
 ·have:decide (a=b)=false:=decide_eq_false (fun e=>by subst e;exact h1 rfl)
  rw[this]
  refine Sm ?_
  exact endF.V1 4 (.bool false)
 have hl:a.length=b.length:=by omega
 refine Sm ?_
 refine Goes.loop (X:=Nat) (fun i=>⟨ofL [(0,tI a),(1,tI b),(12,.t (.int .i64 a.length)),(13,.t (.int .i64 i))],fun _=>none,0⟩) (fun i=>i≤a.length∧a.take i=b.take i) (fun i=>a.length-i) 0 ?_ (by simp) ?_
 ·exact(Wk.slots _ rfl rfl (by simp-implicitDefEqProofs+decide only[go_sem,tI,sI]) (by simp-implicitDefEqProofs+decide only[go_sem,tI,sI]))
 rintro i ⟨hi,he⟩ J hJ
 apply run_sound 200
 refine SmI ?_
 apply selP_dec<;>intro hc
 ·obtain⟨x,hx⟩:=getI (show i<a.length by omega)
  obtain⟨y,hy⟩:=getI (show i<b.length by omega)
  have hw:=wS (show i<1000000000000 by omega)
  refine Sm ?_
  refine Goes.drawN mixed ?_
  simp-implicitDefEqProofs+decide only[go_sem,tI,sI,I,hx,hy]
  refine⟨.mk (by kernel_rfl),?_⟩
  apply run_sound 200
  refine Sm ?_
  apply selP_dec<;>intro h2
  ·have:decide (a=b)=false:=decide_eq_false (fun e=>by subst e;rw[hx]at hy;cases hy;exact h2 rfl)
   rw[this]
   refine Sm ?_
   exact endF.V1 4 (.bool false)
  ·obtain rfl:x=y:=by simpa using h2
   simp-implicitDefEqProofs+decide only[go_sem,hw]
   refine hJ (i+1) _ ⟨by omega,by rw[take_snoc hx,take_snoc hy,he]⟩ (by omega) (Wk.slots _ rfl rfl (by simp-implicitDefEqProofs+decide only[go_sem,tI,sI,hw]) (by simp-implicitDefEqProofs+decide only[go_sem,tI,sI,hw]))
 ·have:decide (a=b)=true:=decide_eq_true (eq_take hl he (by omega))
  rw[this]
  refine Sm ?_
  exact endF.V1 4 (.bool true)
theorem sameI_ok (a b:List Int) (ha:a.length<1000000000):Pure Tryz.prog 180 [sI a,sI b] [.t (.bool (decide (a=b)))]:=by
 have c:=equalI_ok a b ha
 generalize decide (a=b)=v at*
 refine Pure.I Tryz.func180 [4] ?_
 refine Sm ?_
 refine CallG.P _ Tryz.call237 (c) ?_
 refine Sm ?_
 exact endF.one (.inr rfl) (by simp-implicitDefEqProofs+decide only[go_sem]) rfl (fun _ _=>rfl) rfl
theorem fits_ok (a b:List Int) (ha:a.length<1000000000) (hb:b.length<1000000000):Pure Tryz.prog 116 [sI a,sI b] [.t (.bool (decide (twoS a b=(b,0))))]:=by
 have hl:=twoS_length a b
 have c0:=fun e h he=>two_no a b ha hb (e:=e) h he
 have c1:=two_ok a b ha hb
 obtain⟨l,e,hle⟩:∃l e,twoS a b=(l,e):=⟨_,_,rfl⟩
 rw[hle]at hl c0 c1⊢
 unfold rankD at hl
 dsimp only at hl c0 c1
 by_cases he:e=0
 ·subst he
  have c1:=c1 rfl
  have c2:=sameI_ok l b (by omega)
  have:decide ((l,(0:Int))=(b,0))=decide (l=b):=decide_eq_decide.2 ⟨fun h=>(Prod.mk.inj h).1,fun h=>by rw[h]⟩
  rw[this]
  generalize decide (l=b)=v at*
  simp only[sI]at c2
  refine Pure.I Tryz.func116 [4] ?_
  refine SmJ ?_
  refine CallG.P _ Tryz.call107 (c1) ?_
  refine Sm ?_
  refine CallG.P _ Tryz.call180 (c2) ?_
  refine Sm ?_
  exact endF.one (.inr rfl) (by simp-implicitDefEqProofs+decide only[go_sem]) rfl (fun _ _=>rfl) rfl
 ·have c0:=c0 e rfl he
  have:decide ((l,e)=(b,0))=false:=decide_eq_false fun hh=>he (Prod.mk.inj hh).2
  rw[this]
  have d0:decide (e=0)=false:=decide_eq_false he
  refine Pure.I Tryz.func116 [4] ?_
  refine SmJ ?_
  refine CallG.PS _ Tryz.call107 (c0) ?_
  simp-implicitDefEqProofs+decide only[go_sem,d0]
  exact endF.one (.inr rfl) (by simp-implicitDefEqProofs+decide only[go_sem]) rfl (fun _ _=>rfl) rfl
def zerosL (f D:List Int) (o k:Nat):List Int:=(List.range D.length).map fun j=>if o≤j∧j-o<k∧f.getD (j-o) 0=1 then 0 else D.getD j 0
theorem zerosL_length (f D:List Int) (o k:Nat):(zerosL f D o k).length=D.length:=by simp[zerosL]
theorem zerosL_get {f D:List Int} {o k j:Nat} (h:j<D.length):(zerosL f D o k)[j]?=some (if o≤j∧j-o<k∧f.getD (j-o) 0=1 then 0 else D.getD j 0):=by simp[zerosL,h]
theorem zerosL_zero (f D:List Int) (o:Nat):zerosL f D o 0=D:=by
 apply List.ext_getElem?
 intro j
 rcases Nat.lt_or_ge j D.length with h|h
 ·rw[zerosL_get h,if_neg (by omega),List.getD_eq_getElem?_getD,List.getElem?_eq_getElem h];rfl
 ·rw[List.getElem?_eq_none h,List.getElem?_eq_none (by rw[zerosL_length];exact h)]
theorem zerosL_set {f D:List Int} {o k:Nat} (h:o+k<D.length) (hf:f.getD k 0=1):(zerosL f D o k).set (o+k) 0=zerosL f D o (k+1):=by
 apply List.ext_getElem?
 intro j
 rcases Nat.lt_or_ge j D.length with g|g
 ·rw[List.getElem?_set,zerosL_get g,zerosL_get g,zerosL_length]
  by_cases e:o+k=j
  ·subst e
   rw[if_pos rfl,if_pos g,if_pos ⟨by omega,by omega,by rw[show o+k-o=k by omega];exact hf⟩]
  ·rw[if_neg e]
   congr 1
   by_cases c:o≤j∧j-o<k∧f.getD (j-o) 0=1
   ·rw[if_pos c,if_pos ⟨c.1,by omega,c.2.2⟩]
   ·rw[if_neg c,if_neg (fun c'=>c ⟨c'.1,by omega,c'.2.2⟩)]
 ·rw[List.getElem?_eq_none (by simp[zerosL_length];exact g),List.getElem?_eq_none (by rw[zerosL_length];exact g)]
theorem zerosL_skip {f D:List Int} {o k:Nat} (hf:¬f.getD k 0=1):zerosL f D o k=zerosL f D o (k+1):=by
 unfold zerosL
 refine List.map_congr_left fun j _=> ?_
 by_cases c:o≤j∧j-o<k∧f.getD (j-o) 0=1
 ·rw[if_pos c,if_pos ⟨c.1,by omega,c.2.2⟩]
 ·rw[if_neg c,if_neg (fun c'=>by
    rcases Nat.lt_or_ge (j-o) k with g|g
    ·exact c ⟨c'.1,g,c'.2.2⟩
    · have : j - o = k := by omega
      rw[this]at c'
      exact hf c'.2.2)]
theorem zerosL_src {f t:List Int} {n:Int} (h:f.length≤t.length):(zerosL f (digL t n) (t.length-f.length) f.length).drop (t.length-f.length)=srcS f t n:=by
 apply List.ext_getElem?
 intro k
 rw[List.getElem?_drop]
 rcases Nat.lt_or_ge k f.length with g|g
 ·obtain⟨x,hx⟩:=getI g
  obtain⟨y,hy⟩:=getI (show t.length-f.length+k<(digL t n).length by rw[digL_length];omega)
  rw[zerosL_get (by rw[digL_length];omega),srcS_get hx hy,getD_of hy,show t.length-f.length+k-(t.length-f.length)=k by omega,getD_of hx]
  by_cases e:x=1
  ·rw[if_pos ⟨by omega,g,e⟩,if_pos e]
  ·rw[if_neg (fun c=>e c.2.2),if_neg e]
 ·rw[List.getElem?_eq_none (by rw[zerosL_length,digL_length];omega),List.getElem?_eq_none (by rw[srcS_length];exact g)]
theorem sourceP_ok (f t:List Int) (n:Int) (h:twoS f t=(t,0)) (hn:0≤n∧n<cnt t):Pure Tryz.prog 65 [sI f,sI t,.int .i64 n] [.t (.int .i64 (srcN f t n)),.t (.bool true)]:=by
 have F:=twoS_fit h
 have lf:=(chk0 F.cf).1
 have lt:=(chk0 F.ct).1
 have hfl:=F.l
 have c1:=at_own t n (by omega) hn
 have c2:=fits_ok f t (by omega) (by omega)
 rw[decide_eq_true h]at c2
 have c3:=place_ok f (srcS f t n) (srcS_in F)
 have hdl:=digL_length t n
 have hsrc:=zerosL_src (n:=n) hfl
 obtain⟨o,ho⟩:∃o,t.length-f.length=o:=⟨_,rfl⟩
 have wo:IntKind.wrap .i64 ((t.length:Int)-f.length)=(o:Int):=by rw[w64]<;>omega
 rw[ho]at hsrc
 have hole:o≤t.length:=by omega
 have hto:t.length-o=f.length:=by omega
 unfold srcN
 obtain⟨D,hD⟩:∃D,digL t n=D:=⟨_,rfl⟩
 rw[hD]at c1 hdl hsrc
 obtain⟨sr,hsr⟩:∃s,srcS f t n=s:=⟨_,rfl⟩
 rw[hsr]at c3 hsrc⊢
 simp only[sI]at c1 c2 c3
 refine Pure.I Tryz.func65 [6,7] ?_
 refine SmJ ?_
 refine CallG.pureAd _ 15 Tryz.call108 c1 (by first|rfl|(simp only[go_sem];done)|(simp only[go_sem];rfl)) (by simp only[List.all_cons,flatRC_ownI];rfl) (fun j size es _=>by cases j<;>rfl) ?_
 apply run_sound 200
 refine Sm ?_
 refine CallG.P _ Tryz.call116 (c2) ?_
 simp-implicitDefEqProofs+decide only[go_sem,hdl,List.length_map,wo,hole,hto,Int.toNat_natCast]
 have hz0:=zerosL_zero f D o
 refine Goes.loop (X:=Nat) (fun k=>⟨ofL [(0,tI f),(8,.sl (.loc 15 0) 0 o f.length),(33,tI f),(34,.t (.int .i64 f.length)),(35,.t (.int .i64 k))],ofH (fun _=>none) [(.loc 15 0,.arr 1 ((zerosL f D o k).map I) 0 0)],0⟩) (fun k=>k≤f.length) (fun k=>f.length-k) 0 ?_ (by omega) ?_
 ·exact(Wk.rows _ _ (fun _ _=>rfl) rfl rfl (by simp-implicitDefEqProofs+decide only[go_sem,ofH,tW,sW,hz0]<;>first|rfl|exact⟨rfl,rfl⟩|skip) (fun l hp=>by cases l<;>first|rfl|cases hp) (by simp-implicitDefEqProofs+decide only[go_sem,tI,sI,tW,sW,hz0]<;>first|rfl|skip) (by simp-implicitDefEqProofs+decide only[go_sem,tI,sI,tW,sW]))
 rintro k hk J hJ
 apply run_sound 200
 refine SmI ?_
 have hzl:=zerosL_length f D o k
 apply selP_dec<;>intro hc
 ·obtain⟨x,hx⟩:=getI (show k<f.length by omega)
  have hgd:=getD_of hx
  have hw:=wS (show k<1000000000000 by omega)
  have hkl:k<f.length:=by omega
  simp-implicitDefEqProofs+decide only[go_sem,hx,I]
  apply selP_dec<;>intro h1
  ·obtain⟨z,hz⟩:∃z,((zerosL f D o k).map I)[o+k]?=some z:=getI (by rw[List.length_map,hzl];omega)
   have hst:((zerosL f D o k).map I).set (o+k) (.int .i64 0)=(zerosL f D o (k+1)).map I:=by
    rw[←zerosL_set (by omega) (by rw[hgd];exact h1),List.map_set];rfl
   simp-implicitDefEqProofs+decide only[go_sem,ofH,hkl,hz,hst,hw]
   refine hJ (k+1) _ (by omega) (by omega) (Wk.rows _ _ (fun _ _=>rfl) rfl rfl (by simp-implicitDefEqProofs+decide only[go_sem,ofH,tW,sW]<;>first|rfl|exact⟨rfl,rfl⟩|skip) (fun l hp=>by cases l<;>first|rfl|cases hp) (by simp-implicitDefEqProofs+decide only[go_sem,tI,sI,tW,sW]<;>first|rfl|skip) (by simp-implicitDefEqProofs+decide only[go_sem,tI,sI,tW,sW]))
  ·have hsk:=zerosL_skip (f:=f) (D:=D) (o:=o) (k:=k) (by rw[hgd];exact h1)
   simp-implicitDefEqProofs+decide only[go_sem,ofH,hw]
   refine hJ (k+1) _ (by omega) (by omega) (Wk.rows _ _ (fun _ _=>rfl) rfl rfl (by simp-implicitDefEqProofs+decide only[go_sem,ofH,tW,sW,hsk]<;>first|rfl|exact⟨rfl,rfl⟩|skip) (fun l hp=>by cases l<;>first|rfl|cases hp) (by simp-implicitDefEqProofs+decide only[go_sem,tI,sI,tW,sW,hsk]<;>first|rfl|skip) (by simp-implicitDefEqProofs+decide only[go_sem,tI,sI,tW,sW]))
 ·obtain rfl:k=f.length:=by omega
  have htk:List.take f.length (List.drop o ((zerosL f D o f.length).map I))=sr.map I:=by
   rw[←List.map_drop,hsrc,List.take_of_length_le (by rw[List.length_map,←hsr,srcS_length];exact Nat.le_refl _)]
  simp-implicitDefEqProofs+decide only[go_sem,ofH,htk]
  refine CallG.P _ Tryz.call121 (c3) ?_
  refine Sm ?_
  exact endF.V [(6,.int .i64 (placeI f sr)),(7,.bool true)] (vals_t (by simp-implicitDefEqProofs+decide only[go_sem]<;>rfl) rfl (vals_t (by simp-implicitDefEqProofs+decide only[go_sem]<;>rfl) rfl vals_nil))
structure Atr where
 n:Int
 a:Int
 b:Int
 c:Int
 p:Int
 q:Int
 r:Int
 s:Int
 keep:Bool
 list:List Int
def Atr.T (x:Atr):T:=.agg [I x.n,I x.a,I x.b,I x.c,I x.p,I x.q,I x.r,I x.s,.bool x.keep,sI x.list]
noncomputable def wchk (to frm:Ag):Int:=if chk to.d≠0 then chk to.d else if (to.v.length:Int)≠cnt to.d then 1 else if chk frm.d≠0 then chk frm.d else if (frm.v.length:Int)≠cnt frm.d then 1 else if twoS frm.d to.d≠(to.d,0) then 8 else 0
structure Grp (mk:List Bool) (d:List Int):Prop where
 c:chk d=0
 l:mk.length=d.length
section
variable {mk:List Bool} {d:List Int} (G:Grp mk d)
include G
end
def axesI (op:Int) (x:Atr):List Int:=if op=27∨op=28 then x.list else [x.n]
def axP (r:Nat) (ax:List Int) (i:Nat):Prop:=∀(j:Nat) (a:Int),j<i→ax[j]?=some a→(0≤a∧a<r)∧a∉ax.take j
def mkB (ax:List Int) (j:Nat):Bool:=decide (ax.length=0)||decide ((j:Int)∈ax)
def marksI (r:Nat) (ax:List Int):List Bool:=(List.range r).map (mkB ax)
def dropL (mk:List Bool) (d:List Int) (keep:Bool):List Int:=(d.zip mk).flatMap fun p=>if p.2=true then (if keep=true then [1] else []) else [p.1]
open Classical in
noncomputable def dropE (d ax:List Int) (keep:Bool):List Int×Int:=if chk d≠0 then ([],chk d) else if axP d.length ax ax.length then (dropL (marksI d.length ax) d keep,0) else ([],10)
def redB (op:Int):Bool:=decide (27≤op)&&decide (op≤31)
noncomputable def redE (op:Int) (x:Atr) (d:List Int):List Int×Int:=if redB op=true then dropE d (axesI op x) x.keep else ([],14)
end Go.Fm
