/- Scalars: alike; lists of them. -/
import Derived.Test.YteodjhhobkcnjaaGreatHcC
import Derived.Test.YteodjhhobkcnjaaGreatHcD
import Derived.Test.YteodjhhobkcnjaaGreatHcB
set_option linter.unusedVariables false
set_option linter.unusedSimpArgs false
namespace Go.Fm
open Go.Proofs
set_option maxRecDepth 100000
attribute [local irreducible] tiOf
structure Sc where
 x:Rt
 b:Nat
 f:Int
 deriving DecidableEq
def Sc.T (s:Sc):T:=.agg [.bool s.x.neg,sW s.x.p,sW s.x.q,.int .u64 s.b,.int .i64 s.f]
theorem Sc.T_eq (n:Bool) (p q:List Nat) (b:Nat) (f:Int):Sc.T ⟨⟨n,p,q⟩,b,f⟩=.agg [.bool n,sW p,sW q,.int .u64 b,.int .i64 f]:=rfl
theorem noPtr_Sc (s:Sc):noPtr s.T=true:=by
 simp only[Sc.T,noPtr,noPtrL,Bool.and_true,Bool.true_and]
 rw[noPtr_sW,noPtr_sW];rfl
theorem noPtr_ScU (n:Bool) (p q:List Nat) (b f:Int):noPtr (.agg [.bool n,.slice (p.map U),.slice (q.map U),.int .u64 b,.int .i64 f])=true:=by
 have h1:noPtrL (p.map U)=true:=by have:=noPtr_sW p;simpa only[sW,noPtr] using this
 have h2:noPtrL (q.map U)=true:=by have:=noPtr_sW q;simpa only[sW,noPtr] using this
 simp only[noPtr,noPtrL,Bool.and_true,Bool.true_and,h1,h2]
theorem noPtr_ScW (n:Bool) (p q:List Nat) (b f:Int):noPtr (.agg [.bool n,sW p,sW q,.int .u64 b,.int .i64 f])=true:=noPtr_ScU n p q b f
def sS (l:List Sc):T:=.slice (l.map Sc.T)
theorem noPtr_sS (l:List Sc):noPtr (sS l)=true:=by
 have:∀l:List Sc,noPtrL (l.map Sc.T)=true:=fun l=>by
  induction l with
  |nil=>rfl
  |cons x r ih=>rw[List.map_cons,noPtrL,ih,noPtr_Sc];rfl
 unfold sS;rw[noPtr,this]
theorem noPtr_sSU (l:List Sc):noPtr (.slice (l.map Sc.T))=true:=noPtr_sS l
attribute [go_sem] noPtr_Sc noPtr_ScU noPtr_ScW noPtr_sS noPtr_sSU
theorem noPtrL_U (l:List Nat):noPtrL (l.map U)=true:=by have:=noPtr_sW l;simpa only[sW,noPtr] using this
theorem noPtrL_I (l:List Int):noPtrL (l.map I)=true:=by have:=noPtr_sI l;simpa only[sI,noPtr] using this
theorem noPtr_vT (r:Rat):noPtr (vT r)=true:=noPtr_ScW _ _ _ 0 0
theorem noPtrL_vT (l:List Rat):noPtrL (l.map vT)=true:=by
 induction l with
 |nil=>rfl
 |cons x r ih=>rw[List.map_cons,noPtrL,ih,noPtr_vT];rfl
theorem noPtr_sV (l:List Rat):noPtr (sV l)=true:=by unfold sV;rw[noPtr,noPtrL_vT]
def scR (r:Rat):Sc:=⟨qR r,0,0⟩
def ScB (n:Nat) (s:Sc):Prop:=s.x.p.length<n∧s.x.q.length<n
theorem rSameV_ok (s t:Sc) (hs:ScB 1000000000 s) (ht:ScB 1000000000 t):Pure Tryz.prog 27 [s.T,t.T] [.t (.bool (decide (s=t)))]:=by
 obtain⟨x,b,f⟩:=s
 obtain⟨y,c,g⟩:=t
 have c1:=rSame_ok x y hs.1 hs.2 ht.1 ht.2
 obtain⟨n,p,q⟩:=x
 obtain⟨n',p',q'⟩:=y
 simp only[Rt.T,rT]at c1
 have hb:decide ((b:Int)=(c:Int))=decide (b=c):=decide_eq_decide.2 (by omega)
 refine Pure.I Tryz.func27 [4] ?_
 simp-implicitDefEqProofs+decide only[go_sem,Sc.T_eq,sW,hb]
 apply selP_dec<;>intro h1
 ·subst h1
  refine Sm ?_
  apply selP_dec<;>intro h2
  ·subst h2
   simp only[sW]at c1
   refine Sm ?_
   refine CallG.P _ Tryz.call80 (c1) ?_
   refine Sm ?_
   have e:decide ((Sc.mk ⟨n,p,q⟩ b f)=⟨⟨n',p',q'⟩,b,f⟩)=decide (Rt.mk n p q=⟨n',p',q'⟩):=decide_eq_decide.2 (by simp)
   rw[e]
   exact endF.V1 4 (.bool (decide (Rt.mk n p q=⟨n',p',q'⟩)))
  ·have e:decide ((Sc.mk ⟨n,p,q⟩ b f)=⟨⟨n',p',q'⟩,b,g⟩)=false:=decide_eq_false fun h=>h2 (congrArg Sc.f h)
   rw[e]
   simp-implicitDefEqProofs+decide only[go_sem,h2]
   exact endF.V1 4 (.bool false)
 ·have e:decide ((Sc.mk ⟨n,p,q⟩ b f)=⟨⟨n',p',q'⟩,c,g⟩)=false:=decide_eq_false fun h=>h1 (congrArg Sc.b h)
  rw[e]
  simp-implicitDefEqProofs+decide only[go_sem,h1]
  exact endF.V1 4 (.bool false)
theorem eq_take {α:Type} {a b:List α} {i:Nat} (hl:a.length=b.length) (he:a.take i=b.take i) (hi:a.length≤i):a=b:=by
 rw[←List.take_of_length_le (l:=a) (i:=i) hi,he,List.take_of_length_le (by omega)]
end Go.Fm
namespace Go.Fm
open Go.Proofs
set_option maxRecDepth 100000
theorem chk_nil:chk []=0:=by decide
theorem twoS_nil:twoS [] []=([],0):=by
 have hn:¬clash [] []:=by rintro ⟨k,h1,h2,_⟩;simp[rankD]at h2;omega
 rw[twoS_eq chk_nil chk_nil,if_neg hn]
 have:spr [] []=[]:=rfl
 rw[this,if_neg (by rw[chk_nil];simp)]
end Go.Fm
namespace Go.Fm
open Go.Proofs
set_option maxRecDepth 100000
attribute [local irreducible] tiOf
def longB (k:Nat) (x:Rt):Bool:=decide (k<x.p.length)||decide (k<x.q.length)
theorem plong_ok (x:Rt) (k:Nat) (hk:k<1000000000):Pure Tryz.prog 95 [x.T,.int .i64 k] [.t (.bool (longB k x))]:=by
 obtain⟨n,p,q⟩:=x
 have h1:decide ((p.length:Int)>(k:Int))=decide (k<p.length):=decide_eq_decide.2 (by omega)
 have h2:decide ((q.length:Int)>(k:Int))=decide (k<q.length):=decide_eq_decide.2 (by omega)
 refine Pure.I Tryz.func95 [4] ?_
 simp-implicitDefEqProofs+decide only[go_sem,Rt.T,rT,sW,h1,h2]
 apply selP_dec<;>intro h
 ·have e:longB k ⟨n,p,q⟩=true:=by unfold longB;rw[decide_eq_true h];rfl
  rw[e]
  refine Sm ?_
  exact endF.V1 4 (.bool true)
 ·have e:longB k ⟨n,p,q⟩=decide (k<q.length):=by unfold longB;rw[decide_eq_false h];rfl
  rw[e]
  simp-implicitDefEqProofs+decide only[go_sem,h2]
  exact endF.V1 4 (.bool (decide (k<q.length)))
def wideB (k:Nat) (l:List Sc):Bool:=l.any fun s=>longB k s.x
theorem any_take {α:Type} {f:α→Bool} {l:List α} {i:Nat} {x:α} (hx:l[i]?=some x) (h:(l.take i).any f=false) (hf:f x=false):(l.take (i+1)).any f=false:=by
 rw[List.take_add_one,hx,List.any_append,h];simp[hf]
theorem any_mem {α:Type} {f:α→Bool} {l:List α} {i:Nat} {x:α} (hx:l[i]?=some x) (hf:f x=true):l.any f=true:=List.any_eq_true.2 ⟨x,List.mem_of_getElem? hx,hf⟩
theorem any_done {α:Type} {f:α→Bool} {l:List α} {i:Nat} (h:(l.take i).any f=false) (hi:l.length≤i):l.any f=false:=by rw[←List.take_of_length_le (l:=l) (i:=i) hi];exact h
theorem all_take {α:Type} {f:α→Bool} {l:List α} {i:Nat} {x:α} (hx:l[i]?=some x) (h:(l.take i).all f=true) (hf:f x=true):(l.take (i+1)).all f=true:=by
 rw[List.take_add_one,hx,List.all_append,h];simp[hf]
theorem all_mem {α:Type} {f:α→Bool} {l:List α} {i:Nat} {x:α} (hx:l[i]?=some x) (hf:f x=false):l.all f=false:=by
 cases h:l.all f with
 |false=>rfl
 |true=>rw[List.all_eq_true.1 h x (List.mem_of_getElem? hx)]at hf;cases hf
theorem all_done {α:Type} {f:α→Bool} {l:List α} {i:Nat} (h:(l.take i).all f=true) (hi:l.length≤i):l.all f=true:=by rw[←List.take_of_length_le (l:=l) (i:=i) hi];exact h
theorem wide_ok (l:List Sc) (k:Nat) (hk:k<1000000000) (hl:l.length<1000000000):Pure Tryz.prog 41 [sS l,.int .i64 k] [.t (.bool (wideB k l))]:=by
 refine Pure.I Tryz.func41 [4] ?_
 simp-implicitDefEqProofs+decide only[go_sem,sS,List.length_map]
 refine Goes.loop (X:=Nat) (fun i=>⟨ofL [(0,.t (sS l)),(1,.t (.int .i64 k)),(7,.t (.int .i64 l.length)),(8,.t (.int .i64 i))],fun _=>none,0⟩) (fun i=>i≤l.length∧(l.take i).any (fun s=>longB k s.x)=false) (fun i=>l.length-i) 0 (Wk.slots _ rfl rfl (by simp-implicitDefEqProofs+decide only[go_sem,sS]) (by simp-implicitDefEqProofs+decide only[go_sem,sS])) (by simp) ?_
 rintro i ⟨hi,he⟩ J hJ
 apply run_sound 200
 simp-implicitDefEqProofs+decide only[go_sem,sS]
 apply selP_dec<;>intro hc
 ·obtain⟨s,hs⟩:=getI (show i<l.length by omega)
  have c:=plong_ok s.x k hk
  obtain⟨b,hb⟩:∃b,longB k s.x=b:=⟨_,rfl⟩
  have hw:=wS (show i<1000000000000 by omega)
  simp only[Rt.T,rT]at c
  rw[hb]at c
  simp-implicitDefEqProofs+decide only[go_sem,hs,Sc.T,sW]
  simp only[sW]at c
  refine CallG.P _ Tryz.call95 (c) ?_
  refine Sm ?_
  cases b
  ·simp-implicitDefEqProofs+decide only[go_sem,hw]
   refine hJ (i+1) _ ⟨by omega,any_take hs he hb⟩ (by omega) (Wk.slots _ rfl rfl (by simp-implicitDefEqProofs+decide only[go_sem,sS,hw]) (by simp-implicitDefEqProofs+decide only[go_sem,sS,hw]))
  ·have e:wideB k l=true:=any_mem hs hb
   rw[e]
   refine Sm ?_
   exact endF.V1 4 (.bool true)
 ·have e:wideB k l=false:=any_done he (by omega)
  rw[e]
  refine Sm ?_
  exact endF.V1 4 (.bool false)
structure Ag where
 d:List Int
 v:List Sc
def Ag.T (a:Ag):T:=.agg [sI a.d,sS a.v]
theorem noPtr_Ag (a:Ag):noPtr a.T=true:=by
 simp only[Ag.T,noPtr,noPtrL,Bool.and_true,noPtr_sI,noPtr_sS]
def sA (l:List Ag):T:=.slice (l.map Ag.T)
theorem noPtr_sA (l:List Ag):noPtr (sA l)=true:=by
 have:∀l:List Ag,noPtrL (l.map Ag.T)=true:=fun l=>by
  induction l with
  |nil=>rfl
  |cons x r ih=>rw[List.map_cons,noPtrL,ih,noPtr_Ag];rfl
 unfold sA;rw[noPtr,this]
theorem noPtr_sAU (l:List Ag):noPtr (.slice (l.map Ag.T))=true:=noPtr_sA l
attribute [go_sem] noPtr_Ag noPtr_sA noPtr_sAU
def agB (a:Ag):Bool:=decide (20<a.d.length)||decide (100<a.v.length)||wideB 9 a.v
def argsB (l:List Ag):Bool:=l.any agB||decide (6<l.length)
theorem args_ok (l:List Ag) (hl:l.length<9000000000000000000):Pure Tryz.prog 51 [sA l] [.t (.bool (argsB l))]:=by
 refine Pure.I Tryz.func51 [2] ?_
 simp-implicitDefEqProofs+decide only[go_sem,sA,List.length_map]
 refine Goes.loop (X:=Nat) (fun i=>⟨ofL [(0,.t (sA l)),(5,.t (.int .i64 l.length)),(6,.t (.int .i64 i))],fun _=>none,0⟩) (fun i=>i≤l.length∧(l.take i).any agB=false) (fun i=>l.length-i) 0 (Wk.slots _ rfl rfl (by simp-implicitDefEqProofs+decide only[go_sem,sA]) (by simp-implicitDefEqProofs+decide only[go_sem,sA])) (by simp) ?_
 rintro i ⟨hi,he⟩ J hJ
 apply run_sound 200
 simp-implicitDefEqProofs+decide only[go_sem,sA]
 apply selP_dec<;>intro hc
 ·obtain⟨a,ha⟩:=getI (show i<l.length by omega)
  have hw:IntKind.wrap .i64 ((i:Int)+1)=((i+1:Nat):Int):=by rw[w64]<;>omega
  have h1:decide ((a.d.length:Int)>20)=decide (20<a.d.length):=decide_eq_decide.2 (by omega)
  have h2:decide ((a.v.length:Int)>100)=decide (100<a.v.length):=decide_eq_decide.2 (by omega)
  have hend:∀(h:agB a=true),argsB l=true:=fun h=>by unfold argsB;rw[any_mem ha h];rfl
  simp-implicitDefEqProofs+decide only[go_sem,ha,Ag.T,sI,sS,List.length_map,h1,h2]
  apply selP_dec<;>intro k1
  ·rw[hend (by unfold agB;rw[decide_eq_true k1];rfl)]
   refine Sm ?_
   exact endF.V1 2 (.bool true)
  ·simp-implicitDefEqProofs+decide only[go_sem,ha,Ag.T,sI,sS,List.length_map,h1,h2]
   apply selP_dec<;>intro k2
   ·rw[hend (by unfold agB;rw[decide_eq_true k2];simp)]
    refine Sm ?_
    exact endF.V1 2 (.bool true)
   ·have c:=wide_ok a.v 9 (by decide) (by omega)
    obtain⟨b,hb⟩:∃b,wideB 9 a.v=b:=⟨_,rfl⟩
    rw[hb]at c
    have c:Pure Tryz.prog 41 [sS a.v,.int .i64 9] [.t (.bool b)]:=c
    simp only[sS]at c
    simp-implicitDefEqProofs+decide only[go_sem,ha,Ag.T,sI,sS]
    refine CallG.P _ Tryz.call41 (c) ?_
    refine Sm ?_
    cases b
    ·simp-implicitDefEqProofs+decide only[go_sem,hw]
     refine hJ (i+1) _ ⟨by omega,any_take ha he (by unfold agB;rw[decide_eq_false k1,decide_eq_false k2,hb];rfl)⟩ (by omega) (Wk.slots _ rfl rfl (by simp-implicitDefEqProofs+decide only[go_sem,sA,hw]) (by simp-implicitDefEqProofs+decide only[go_sem,sA,hw]))
    ·rw[hend (by unfold agB;rw[hb];simp)]
     refine Sm ?_
     exact endF.V1 2 (.bool true)
 ·have e:argsB l=decide (6<l.length):=by unfold argsB;rw[any_done he (by omega)];rfl
  have h1:decide ((l.length:Int)>6)=decide (6<l.length):=decide_eq_decide.2 (by omega)
  rw[e]
  simp-implicitDefEqProofs+decide only[go_sem,h1]
  exact endF.V1 2 (.bool (decide (6<l.length)))
end Go.Fm
namespace Go.Fm
open Go.Proofs
set_option maxRecDepth 100000
theorem tz_mono {a b:Nat} (h:a ∣b) (hb:b≠0):tz a≤tz b:=by
 obtain⟨c,rfl⟩:=h
 have ha:a≠0:=fun e=>hb (by rw[e,Nat.zero_mul])
 have hc:c≠0:=fun e=>hb (by rw[e,Nat.mul_zero])
 rw[tz_mul ha hc];omega
theorem ZB_mul {r s:Rat} {a b:Nat} (hr:ZB r a) (hs:ZB s b):ZB (r*s) (a+b):=by
 unfold ZB at*
 have h:(r*s).den ∣r.den*s.den:=by rw[Rat.den_mul];exact Nat.div_dvd_of_dvd (Nat.gcd_dvd_right _ _)
 have:=tz_mono h (Nat.mul_ne_zero r.den_nz s.den_nz)
 rw[tz_mul r.den_nz s.den_nz]at this
 omega
theorem ZB_of {r:Rat} {k:Nat} (h:QB r k):ZB r (64*k):=by
 unfold ZB
 have h1:=nv_words_lt r.den
 have:=tz_le (k:=64*k) r.den_nz (by rw[Nat.pow_mul];exact Nat.lt_of_lt_of_le h1 (Nat.pow_le_pow_right (by decide) h.d))
 omega
theorem ZB.mono {r:Rat} {a b:Nat} (h:ZB r a) (hab:a≤b):ZB r b:=Nat.le_trans h hab
end Go.Fm
namespace Go.Fm
open Go.Proofs
set_option maxRecDepth 100000
attribute [local irreducible] tiOf
def rightB (s:Sc):Bool:=decide (s.b=0)&&(decide (s.f=0)&&rtR s.x)
structure SOK (s:Sc) (k:Nat):Prop where
 p:WOK s.x.p
 q:WOK s.x.q
 lp:s.x.p.length≤k
 lq:s.x.q.length≤k
theorem rRightV_ok (s:Sc) (h:SOK s 1000):Pure Tryz.prog 96 [.int .i64 0,s.T] [.t (.bool (rightB s))]:=by
 have c1:=rSame_ok s.x ⟨false,[],[]⟩ (by have:=h.lp;omega) (by have:=h.lq;omega) (by simp) (by simp)
 have c2:=rRight07_ok s.x h.p h.q h.lp h.lq
 obtain⟨b1,hb1⟩:∃b,decide (s.x=⟨false,[],[]⟩)=b:=⟨_,rfl⟩
 rw[hb1]at c1
 unfold rightB
 have e:rtR s.x=rightM s.x.neg s.x.p s.x.q:=rfl
 rw[e]
 obtain⟨b2,hb2⟩:∃b,rightM s.x.neg s.x.p s.x.q=b:=⟨_,rfl⟩
 rw[hb2]at c2⊢
 obtain⟨⟨n,p,q⟩,b,f⟩:=s
 simp only[Rt.T,rT]at c1 c2
 have d1:decide ((b:Int)=0)=decide (b=0):=decide_eq_decide.2 (by omega)
 clear hb1 hb2 e h
 dsimp only
 obtain⟨v,hv⟩:∃v,(decide (b=0)&&(decide (f=0)&&b2))=v:=⟨_,rfl⟩
 rw[hv]
 refine Pure.I Tryz.func96 [4] ?_
 simp-implicitDefEqProofs+decide only[go_sem,Sc.T_eq,sW]
 simp only[sW]at c1 c2
 refine CallG.P _ Tryz.call80 (c1) ?_
 simp-implicitDefEqProofs+decide only[go_sem,d1]
 apply selP_dec<;>intro h1
 ·subst h1
  refine Sm ?_
  apply selP_dec<;>intro h2
  ·subst h2
   refine Sm ?_
   refine CallG.P _ Tryz.call156 (c2) ?_
   obtain rfl:v=b2:=by rw[←hv];simp
   refine Sm ?_
   exact endF.V1 4 (.bool v)
  ·obtain rfl:v=false:=by rw[←hv,decide_eq_false h2];rfl
   simp-implicitDefEqProofs+decide only[go_sem,h2]
   exact endF.V1 4 (.bool false)
 ·obtain rfl:v=false:=by rw[←hv,decide_eq_false h1];rfl
  simp-implicitDefEqProofs+decide only[go_sem,h1]
  exact endF.V1 4 (.bool false)
theorem right_scR {s:Sc} (hp:WOK s.x.p) (hq:WOK s.x.q) (h:rightB s=true):∃r,s=scR r:=by
 unfold rightB at h
 simp only[Bool.and_eq_true,decide_eq_true_eq]at h
 obtain⟨h1,h2,h3⟩:=h
 obtain⟨r,hr⟩:=right_qR hp hq h3
 obtain⟨x,b,f⟩:=s
 dsimp only at h1 h2 hr
 subst h1 h2 hr
 exact⟨r,rfl⟩
theorem wide_SOK {l:List Sc} {k:Nat} (h:wideB k l=false) (hw:∀s∈l,WOK s.x.p∧WOK s.x.q):∀s∈l,SOK s k:=by
 intro s hs
 unfold wideB at h
 rw[List.any_eq_false]at h
 have:=h s hs
 unfold longB at this
 simp only[Bool.or_eq_true,decide_eq_true_eq,not_or]at this
 exact⟨(hw s hs).1,(hw s hs).2,Nat.le_of_not_lt this.1,Nat.le_of_not_lt this.2⟩
theorem wfU {z:Int} (h:(Lit.int .u64 z).wf=true):∃n:Nat,n<18446744073709551616∧z=n:=by
 simp[Lit.wf,IntKind.min,IntKind.max,IntKind.signed,IntKind.bits]at h
 exact⟨z.toNat,by omega,by omega⟩
theorem dat1 {n:Nat} {t:TypeId} {a:T} (hm:mkT Tryz.prog t [a]=a) (h:Typed Tryz.prog n t [a]):Dat Tryz.prog n t a:=⟨[a],h,hm.symm⟩
theorem dat_int {n:Nat} {x:T} (h:Dat Tryz.prog (n+1) 3 x):∃z:Int,(-9223372036854775808≤z∧z≤9223372036854775807)∧x=I z:=by
 obtain⟨z,hz,rfl⟩:=Dat.int Tryz.underlying3 h
 exact⟨z,wf64 hz,rfl⟩
theorem dat_ints {n:Nat} {x:T} (h:Dat Tryz.prog (n+2) 22 x):∃l:List Int,(l.length*8≤reachBytes∧∀z∈l,-9223372036854775808≤z∧z≤9223372036854775807)∧x=sI l:=by
 obtain⟨l,hl,rfl⟩:=Dat.slice (f:=I) (Q:=fun z=> -9223372036854775808≤z∧z≤9223372036854775807) Tryz.underlying22 (fun x hx=>dat_int hx) h
 rw[show(Tryz.prog).bytesOf 3=8 by kernel_rfl]at hl
 exact⟨l,hl,rfl⟩
theorem dat_words {n:Nat} {x:T} (h:Dat Tryz.prog (n+2) 63 x):∃p:List Nat,WOK p∧x=sW p:=by
 obtain⟨l,⟨_,hl⟩,rfl⟩:=Dat.slice (f:=U) (Q:=fun k=>k<18446744073709551616) Tryz.underlying63 (fun x hx=>by
   obtain⟨z,hz,rfl⟩:=Dat.int Tryz.underlying66 hx
   obtain⟨k,hk,rfl⟩:=wfU hz
   exact⟨k,hk,rfl⟩) h
 exact⟨l,hl,rfl⟩
theorem dat_rat {n:Nat} {a b c:T} (h:Typed Tryz.prog (n+3) 65 [a,b,c]):∃r:Rt,(WOK r.p∧WOK r.q)∧a=.bool r.neg∧b=sW r.p∧c=sW r.q:=by
 simp only[Typed,Tryz.underlying65]at h
 obtain⟨_,hf⟩:=h
 simp only[List.forall_mem_cons]at hf
 obtain⟨h0,h1,h2,_⟩:=hf
 have c4:(Tryz.prog).cellsOf 4=1:=by kernel_rfl
 have c43:(Tryz.prog).cellsOf 63=1:=by kernel_rfl
 rw[c4]at h0
 rw[c43]at h1 h2
 obtain⟨z,hz⟩:=Dat.bool Tryz.underlying4 (dat1 (n:=n+2) (t:=4) (a:=a) (by simp[mkT,Tryz.underlying4]) h0)
 obtain⟨p,hp,hpe⟩:=dat_words (dat1 (n:=n+2) (t:=63) (a:=b) (by simp[mkT,Tryz.underlying63]) h1)
 obtain⟨q,hq,hqe⟩:=dat_words (dat1 (n:=n+2) (t:=63) (a:=c) (by simp[mkT,Tryz.underlying63]) h2)
 exact⟨⟨z,p,q⟩,⟨hp,hq⟩,hz,hpe,hqe⟩
def ScW (s:Sc):Prop:=WOK s.x.p∧WOK s.x.q
theorem dat_val {n:Nat} {x:T} (h:Dat Tryz.prog (n+4) 68 x):∃s:Sc,(ScW s∧s.b<18446744073709551616)∧x=s.T:=by
 obtain⟨ts,h,rfl⟩:=h
 simp only[Typed,Tryz.underlying68]at h
 obtain⟨hl,hf⟩:=h
 rw[show(Tryz.prog).cellsOf 68=5 by kernel_rfl]at hl
 match ts,hl with
 | [a, b, c, d, e], _ =>
   simp only[List.forall_mem_cons]at hf
   obtain⟨h0,h1,h2,_⟩:=hf
   rw[show(Tryz.prog).cellsOf 65=3 by kernel_rfl]at h0
   rw[show(Tryz.prog).cellsOf 66=1 by kernel_rfl]at h1
   rw[show(Tryz.prog).cellsOf 3=1 by kernel_rfl]at h2
   obtain⟨r,hr,rfl,rfl,rfl⟩:=dat_rat (n:=n) (a:=a) (b:=b) (c:=c) h0
   obtain⟨z,hz,rfl⟩:=Dat.int Tryz.underlying66 (dat1 (n:=n+3) (t:=66) (a:=d) (by simp[mkT,Tryz.underlying66]) h1)
   obtain⟨k,hk,rfl⟩:=wfU hz
   obtain⟨f,_,rfl⟩:=Dat.int Tryz.underlying3 (dat1 (n:=n+3) (t:=3) (a:=e) (by simp[mkT,Tryz.underlying3]) h2)
   exact⟨⟨r,k,f⟩,⟨hr,hk⟩,by simp[mkT,Tryz.underlying68,Sc.T]⟩
theorem dat_vals {n:Nat} {x:T} (h:Dat Tryz.prog (n+5) 23 x):∃l:List Sc,(l.length*72≤reachBytes∧∀s∈l,ScW s∧s.b<18446744073709551616)∧x=sS l:=by
 obtain⟨l,hl,rfl⟩:=Dat.slice (f:=Sc.T) (Q:=fun s=>ScW s∧s.b<18446744073709551616) Tryz.underlying23 (fun x hx=>dat_val hx) h
 rw[show(Tryz.prog).bytesOf 68=72 by kernel_rfl]at hl
 exact⟨l,hl,rfl⟩
theorem dat_argL {n:Nat} {a b:T} (h:Typed Tryz.prog (n+6) 25 [a,b]):∃g:Ag,(∀s∈g.v,ScW s∧s.b<18446744073709551616)∧a=sI g.d∧b=sS g.v:=by
 simp only[Typed,Tryz.underlying25]at h
 obtain⟨_,hf⟩:=h
 simp only[List.forall_mem_cons]at hf
 obtain⟨h0,h1,_⟩:=hf
 rw[show(Tryz.prog).cellsOf 22=1 by kernel_rfl]at h0
 rw[show(Tryz.prog).cellsOf 23=1 by kernel_rfl]at h1
 obtain⟨d,_,rfl⟩:=dat_ints (dat1 (n:=n+5) (t:=22) (a:=a) (by simp[mkT,Tryz.underlying22]) h0)
 obtain⟨v,hv,rfl⟩:=dat_vals (n:=n) (dat1 (n:=n+5) (t:=23) (a:=b) (by simp[mkT,Tryz.underlying23]) h1)
 exact⟨⟨d,v⟩,hv.2,rfl,rfl⟩
theorem dat_arg {n:Nat} {x:T} (h:Dat Tryz.prog (n+6) 25 x):∃g:Ag,(∀s∈g.v,ScW s∧s.b<18446744073709551616)∧x=g.T:=by
 obtain⟨ts,h,rfl⟩:=h
 have hl:ts.length=2:=by
  simp only[Typed,Tryz.underlying25]at h
  have:=h.1
  rwa [show(Tryz.prog).cellsOf 25=2 by kernel_rfl]at this
 match ts,hl with
 | [a, b], _ =>
   obtain⟨g,hg,rfl,rfl⟩:=dat_argL (n:=n) h
   exact⟨g,hg,by simp[mkT,Tryz.underlying25,Ag.T]⟩
end Go.Fm
