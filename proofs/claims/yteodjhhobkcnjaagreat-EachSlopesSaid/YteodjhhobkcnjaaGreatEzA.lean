/- Half words: sums and products, step by step. -/
import Derived.Test.YteodjhhobkcnjaaGreatQzA
import Derived.Test.YteodjhhobkcnjaaGreatNzA
import Derived.Test.YteodjhhobkcnjaaGreatNzC
import Derived.Test.YteodjhhobkcnjaaGreatDzA
set_option linter.unusedVariables false
set_option linter.unusedSimpArgs false
namespace Go.Fm
set_option maxRecDepth 100000
theorem hv_snoc (l:List Nat) (x:Nat):hv (l++[x])=hv l+4294967296^l.length*x:=by rw[hv_append];simp[hv]
theorem hv_take_succ {a:List Nat} {i x:Nat} (hx:a[i]?=some x):hv (a.take (i+1))=hv (a.take i)+4294967296^i*x:=by
 have hlt:=(List.getElem?_eq_some_iff.1 hx).1
 rw[List.take_add_one,hx,Option.toList_some,hv_snoc,List.length_take,Nat.min_eq_left (Nat.le_of_lt hlt)]
theorem hv_take_get (b:List Nat) (i:Nat):hv (b.take (i+1))=hv (b.take i)+4294967296^i*b.getD i 0:=by
 rcases Nat.lt_or_ge i b.length with h|h
 ·obtain⟨y,hy⟩:=getI h
  rw[hv_take_succ hy,List.getD_eq_getElem?_getD,hy,Option.getD_some]
 ·rw[List.take_of_length_le (by omega),List.take_of_length_le h,List.getD_eq_getElem?_getD,List.getElem?_eq_none h,Option.getD_none,Nat.mul_zero,Nat.add_zero]
theorem hv_split {l:List Nat} {i:Nat} (h:i≤l.length):hv l=hv (l.take i)+4294967296^i*hv (l.drop i):=by
 conv=>lhs;rw[←List.take_append_drop i l]
 rw[hv_append,List.length_take,Nat.min_eq_left h]
theorem hv_set {u:List Nat} {i a d:Nat} (h:u[i]?=some a):hv (u.set i d)+4294967296^i*a=hv u+4294967296^i*d:=by
 have hlt:=(List.getElem?_eq_some_iff.1 h).1
 have h1:(u.set i d)[i]?=some d:=by simp[hlt]
 rw[hv_split (l:=u.set i d) (i:=i) (by simp;omega),hv_split (l:=u) (i:=i) (by omega),dropC h1,dropC h,drop_set_gt,hv,hv,List.take_set_of_le (Nat.le_refl _),Nat.mul_add,Nat.mul_add]
 omega
theorem hv_repl:∀n:Nat,hv (List.replicate n 0)=0
 |0=>rfl
 |n+1=>by rw[List.replicate_succ,hv,hv_repl n]
theorem HOK.repl (n:Nat):HOK (List.replicate n 0):=fun x hx=>by rw[List.eq_of_mem_replicate hx];decide
theorem HOK.set {l:List Nat} (h:HOK l) {i q:Nat} (hq:q<4294967296):HOK (l.set i q):=fun x hx=>by
 rcases List.mem_or_eq_of_mem_set hx with h'|h'
 ·exact h x h'
 ·omega
theorem HOK.snoc {l:List Nat} (h:HOK l) {q:Nat} (hq:q<4294967296):HOK (l++[q]):=fun x hx=>by
 rcases List.mem_append.1 hx with h'|h'
 ·exact h x h'
 ·rw[List.mem_singleton.1 h'];exact hq
theorem HOK.getD {l:List Nat} (h:HOK l) (i:Nat):l.getD i 0<4294967296:=by
 rw[List.getD_eq_getElem?_getD]
 cases e:l[i]? with
 |none=>decide
 |some u=>exact h u (List.mem_of_getElem? e)
theorem hadd_step {a b out:List Nat} {i o:Nat} (ho:out.length=i) (he:hv out+4294967296^i*o=hv (a.take i)+hv (b.take i)) (s:Nat) (hs:a.getD i 0+b.getD i 0+o=s):
  hv (out++[s%4294967296])+4294967296^(i+1)*(s/4294967296)=hv (a.take (i+1))+hv (b.take (i+1)):=by
 rw[hv_snoc,ho,hv_take_get,hv_take_get,Nat.pow_succ,Nat.mul_assoc,Nat.add_assoc,←Nat.mul_add,Nat.mod_add_div,←hs,Nat.mul_add,Nat.mul_add]
 omega
theorem hrows_word {x y s c:Nat} (hx:x<4294967296) (hy:y<4294967296) (hs:s<4294967296) (hc:c<4294967296):
  c+x*y+s<18446744073709551616∧x*y<18446744073709551616∧c+x*y<18446744073709551616∧(c+x*y+s)/4294967296<4294967296:=by
 have h:x*y≤4294967295*4294967295:=Nat.mul_le_mul (by omega) (by omega)
 generalize x*y=z at*
 omega
theorem hrows_step {out:List Nat} {i k s r c c' N P x y:Nat} (hs:out[i+k]?=some s) (he:hv out+4294967296^(i+k)*c=N+4294967296^i*(x*P))
  (hr:r+4294967296*c'=s+x*y+c):hv (out.set (i+k) r)+4294967296^(i+(k+1))*c'=N+4294967296^i*(x*(P+4294967296^k*y)):=by
 have h1:=hv_set (d:=r) hs
 have h2:4294967296^(i+k)*(r+4294967296*c')=4294967296^(i+k)*(s+x*y+c):=by rw[hr]
 have e:4294967296^(i+(k+1))=4294967296^(i+k)*4294967296:=by rw[←Nat.pow_succ];rfl
 have e2:4294967296^i*(x*(P+4294967296^k*y))=4294967296^i*(x*P)+4294967296^(i+k)*(x*y):=by
  rw[Nat.mul_add,Nat.mul_add,Nat.pow_add]
  congr 1
  simp only[Nat.mul_assoc,Nat.mul_left_comm]
 rw[e,e2,Nat.mul_assoc]
 simp only[Nat.mul_add]at h2
 omega
end Go.Fm
namespace Go.Fm
open Go.Proofs
set_option maxRecDepth 100000
attribute [local irreducible] tiOf
theorem rAdd_ok (a b:List Nat) (ha:WOK a) (hb:WOK b) (hla:a.length<10000000) (hlb:b.length<10000000):Pure Tryz.prog 236 [sW a,sW b] [.own 1 ((wordsOf (nv a+nv b)).map U)]:=by
 have ca:=rHalves_ok a ha (by omega)
 have cb:=rHalves_ok b hb (by omega)
 obtain⟨a1,a2⟩:=halvesL_spec ha
 obtain⟨b1,b2⟩:=halvesL_spec hb
 have hlx:=sizeW_le (halvesL a)
 have hly:=sizeW_le (halvesL b)
 have hlx2:(trimW (halvesL a)).length=sizeW (halvesL a):=by simp[trimW];omega
 have hly2:(trimW (halvesL b)).length=sizeW (halvesL b):=by simp[trimW];omega
 have ea:=hv_trim (halvesL a)
 have eb:=hv_trim (halvesL b)
 rw[a2]at ea
 rw[b2]at eb
 have hx:=a1.trim
 have hy:=b1.trim
 rw[halvesL_len]at hlx hly
 generalize trimW (halvesL a)=x at*
 generalize trimW (halvesL b)=y at*
 obtain⟨M,hM⟩:∃M,max x.length y.length=M:=⟨_,rfl⟩
 have hmx:(if x.length<y.length then (y.length:Int) else (x.length:Int))=(M:Int):=by
  split<;>omega
 have hw0:=wS (show M<1000000000000 by omega)
 refine Pure.I Tryz.func236 [4] ?_
 refine SmV ?_
 refine CallG.P _ Tryz.call259 (ca) ?_
 refine SmV ?_
 refine CallG.P _ Tryz.call259 (cb) ?_
 simp-implicitDefEqProofs+decide only[go_sem,sW,hmx,hw0]
 refine Goes.wk (Wk.nilRow (d:=7) (lab:=.loc 36 0) (size:=1) (by simp-implicitDefEqProofs+decide only[go_sem]) (by simp-implicitDefEqProofs+decide only[go_sem]) rfl (by decide)) ?_
 refine Goes.loop (X:=List Nat×Nat) (fun z=>⟨ofL [(5,tW x),(6,tW y),(7,.sl (.loc 36 0) z.1.length 0 z.1.length),(8,.t (.int .u64 z.2)),(19,.t (.int .i64 ((M+1:Nat):Int))),(20,.t (.int .i64 z.1.length))],ofH (fun _=>none) [(.loc 36 0,.arr 1 (z.1.map U) z.1.length 0)],0⟩)
  (fun z=>z.1.length≤M+1∧HOK z.1∧z.2≤1∧hv z.1+4294967296^z.1.length*z.2=hv (x.take z.1.length)+hv (y.take z.1.length)) (fun z=>M+1-z.1.length) ([],0) ?_ ⟨by simp,HOK.repl 0,by simp,by simp[hv]⟩ ?_
 ·exact(Wk.rows _ _ (fun _ _=>rfl) rfl rfl (by simp-implicitDefEqProofs+decide only[go_sem,ofH,tW,sW,tW]<;>first|rfl|exact⟨rfl,rfl⟩|skip) (fun l hp=>by cases l<;>first|rfl|cases hp) (by simp-implicitDefEqProofs+decide only[go_sem,tI,sI,tW,sW,tW]<;>first|rfl|skip) (by simp-implicitDefEqProofs+decide only[go_sem,tI,sI,tW,sW]))
 rintro ⟨out,c⟩ ⟨hi,hok,hc1,he⟩ J hJ
 dsimp only at hi hok hc1 he hJ⊢
 obtain⟨n,hn⟩:∃n,out.length=n:=⟨_,rfl⟩
 rw[hn]at hi he⊢
 apply run_sound 200
 refine SmW ?_
 apply selP_dec<;>intro hc
 ·have cx:=rAt_ok x n
  have cy:=rAt_ok y n
  have bx:=hx.getD n
  have by':=hy.getD n
  obtain⟨u,hu⟩:∃u,x.getD n 0=u:=⟨_,rfl⟩
  obtain⟨v,hv'⟩:∃v,y.getD n 0=v:=⟨_,rfl⟩
  rw[hu]at cx bx
  rw[hv']at cy by'
  obtain⟨s,hs⟩:∃s,u+v+c=s:=⟨_,rfl⟩
  have hst:=hadd_step hn he s (by rw[hu,hv',hs])
  have w1:IntKind.wrap .u64 ((c:Int)+u)=((c+u:Nat):Int):=by rw[u64];omega
  have w2:IntKind.wrap .u64 (((c+u:Nat):Int)+v)=(s:Int):=by rw[u64];omega
  have hw:=wS (show n<1000000000000 by omega)
  have hnb:n+1<big:=by unfold big;omega
  have hok2:=hok.snoc (q:=s%4294967296) (Nat.mod_lt _ (by decide))
  obtain⟨o2,ho2⟩:∃o2,out++[s%4294967296]=o2:=⟨_,rfl⟩
  have hr:out.map U++[T.int .u64 (s%4294967296:Nat)]=o2.map U:=by rw[←ho2];simp[U]
  have hl2:o2.length=n+1:=by rw[←ho2];simp[hn]
  rw[ho2]at hst hok2
  refine SmW ?_
  refine CallG.P _ Tryz.call261 (cx) ?_
  simp-implicitDefEqProofs+decide only[go_sem,tW,sW,w1]
  refine CallG.P _ Tryz.call261 (cy) ?_
  simp-implicitDefEqProofs+decide only[go_sem,ofH,w2,hn,hnb,hr,hw]
  refine hJ (o2,s/4294967296) _ ⟨by rw[hl2];omega,hok2,by dsimp only;omega,by rw[hl2];exact hst⟩ (by dsimp only;rw[hl2];omega) (Wk.rows _ _ (fun _ _=>rfl) rfl rfl (by simp-implicitDefEqProofs+decide only[go_sem,ofH,tW,sW,tW,hl2]<;>first|rfl|exact⟨rfl,rfl⟩|skip) (fun l hp=>by cases l<;>first|rfl|cases hp) (by simp-implicitDefEqProofs+decide only[go_sem,tI,sI,tW,sW,tW,hl2]<;>first|rfl|skip) (by simp-implicitDefEqProofs+decide only[go_sem,tI,sI,tW,sW]))
 ·obtain rfl:n=M+1:=by omega
  have hxt:x.take (M+1)=x:=List.take_of_length_le (by omega)
  have hyt:y.take (M+1)=y:=List.take_of_length_le (by omega)
  rw[hxt,hyt,ea,eb]at he
  have hc0:c=0:=by
   have h1:=hv_lt hx
   have h2:=hv_lt hy
   have h3:4294967296^x.length≤4294967296^M:=Nat.pow_le_pow_right (by decide) (by omega)
   have h4:4294967296^y.length≤4294967296^M:=Nat.pow_le_pow_right (by decide) (by omega)
   have h5:4294967296^(M+1)=4294967296^M*4294967296:=Nat.pow_succ ..
   rw[ea]at h1
   rw[eb]at h2
   rcases Nat.eq_zero_or_pos c with h|h
   ·exact h
   ·exfalso
    have hc':c=1:=by omega
    rw[hc',h5]at he
    omega
  subst hc0
  rw[Nat.mul_zero,Nat.add_zero]at he
  have cw:=rWhole_ok out hok (by omega)
  rw[he]at cw
  have htk:List.take (M+1) (out.map U)=out.map U:=List.take_of_length_le (by simp;omega)
  simp-implicitDefEqProofs+decide only[go_sem,tW,sW,ofH,htk]
  refine CallG.pureAd _ 41 Tryz.call260 cw (by first|rfl|(simp only[go_sem];done)|(simp only[go_sem];rfl)) (by first|rfl|(simp only[go_sem];done)|(simp only[go_sem];rfl)) (fun j size es _=>by cases j<;>rfl) ?_
  apply run_sound 200
  refine Sm ?_
  exact endF.own (lab:=.loc 41 0) (v:=0) (len:=(wordsOf (nv a+nv b)).length) (.inr rfl) (by simp-implicitDefEqProofs+decide only[go_sem]) (by simp-implicitDefEqProofs+decide only[go_sem]) (by simp) rfl (fun l hp=>by cases l<;>first|rfl|cases hp) rfl
theorem rMul_ok (a b:List Nat) (ha:WOK a) (hb:WOK b) (hla:a.length<10000000) (hlb:b.length<10000000):
  Pure Tryz.prog 200 [sW a,sW b] [.own 1 ((wordsOf (nv a*nv b)).map U)]:=by
 have ca:=rHalves_ok a ha (by omega)
 have cb:=rHalves_ok b hb (by omega)
 obtain⟨a1,a2⟩:=halvesL_spec ha
 obtain⟨b1,b2⟩:=halvesL_spec hb
 have hlx:=sizeW_le (halvesL a)
 have hly:=sizeW_le (halvesL b)
 have hlx2:(trimW (halvesL a)).length=sizeW (halvesL a):=by simp[trimW];omega
 have hly2:(trimW (halvesL b)).length=sizeW (halvesL b):=by simp[trimW];omega
 have ea:=hv_trim (halvesL a)
 have eb:=hv_trim (halvesL b)
 rw[a2]at ea
 rw[b2]at eb
 have hx:=a1.trim
 have hy:=b1.trim
 rw[halvesL_len]at hlx hly
 generalize trimW (halvesL a)=u at*
 generalize trimW (halvesL b)=v at*
 obtain⟨n,hn⟩:∃n,u.length+v.length+1=n:=⟨_,rfl⟩
 have hbig:n<big:=by unfold big;omega
 have hwn0:IntKind.wrap .i64 ((u.length:Int)+v.length)=((u.length+v.length:Nat):Int):=by rw[w64]<;>omega
 have hwn:IntKind.wrap .i64 (((u.length+v.length:Nat):Int)+1)=(n:Int):=by rw[w64]<;>omega
 refine Pure.I Tryz.func200 [4] ?_
 refine SmV ?_
 refine CallG.P _ Tryz.call259 (ca) ?_
 refine SmV ?_
 refine CallG.P _ Tryz.call259 (cb) ?_
 simp-implicitDefEqProofs+decide only[go_sem,sW,hwn0,hwn,hbig,replU]
 refine Goes.loop (X:=Nat×List Nat) (fun x=>⟨ofL [(5,tW u),(6,tW v),(7,.sl (.loc 21 0) 0 0 n),(23,.t (.int .i64 u.length)),(24,.t (.int .i64 x.1))],ofH (fun _=>none) [(.loc 21 0,.arr 1 (x.2.map U) 0 0)],0⟩)
  (fun x=>x.1≤u.length∧x.2.length=n∧HOK x.2∧hv x.2=hv (u.take x.1)*hv v∧∀j,x.1+v.length≤j→x.2.getD j 0=0) (fun x=>u.length-x.1) (0,List.replicate n 0) ?_ ⟨Nat.zero_le _,by simp,HOK.repl n,by simp[hv,hv_repl],fun j _=>by simp[List.getD_eq_getElem?_getD,List.getElem?_replicate];split<;>rfl⟩ ?_
 ·exact(Wk.rows _ _ (fun _ _=>rfl) rfl rfl (by simp-implicitDefEqProofs+decide only[go_sem,ofH,tW,sW,tW]<;>first|rfl|exact⟨rfl,rfl⟩|skip) (fun l hp=>by cases l<;>first|rfl|cases hp) (by simp-implicitDefEqProofs+decide only[go_sem,tI,sI,tW,sW,tW]<;>first|rfl|skip) (by simp-implicitDefEqProofs+decide only[go_sem,tI,sI,tW,sW]))
 rintro ⟨i,out⟩ ⟨hi,hol,hok,he,hz⟩ J hJ
 dsimp only at hi hol hok he hz hJ⊢
 apply run_sound 200
 refine SmW ?_
 apply selP_dec<;>intro hc
 ·obtain⟨x,hxe⟩:=getI (show i<u.length by omega)
  have hxl:=hx x (List.mem_of_getElem? hxe)
  have hw:=wS (show i<1000000000000 by omega)
  refine SmW ?_
  refine Goes.loop (X:=Nat×List Nat×Nat) (fun y=>⟨ofL [(5,tW u),(6,tW v),(7,.sl (.loc 21 0) 0 0 n),(8,.t (.int .i64 i)),(9,.t (.int .u64 y.2.2)),(23,.t (.int .i64 u.length)),(24,.t (.int .i64 i)),(28,.t (.int .i64 v.length)),(29,.t (.int .i64 y.1))],ofH (fun _=>none) [(.loc 21 0,.arr 1 (y.2.1.map U) 0 0)],0⟩)
   (fun y=>y.1≤v.length∧y.2.1.length=n∧HOK y.2.1∧y.2.2<4294967296∧hv y.2.1+4294967296^(i+y.1)*y.2.2=hv (u.take i)*hv v+4294967296^i*(x*hv (v.take y.1))∧∀j,i+v.length≤j→y.2.1.getD j 0=0) (fun y=>v.length-y.1) (0,out,0) ?_ ⟨Nat.zero_le _,hol,hok,by dsimp only;omega,by simp[hv,he],hz⟩ ?_
  ·exact(Wk.rows _ _ (fun _ _=>rfl) rfl rfl (by simp-implicitDefEqProofs+decide only[go_sem,ofH,tW,sW,tW]<;>first|rfl|exact⟨rfl,rfl⟩|skip) (fun l hp=>by cases l<;>first|rfl|cases hp) (by simp-implicitDefEqProofs+decide only[go_sem,tI,sI,tW,sW,tW]<;>first|rfl|skip) (by simp-implicitDefEqProofs+decide only[go_sem,tI,sI,tW,sW]))
  rintro ⟨k,o2,c⟩ ⟨hk,hol2,hok2,hcl,he2,hz2⟩ J2 hJ2
  dsimp only at hk hol2 hok2 hcl he2 hz2 hJ2⊢
  apply run_sound 200
  refine SmW ?_
  apply selP_dec<;>intro hc2
  ·obtain⟨y,hye⟩:=getI (show k<v.length by omega)
   have hyl:=hy y (List.mem_of_getElem? hye)
   have hik:i+k<n:=by omega
   obtain⟨s,hs⟩:=getI (show i+k<o2.length by omega)
   have hsl:=hok2 s (List.mem_of_getElem? hs)
   have hwk:=wS (show k<1000000000000 by omega)
   have hwik:IntKind.wrap .i64 ((i:Int)+k)=((i+k:Nat):Int):=by rw[w64]<;>omega
   obtain⟨r1,r2,r3,r4⟩:=hrows_word hxl hyl hsl hcl
   obtain⟨t,ht⟩:∃t,c+x*y+s=t:=⟨_,rfl⟩
   have w1:IntKind.wrap .u64 ((x:Int)*y)=((x*y:Nat):Int):=by rw[←Int.natCast_mul,u64];omega
   have w2:IntKind.wrap .u64 ((c:Int)+((x*y:Nat):Int))=((c+x*y:Nat):Int):=by rw[u64];omega
   have w3:IntKind.wrap .u64 (((c+x*y:Nat):Int)+s)=(t:Int):=by rw[u64];omega
   have hst:=hrows_step (r:=t%4294967296) (c':=t/4294967296) (y:=y) hs he2 (by omega)
   rw[←hv_take_succ hye]at hst
   rw[ht]at r4
   obtain⟨o3,ho3⟩:∃w,o2.set (i+k) (t%4294967296)=w:=⟨_,rfl⟩
   have hsn:(o2.map U).set (i+k) (.int .u64 ((t%4294967296:Nat):Int))=o3.map U:=by rw[setU,ho3]
   rw[ho3]at hst
   refine SmW ?_
   refine Goes.drawN mixed ?_
   simp-implicitDefEqProofs+decide only[go_sem,tW,sW,hxe,hye,hs,hwik,hik,w1,w2,w3,ofH]
   refine⟨.mk (by kernel_rfl),?_⟩
   apply run_sound 200
   simp-implicitDefEqProofs+decide only[go_sem,ofH,hwik,hik,hs,hsn,hwk]
   refine hJ2 (k+1,o3,t/4294967296) _ ⟨by dsimp only;omega,by rw[←ho3];simpa using hol2,by rw[←ho3];exact hok2.set (Nat.mod_lt _ (by decide)),r4,hst,fun j hj=>by rw[←ho3];dsimp only;rw[getD_set_ne (by omega)];exact hz2 j hj⟩ (by dsimp only;omega) (Wk.rows _ _ (fun _ _=>rfl) rfl rfl (by simp-implicitDefEqProofs+decide only[go_sem,ofH,tW,sW,tW]<;>first|rfl|exact⟨rfl,rfl⟩|skip) (fun l hp=>by cases l<;>first|rfl|cases hp) (by simp-implicitDefEqProofs+decide only[go_sem,tI,sI,tW,sW,tW]<;>first|rfl|skip) (by simp-implicitDefEqProofs+decide only[go_sem,tI,sI,tW,sW]))
  ·obtain rfl:k=v.length:=by omega
   have hib:i+v.length<n:=by omega
   obtain⟨s,hs⟩:=getI (show i+v.length<o2.length by omega)
   have hs0:s=0:=by
    have:=hz2 (i+v.length) (Nat.le_refl _)
    simpa [List.getD_eq_getElem?_getD,hs] using this
   subst hs0
   have hwib:IntKind.wrap .i64 ((i:Int)+v.length)=((i+v.length:Nat):Int):=by rw[w64]<;>omega
   have hset:=hv_set (d:=c) hs
   rw[Nat.mul_zero,Nat.add_zero,he2,List.take_length]at hset
   obtain⟨o3,ho3⟩:∃w,o2.set (i+v.length) c=w:=⟨_,rfl⟩
   have hsn:(o2.map U).set (i+v.length) (.int .u64 (c:Int))=o3.map U:=by rw[setU,ho3]
   rw[ho3]at hset
   have hnx:hv o3=hv (u.take (i+1))*hv v:=by rw[hset,hv_take_succ hxe,Nat.add_mul,Nat.mul_assoc]
   simp-implicitDefEqProofs+decide only[go_sem,tW,sW,ofH,hwib,hib,hs,hsn,hw]
   refine hJ (i+1,o3) _ ⟨by dsimp only;omega,by rw[←ho3];simpa using hol2,by rw[←ho3];exact hok2.set hcl,hnx,fun j hj=>by rw[←ho3];dsimp only at hj⊢;rw[getD_set_ne (by omega)];exact hz2 j (by omega)⟩ (by dsimp only;omega) (Wk.rows _ _ (fun _ _=>rfl) rfl rfl (by simp-implicitDefEqProofs+decide only[go_sem,ofH,tW,sW,tW]<;>first|rfl|exact⟨rfl,rfl⟩|skip) (fun l hp=>by cases l<;>first|rfl|cases hp) (by simp-implicitDefEqProofs+decide only[go_sem,tI,sI,tW,sW,tW]<;>first|rfl|skip) (by simp-implicitDefEqProofs+decide only[go_sem,tI,sI,tW,sW]))
 ·have hin:i=u.length:=by omega
  rw[List.take_of_length_le (by omega),ea,eb]at he
  have cw:=rWhole_ok out hok (by omega)
  rw[he]at cw
  have htk:(out.map U).take n=out.map U:=List.take_of_length_le (by simp;omega)
  simp-implicitDefEqProofs+decide only[go_sem,ofH,htk,List.drop_zero]
  refine CallG.pureAd _ 69 Tryz.call260 cw (by first|rfl|(simp only[go_sem];done)|(simp only[go_sem];rfl)) (by first|rfl|(simp only[go_sem];done)|(simp only[go_sem];rfl)) (fun j size es _=>by cases j<;>rfl) ?_
  apply run_sound 200
  refine Sm ?_
  exact endF.own (lab:=.loc 69 0) (v:=0) (len:=(wordsOf (nv a*nv b)).length) (.inr rfl) (by simp-implicitDefEqProofs+decide only[go_sem]) (by simp-implicitDefEqProofs+decide only[go_sem]) (by simp) rfl (fun l hp=>by cases l<;>first|rfl|cases hp) rfl
theorem ushr1R (a:Nat):Int.fdiv (a:Int) (2^(min (Int.toNat 1) 64))=((a/2:Nat):Int):=ushr a 1 (by decide)
theorem bitLen_zero:bitLen 0=0:=rfl
theorem bitLen_half {x:Nat} (h:x≠0):bitLen x=bitLen (x/2)+1:=by
 unfold bitLen
 rw[if_neg h]
 by_cases h2:x/2=0
 ·rw[if_pos h2]
  have:x=1:=by omega
  subst this
  decide
 ·rw[if_neg h2,Nat.log2_def,if_pos (by omega)]
theorem rLen_ok (x:Nat) (hx:x<18446744073709551616):Pure Tryz.prog 201 [.int .u64 x] [.t (.int .i64 (bitLen x:Nat))]:=by
 have hb:=bitLen_le hx
 refine Pure.I Tryz.func201 [2] ?_
 refine Sm ?_
 refine Goes.loop (X:=Nat×Nat) (fun z=>⟨ofL [(0,.t (.int .u64 z.1)),(3,.t (.int .i64 z.2))],fun _=>none,0⟩) (fun z=>z.1<18446744073709551616∧bitLen z.1+z.2=bitLen x) (fun z=>z.1) (x,0) (Wk.slots _ rfl rfl (by simp-implicitDefEqProofs+decide only[go_sem]) (by simp-implicitDefEqProofs+decide only[go_sem])) ⟨hx,rfl⟩ ?_
 rintro ⟨y,k⟩ ⟨hy,he⟩ J hJ
 dsimp only at hy he hJ⊢
 apply run_sound 200
 refine Sm ?_
 apply selP_dec<;>intro hc
 ·have hy0:y≠0:=by omega
  have hh:=bitLen_half hy0
  have hw:=wS (show k<1000000000000 by omega)
  have hs:=ushr1R y
  simp-implicitDefEqProofs+decide only[go_sem,hw,hs]
  refine hJ (y/2,k+1) _ ⟨by dsimp only;omega,by dsimp only;omega⟩ (by dsimp only;omega) (Wk.slots _ rfl rfl (by simp-implicitDefEqProofs+decide only[go_sem]) (by simp-implicitDefEqProofs+decide only[go_sem]))
 ·obtain rfl:y=0:=by omega
  rw[bitLen_zero]at he
  obtain rfl:k=bitLen x:=by omega
  refine Sm ?_
  exact endF.V1 2 (.int .i64 (bitLen x:Nat))
theorem rBits_ok (l:List Nat) (hw:WOK l) (hl:l.length<1000000000):Pure Tryz.prog 139 [sW l] [.t (.int .i64 (bitLen (nv l):Nat))]:=by
 have c1:=rSize_ok l (by omega)
 have hsl:=sizeW_le l
 refine Pure.I Tryz.func139 [2] ?_
 refine SmV ?_
 refine CallG.P _ Tryz.call161 (c1) ?_
 refine SmV ?_
 apply selP_dec<;>intro hc
 ·have h0:sizeW l=0:=by omega
  have:nv l=0:=(nv_zero l).1 h0
  rw[this,bitLen_zero]
  refine Sm ?_
  exact endF.V1 2 (.int .i64 0)
 ·obtain⟨x,hx⟩:=getI (show sizeW l-1<l.length by omega)
  have hxl:=hw.get hx
  have c2:=rLen_ok x hxl
  have hbt:=bits_top hw (by omega) hx
  have hbl:=bitLen_le hxl
  have w1:IntKind.wrap .i64 ((64:Int)*(sizeW l:Nat))=((64*sizeW l:Nat):Int):=by rw[w64]<;>omega
  have w2:IntKind.wrap .i64 (((64*sizeW l:Nat):Int)-64)=((64*(sizeW l-1):Nat):Int):=by rw[w64]<;>omega
  have w3:IntKind.wrap .i64 ((sizeW l:Nat)-1:Int)=((sizeW l-1:Nat):Int):=by rw[w64]<;>omega
  have w4:IntKind.wrap .i64 (((64*(sizeW l-1):Nat):Int)+(bitLen x:Nat))=(bitLen (nv l):Nat):=by rw[hbt,w64]<;>omega
  simp-implicitDefEqProofs+decide only[go_sem,w1,w2,w3,hx]
  refine CallG.P _ Tryz.call201 (c2) ?_
  simp-implicitDefEqProofs+decide only[go_sem,w4]
  exact endF.V1 2 (.int .i64 (bitLen (nv l):Nat))
def padW (a:List Nat) (M:Nat):List Nat:=a++List.replicate (M-a.length) 0
theorem padW_length {a:List Nat} {M:Nat} (h:a.length≤M):(padW a M).length=M:=by simp[padW];omega
theorem padW_get {a:List Nat} {M i:Nat} (h:i<M) (hl:a.length≤M):(padW a M)[i]?=some (a.getD i 0):=pad_get a (M-a.length) i (by omega)
theorem padW_nv (a:List Nat) (M:Nat):nv (padW a M)=nv a:=by unfold padW;rw[nv_append,nv_repl,Nat.mul_zero,Nat.add_zero]
theorem padW_ok {a:List Nat} (M:Nat) (h:WOK a):WOK (padW a M):=h.append (WOK.repl _)
def setM (a:List Nat) (i:Nat):Nat:=max a.length (i/64+1)
def setL (a:List Nat) (i:Nat):List Nat:=(padW a (setM a i)).set (i/64) (a.getD (i/64) 0|||2^(i%64))
theorem setL_length (a:List Nat) (i:Nat):(setL a i).length=setM a i:=by
 unfold setL;rw[List.length_set,padW_length (by unfold setM;omega)]
theorem or_pow {x k:Nat} (hx:x<18446744073709551616) (hk:k<64) (h:x.testBit k=false):x|||2^k=x+2^k:=by
 have hp:2^k<18446744073709551616:=Nat.pow_lt_pow_right (a:=2) (n:=64) (by decide) hk
 have h1:x&&&2^k=0:=by
  apply Nat.eq_of_testBit_eq
  intro i
  rw[Nat.testBit_and,Nat.testBit_two_pow,Nat.zero_testBit]
  by_cases e:k=i
  ·subst e;rw[h];rfl
  ·simp[e]
 have h2:BitVec.ofNat 65 x&&&BitVec.ofNat 65 (2^k)=0#65:=by
  apply BitVec.eq_of_toNat_eq
  rw[BitVec.toNat_and,BitVec.toNat_ofNat,BitVec.toNat_ofNat,Nat.mod_eq_of_lt (show x<2^65 by omega),Nat.mod_eq_of_lt (show 2^k<2^65 by omega),h1]
  rfl
 have h3:=congrArg BitVec.toNat (BitVec.add_eq_or_of_and_eq_zero _ _ h2)
 rw[BitVec.toNat_or,BitVec.toNat_add,BitVec.toNat_ofNat,BitVec.toNat_ofNat,Nat.mod_eq_of_lt (show x<2^65 by omega),Nat.mod_eq_of_lt (show 2^k<2^65 by omega),Nat.mod_eq_of_lt (by omega)]at h3
 exact h3.symm
theorem setL_spec {a:List Nat} (ha:WOK a) {i:Nat} (h:(nv a).testBit i=false):WOK (setL a i)∧nv (setL a i)=nv a+2^i:=by
 rw[nv_testBit ha]at h
 have hm:i/64<setM a i:=by unfold setM;omega
 have hle:a.length≤setM a i:=by unfold setM;omega
 have hg:=padW_get hm hle
 have hx:a.getD (i/64) 0<18446744073709551616:=by
  rw[List.getD_eq_getElem?_getD]
  cases e:a[i/64]? with
  |none=>decide
  |some u=>exact ha u (List.mem_of_getElem? e)
 have ho:=or_pow hx (Nat.mod_lt _ (by decide)) h
 have hlt:a.getD (i/64) 0|||2^(i%64)<18446744073709551616:=Nat.or_lt_two_pow (n:=64) hx (Nat.pow_lt_pow_right (by decide) (by omega))
 constructor
 ·exact(padW_ok _ ha).set hlt
 ·have hs:=nv_set (d:=a.getD (i/64) 0|||2^(i%64)) hg
  rw[padW_nv,ho,Nat.mul_add]at hs
  have e:18446744073709551616^(i/64)*2^(i%64)=2^i:=by
   rw[show 18446744073709551616=2^64 from rfl,←Nat.pow_mul,←Nat.pow_add];congr 1;omega
  rw[e]at hs
  unfold setL
  rw[ho]
  omega
theorem rSet_ok (a:List Nat) (i:Nat) (ha:WOK a) (hla:a.length<100000000) (hi:i<6400000000):Pure Tryz.prog 205 [sW a,.int .i64 i] [.own 1 ((setL a i).map U)]:=by
 have f2:IntKind.wrap .i64 (Int.tdiv (i:Int) 64)=((i/64:Nat):Int):=by rw[show(64:Int)=((64:Nat):Int) from rfl,←Int.ofNat_tdiv,w64]<;>omega
 have f3:Int.tmod (i:Int) 64=((i%64:Nat):Int):=by rw[show(64:Int)=((64:Nat):Int) from rfl,←Int.ofNat_tmod]
 have f4:IntKind.wrap .u64 ((i%64:Nat):Int)=((i%64:Nat):Int):=by rw[u64];omega
 obtain⟨M,hM⟩:∃M,setM a i=M:=⟨_,rfl⟩
 have hM2:M=max a.length (i/64+1):=hM.symm
 have hw1:=wS (show i/64<1000000000000 by omega)
 have hmx:(if a.length<i/64+1 then ((i/64+1:Nat):Int) else (a.length:Int))=(M:Int):=by split<;>omega
 obtain⟨L,hL⟩:∃L,setL a i=L:=⟨_,rfl⟩
 have hLl:=setL_length a i
 have hpg:∀k,k<M→L[k]?=some (if k=i/64 then a.getD k 0|||2^(i%64) else a.getD k 0):=fun k hk=>by
  rw[←hL]
  unfold setL
  rw[List.getElem?_set]
  by_cases e:i/64=k
  ·subst e
   rw[if_pos rfl,if_pos (by rw[padW_length (by unfold setM;omega),hM];exact hk),if_pos rfl]
  ·rw[if_neg e,padW_get (by rw[hM];exact hk) (by rw[hM];omega),if_neg (Ne.symm e)]
 rw[hL,hM]at hLl
 rw[hL]
 refine Pure.I Tryz.func205 [4] ?_
 simp-implicitDefEqProofs+decide only[go_sem,sW,f2,hw1,hmx]
 refine Goes.wk (Wk.nilRow (d:=5) (lab:=.loc 38 0) (size:=1) (by simp-implicitDefEqProofs+decide only[go_sem]) (by simp-implicitDefEqProofs+decide only[go_sem]) rfl (by decide)) ?_
 refine Goes.loop (X:=Nat) (fun k=>⟨ofL [(0,tW a),(1,.t (.int .i64 i)),(5,.sl (.loc 38 0) k 0 k),(13,.t (.int .i64 M)),(14,.t (.int .i64 k))],ofH (fun _=>none) [(.loc 38 0,.arr 1 ((L.take k).map U) k 0)],0⟩) (fun k=>k≤M) (fun k=>M-k) 0 ?_ (Nat.zero_le _) ?_
 ·exact(Wk.rows _ _ (fun _ _=>rfl) rfl rfl (by simp-implicitDefEqProofs+decide only[go_sem,ofH,tW,sW,hmx]<;>first|rfl|exact⟨rfl,rfl⟩|skip) (fun l hp=>by cases l<;>first|rfl|cases hp) (by simp-implicitDefEqProofs+decide only[go_sem,tI,sI,tW,sW,hmx]<;>first|rfl|skip) (by simp-implicitDefEqProofs+decide only[go_sem,tI,sI,tW,sW]))
 rintro k hk J hJ
 apply run_sound 200
 refine SmW ?_
 apply selP_dec<;>intro hc
 ·have hg:=hpg k (by omega)
  have hw:=wS (show k<1000000000000 by omega)
  have hkb:k+1<big:=by unfold big;omega
  have htl:(L.take k).length=k:=by rw[List.length_take];omega
  have hdec:decide ((k:Int)=((i/64:Nat):Int))=decide (k=i/64):=decide_eq_decide.2 (by omega)
  have g0:=ushlN 1 (i%64) (by omega)
  have hpl:1*2^(i%64)%18446744073709551616=2^(i%64):=by rw[Nat.one_mul];exact Nat.mod_eq_of_lt (Nat.pow_lt_pow_right (a:=2) (n:=64) (by decide) (by omega))
  rw[hpl]at g0
  have g1:IntKind.wrap .u64 ((1:Int)*2^(min (i%64) 64))=((2^(i%64):Nat):Int):=g0
  have hpl2:2^(i%64)<18446744073709551616:=Nat.pow_lt_pow_right (a:=2) (n:=64) (by decide) (by omega)
  refine SmW ?_
  apply selP_dec<;>intro h2
  ·obtain⟨x,hx⟩:=getI (show k<a.length by omega)
   have hxl:=ha.get hx
   have hor:=uorM x (2^(i%64)) hxl hpl2
   have ex:a.getD k 0=x:=by rw[List.getD_eq_getElem?_getD,hx];rfl
   rw[ex]at hg
   simp-implicitDefEqProofs+decide only[go_sem,tW,sW,hx,f2,hdec]
   apply selP_dec<;>intro h3
   ·rw[if_pos h3]at hg
    have hsn:(L.take k).map U++[T.int .u64 ((x|||2^(i%64):Nat):Int)]=(L.take (k+1)).map U:=by rw[take_snoc hg,List.map_append];rfl
    simp-implicitDefEqProofs+decide only[go_sem,f3,f4,g1,hor,ofH,htl,hkb,hsn,hw]
    refine hJ (k+1) _ (by omega) (by omega) (Wk.rows _ _ (fun _ _=>rfl) rfl rfl (by simp-implicitDefEqProofs+decide only[go_sem,ofH,tW,sW]<;>first|rfl|exact⟨rfl,rfl⟩|skip) (fun l hp=>by cases l<;>first|rfl|cases hp) (by simp-implicitDefEqProofs+decide only[go_sem,tI,sI,tW,sW]<;>first|rfl|skip) (by simp-implicitDefEqProofs+decide only[go_sem,tI,sI,tW,sW]))
   ·rw[if_neg h3]at hg
    have hsn:(L.take k).map U++[T.int .u64 (x:Int)]=(L.take (k+1)).map U:=by rw[take_snoc hg,List.map_append];rfl
    simp-implicitDefEqProofs+decide only[go_sem,ofH,htl,hkb,hsn,hw]
    refine hJ (k+1) _ (by omega) (by omega) (Wk.rows _ _ (fun _ _=>rfl) rfl rfl (by simp-implicitDefEqProofs+decide only[go_sem,ofH,tW,sW]<;>first|rfl|exact⟨rfl,rfl⟩|skip) (fun l hp=>by cases l<;>first|rfl|cases hp) (by simp-implicitDefEqProofs+decide only[go_sem,tI,sI,tW,sW]<;>first|rfl|skip) (by simp-implicitDefEqProofs+decide only[go_sem,tI,sI,tW,sW]))
  ·have ex:a.getD k 0=0:=by rw[List.getD_eq_getElem?_getD,List.getElem?_eq_none (by omega)];rfl
   rw[ex]at hg
   have hor:=uorM 0 (2^(i%64)) (by decide) hpl2
   simp-implicitDefEqProofs+decide only[go_sem,tW,sW,f2,hdec]
   apply selP_dec<;>intro h3
   ·rw[if_pos h3,Nat.zero_or]at hg
    rw[Nat.zero_or]at hor
    have hsn:(L.take k).map U++[T.int .u64 ((2^(i%64):Nat):Int)]=(L.take (k+1)).map U:=by rw[take_snoc hg,List.map_append];rfl
    have hor2:IntKind.wrap .u64 ((@BitVec.toNat 64 (@HOr.hOr (BitVec 64) (BitVec 64) (BitVec 64) (@instHOrOfOrOp (BitVec (IntKind.bits .u64)) (@BitVec.instOrOp (IntKind.bits .u64))) (BitVec.ofInt 64 0) (BitVec.ofInt 64 ((2^(i%64):Nat):Int))):Nat):Int)=((2^(i%64):Nat):Int):=hor
    simp-implicitDefEqProofs+decide only[go_sem,f3,f4,g1,hor2,ofH,htl,hkb,hsn,hw]
    refine hJ (k+1) _ (by omega) (by omega) (Wk.rows _ _ (fun _ _=>rfl) rfl rfl (by simp-implicitDefEqProofs+decide only[go_sem,ofH,tW,sW]<;>first|rfl|exact⟨rfl,rfl⟩|skip) (fun l hp=>by cases l<;>first|rfl|cases hp) (by simp-implicitDefEqProofs+decide only[go_sem,tI,sI,tW,sW]<;>first|rfl|skip) (by simp-implicitDefEqProofs+decide only[go_sem,tI,sI,tW,sW]))
   ·rw[if_neg h3]at hg
    have hsn:(L.take k).map U++[T.int .u64 0]=(L.take (k+1)).map U:=by rw[take_snoc hg,List.map_append];rfl
    simp-implicitDefEqProofs+decide only[go_sem,ofH,htl,hkb,hsn,hw]
    refine hJ (k+1) _ (by omega) (by omega) (Wk.rows _ _ (fun _ _=>rfl) rfl rfl (by simp-implicitDefEqProofs+decide only[go_sem,ofH,tW,sW]<;>first|rfl|exact⟨rfl,rfl⟩|skip) (fun l hp=>by cases l<;>first|rfl|cases hp) (by simp-implicitDefEqProofs+decide only[go_sem,tI,sI,tW,sW]<;>first|rfl|skip) (by simp-implicitDefEqProofs+decide only[go_sem,tI,sI,tW,sW]))
 ·obtain rfl:k=M:=by omega
  have htk:L.take k=L:=List.take_of_length_le (by omega)
  simp-implicitDefEqProofs+decide only[go_sem,tW,sW,ofH,htk]
  exact endF.own (.inr rfl) (by simp-implicitDefEqProofs+decide only[go_sem]<;>rfl) (by simp-implicitDefEqProofs+decide only[go_sem]<;>rfl) (by simp[hLl]) rfl (fun l hp=>by cases l<;>first|rfl|cases hp) rfl
theorem div_bit {a b i:Nat} (hb:b≠0):(a/2^i)=2*(a/2^(i+1))+(a.testBit i).toNat:=by
 rw[Nat.pow_succ,←Nat.div_div_eq_div_mul,Nat.testBit_eq_decide_div_mod_eq]
 generalize a/2^i=x
 by_cases h:x%2=1
 ·rw[decide_eq_true h];show x=2*(x/2)+1;omega
 ·rw[decide_eq_false h];show x=2*(x/2)+0;omega
theorem div_round {A b t:Nat} (hb:b≠0) (ht:t≤1):if b≤2*(A%b)+t then (2*A+t)/b=2*(A/b)+1∧(2*A+t)%b=2*(A%b)+t-b else (2*A+t)/b=2*(A/b)∧(2*A+t)%b=2*(A%b)+t:=by
 have h1:=Nat.mod_lt A (show 0<b by omega)
 have h2:=Nat.div_add_mod A b
 generalize A/b=q at*
 generalize A%b=r at*
 subst h2
 have e:2*(b*q+r)+t=b*(2*q)+(2*r+t):=by rw[Nat.mul_add,Nat.mul_left_comm];omega
 rw[e]
 split
 ·rename_i h
  have e2:b*(2*q)+(2*r+t)=b*(2*q+1)+(2*r+t-b):=by rw[Nat.mul_add,Nat.mul_one];omega
  rw[e2,Nat.mul_add_div (by omega),Nat.mul_add_mod,Nat.div_eq_of_lt (by omega),Nat.mod_eq_of_lt (by omega)]
  exact⟨rfl,rfl⟩
 ·rename_i h
  rw[Nat.mul_add_div (by omega),Nat.mul_add_mod,Nat.div_eq_of_lt (by omega),Nat.mod_eq_of_lt (by omega)]
  exact⟨rfl,rfl⟩
theorem bit_low {q i:Nat}:(q*2^(i+1)).testBit i=false:=by
 rw[Nat.testBit_eq_decide_div_mod_eq,Nat.pow_succ,Nat.mul_comm (2^i) 2,←Nat.mul_assoc,Nat.mul_div_cancel _ (Nat.pow_pos (by decide)),decide_eq_false (by omega)]
theorem bit_even (r:Nat):(r*2^1).testBit 0=false:=by rw[Nat.testBit_eq_decide_div_mod_eq,decide_eq_false (by simp)]
theorem len_double (r b:Nat) (h:r<b):(wordsOf (r*2^1)).length≤(wordsOf b).length+1:=by
 apply len_wordsOf
 have:=nv_words_lt b
 rw[Nat.pow_succ]
 omega
theorem trim_word {x:Nat} (h:x<18446744073709551616):trimW [x]=wordsOf x:=by
 have hw:WOK [x]:=fun y hy=>by rw[List.mem_singleton.1 hy];exact h
 rw[trimW_eq hw];simp[nv]
theorem rDiv_ok (a b : List Nat) (ha : WOK a) (hb : WOK b) (hla : a.length < 1000000) (hlb : b.length < 1000000) (h0 : nv b ≠ 0) :
  Pure Tryz.prog 142 [sW a,sW b] [.t (sW (wordsOf (nv a/nv b))),.t (sW (wordsOf (nv a%nv b)))]:=by
 have s1:=rSize_ok a (by omega)
 have s2:=rSize_ok b (by omega)
 have b1:=rBits_ok a ha (by omega)
 have b2:=rBits_ok b hb (by omega)
 obtain⟨A,hA⟩:∃A,nv a=A:=⟨_,rfl⟩
 obtain⟨B,hB⟩:∃B,nv b=B:=⟨_,rfl⟩
 have hlA:bitLen A≤64000000:=by
  have h1:=nv_lt ha
  rw[hA]at h1
  rcases Nat.eq_zero_or_pos A with h|h
  ·subst h;simp[bitLen]
  ·obtain⟨g1,_,g3⟩:=bitLen_bounds (d:=A) (by omega)
   have h2:2^(bitLen A-1)<2^(64*a.length):=Nat.lt_of_le_of_lt g1 (by rw[Nat.pow_mul];exact h1)
   have:=(Nat.pow_lt_pow_iff_right (show 1<2 by decide)).1 h2
   omega
 have hlB:bitLen B≤64000000:=by
  have h1:=nv_lt hb
  rw[hB]at h1
  obtain⟨g1,_,g3⟩:=bitLen_bounds (d:=B) (by omega)
  have h2:2^(bitLen B-1)<2^(64*b.length):=Nat.lt_of_le_of_lt g1 (by rw[Nat.pow_mul];exact h1)
  have:=(Nat.pow_lt_pow_iff_right (show 1<2 by decide)).1 h2
  omega
 rw[hA]at b1⊢
 rw[hB]at b2 h0⊢
 refine Pure.I Tryz.func142 [4,5] ?_
 refine SmV ?_
 refine CallG.P _ Tryz.call161 (s1) ?_
 refine SmV ?_
 apply selP_dec<;>intro h1
 ·refine SmV ?_
  refine CallG.P _ Tryz.call161 (s2) ?_
  refine SmV ?_
  apply selP_dec<;>intro h2
  ·obtain⟨xa,na2,la2⟩:=size_one ha (by omega)
   obtain⟨xb,nb2,lb2⟩:=size_one hb (by omega)
   rw[hA]at xa na2 la2
   rw[hB]at xb nb2 lb2
   have hq:=Nat.lt_of_le_of_lt (Nat.div_le_self A B) la2
   have hr:=Nat.lt_of_le_of_lt (Nat.mod_le A B) la2
   have t1:=rTrim_ok [A/B] (by simp)
   have t2:=rTrim_ok [A%B] (by simp)
   rw[trim_word hq]at t1
   rw[trim_word hr]at t2
   have hz:((B:Int)=0)=False:=by simp;omega
   have e1:sW [A/B]=T.slice [T.int .u64 ((A/B:Nat):Int)]:=rfl
   have e2:sW [A%B]=T.slice [T.int .u64 ((A%B:Nat):Int)]:=rfl
   have w1:IntKind.wrap .u64 (Int.tdiv (A:Int) (B:Int))=((A/B:Nat):Int):=by rw[←Int.ofNat_tdiv];generalize A/B=q at*;rw[u64];omega
   have w2:Int.tmod (A:Int) (B:Int)=((A%B:Nat):Int):=(Int.ofNat_tmod A B).symm
   have w3:IntKind.wrap .u64 ((A%B:Nat):Int)=((A%B:Nat):Int):=by generalize A%B=q at*;rw[u64];omega
   rw[e1]at t1
   rw[e2]at t2
   refine SmV ?_
   refine Goes.drawN mixed ?_
   simp-implicitDefEqProofs+decide only[go_sem,xa,xb,sW,hz,w1,w2,w3]
   refine CallD.P _ Tryz.call202 t1 ?_
   simp-implicitDefEqProofs+decide only[go_sem,xa,xb,sW,hz,w1,w2,w3]
   refine CallD.P _ Tryz.call202 t2 ?_
   refine Sm ?_
   refine⟨.mk (by kernel_rfl),?_⟩
   apply run_sound 200
   refine Sm ?_
   exact endF.V [(4,sW (wordsOf (A/B))),(5,sW (wordsOf (A%B)))] (vals_t (by simp-implicitDefEqProofs+decide only[go_sem,sW]<;>rfl) rfl (vals_t (by simp-implicitDefEqProofs+decide only[go_sem,sW]<;>rfl) rfl vals_nil))
  ·refine SmV ?_
   obtain⟨F,hF⟩:∃F,F=bitLen A+1-bitLen B:=⟨_,rfl⟩
   have w1:IntKind.wrap .i64 ((bitLen A:Int)-bitLen B)=(bitLen A:Int)-bitLen B:=by rw[w64]<;>omega
   have w2:IntKind.wrap .i64 ((bitLen A:Int)-bitLen B+1)=(bitLen A:Int)-bitLen B+1:=by rw[w64]<;>omega
   have hmx:(if (0:Int)<(bitLen A:Int)-bitLen B+1 then (bitLen A:Int)-bitLen B+1 else 0)=(F:Int):=by split<;>omega
   have w3:IntKind.wrap .i64 ((F:Int)-1)=(F:Int)-1:=by rw[w64]<;>omega
   have c1:=rShr_ok a F ha (by omega) (by omega)
   rw[hA]at c1
   have hQ0:A/2^F<B:=by
    obtain⟨g1,_,g3⟩:=bitLen_bounds h0
    rcases Nat.eq_zero_or_pos A with h|h
    ·subst h;simp;omega
    ·obtain⟨_,k2,k3⟩:=bitLen_bounds (d:=A) (by omega)
     refine Nat.lt_of_lt_of_le (Nat.div_lt_of_lt_mul ?_) g1
     rw[←Nat.pow_add]
     exact Nat.lt_of_lt_of_le k2 (Nat.pow_le_pow_right (by decide) (by omega))
   refine CallG.P _ Tryz.call139 (b1) ?_
   refine SmV ?_
   refine CallG.P _ Tryz.call139 (b2) ?_
   simp-implicitDefEqProofs+decide only[go_sem,sW,w1,w2,hmx]
   refine CallG.P _ Tryz.call203 (c1) ?_
   simp-implicitDefEqProofs+decide only[go_sem,sW,w3]
   refine Goes.loop (X:=List Nat×List Nat×Nat) (fun z=>⟨ofL [(0,tW a),(1,tW b),(6,tW z.1),(7,tW z.2.1),(10,.t (.int .i64 ((z.2.2:Int)-1)))],fun _=>none,0⟩)
    (fun z=>z.2.2≤F∧WOK z.1∧WOK z.2.1∧nv z.1=A/2^z.2.2/B*2^z.2.2∧nv z.2.1=A/2^z.2.2%B∧z.1.length≤1000001∧z.2.1.length≤1000002) (fun z=>z.2.2) ([],wordsOf (A/2^F),F) ?_ ?_ ?_
   ·exact Wk.trans (Wk.freeze 6 (t:=.slice []) (ws:=[]) (acc:=[]) (by simp-implicitDefEqProofs+decide only[go_sem]<;>rfl)) (by exact(Wk.slots _ rfl rfl (by simp-implicitDefEqProofs+decide only[go_sem,tW,sW]) (by simp-implicitDefEqProofs+decide only[go_sem,tW,sW])))
   ·have hn:=nv_wordsOf (A/2^F)
    have hl1:=wordsOf_len_mono (Nat.div_le_self A (2^F))
    have hl2:(wordsOf A).length≤a.length:=by rw[←hA];exact len_wordsOf (nv_lt ha)
    refine⟨Nat.le_refl _,WOK.repl 0,WOK_wordsOf _,?_,?_,by simp,by dsimp only;omega⟩
    ·show 0=_
     dsimp only
     rw[Nat.div_eq_of_lt hQ0,Nat.zero_mul]
    ·dsimp only
     rw[hn,Nat.mod_eq_of_lt hQ0]
   ·rintro ⟨q,r,j⟩ ⟨hj,hqo,hro,hqe,hre,hql,hrl⟩ J hJ
    dsimp only at hj hqo hro hqe hre hql hrl hJ⊢
    apply run_sound 200
    refine SmW ?_
    apply selP_dec<;>intro hc
    ·obtain⟨i,rfl⟩:∃i,j=i+1:=⟨j-1,by omega⟩
     have hi1:(((i+1:Nat):Int)-1)=(i:Int):=by omega
     have wi:IntKind.wrap .i64 ((i:Int)-1)=(i:Int)-1:=by rw[w64]<;>omega
     have hrB:nv r<B:=by rw[hre];exact Nat.mod_lt _ (by omega)
     have d1:=rShl_ok r 1 hro (by omega) (by decide)
     have d2:=rBit_ok a i ha (by omega) (by omega)
     rw[hA]at d2
     have hl3:=len_double (nv r) B hrB
     have hl4:(wordsOf B).length≤b.length:=by rw[←hB];exact len_wordsOf (nv_lt hb)
     have hab:=div_bit (a:=A) (b:=B) (i:=i) h0
     have hrd:=div_round (A:=A/2^(i+1)) (b:=B) (t:=(A.testBit i).toNat) h0 (by cases A.testBit i<;>decide)
     rw[←hab,←hre,←Nat.pow_one 2]at hrd
     obtain⟨r1,hr1⟩:∃r1,wordsOf (nv r*2^1)=r1:=⟨_,rfl⟩
     have hr1o:WOK r1:=by rw[←hr1];exact WOK_wordsOf _
     have hr1v:nv r1=nv r*2^1:=by rw[←hr1,nv_wordsOf]
     rw[hr1]at d1 hl3
     rw[hi1]
     refine SmW ?_
     refine CallG.P _ Tryz.call143 (d1) ?_
     refine SmW ?_
     refine CallG.P _ Tryz.call204 (d2) ?_
     cases ht:A.testBit i with
     | true =>
       rw[ht]at hrd hab
       have d3:=rSet_ok r1 0 hr1o (by omega) (by decide)
       have hte:(nv r1).testBit 0=false:=by rw[hr1v];exact bit_even _
       obtain⟨k1,k2⟩:=setL_spec hr1o hte
       have k3:=setL_length r1 0
       unfold setM at k3
       rw[hr1v]at k2
       obtain⟨r2,hr2⟩:∃r2,setL r1 0=r2:=⟨_,rfl⟩
       rw[hr2]at d3 k1 k2 k3
       rw[show nv r*2^1+2^0=2^1*nv r+true.toNat by simp;omega]at k2
       refine SmW ?_
       refine CallG.P _ Tryz.call205 (d3) ?_
       have c2:=rCmp_ok r2 b k1 hb (by omega) (by omega)
       rw[hB]at c2
       refine SmW ?_
       refine CallG.P _ Tryz.call206 (c2) ?_
       refine SmW ?_
       have hcmp:decide (cmpI (nv r2) B≥0)=decide (B≤nv r2):=decide_eq_decide.2 (by unfold cmpI;split<;>(try split)<;>omega)
       simp-implicitDefEqProofs+decide only[go_sem,hcmp]
       apply selP_dec<;>intro h5
       ·rw[if_pos (by rw[←k2];exact h5)]at hrd
        have c3:=rSub_ok r2 b k1 hb (by omega) (by omega) (by rw[hB];exact h5)
        have hte:(nv q).testBit i=false:=by rw[hqe];exact bit_low
        obtain⟨g1,g2⟩:=setL_spec hqo hte
        have g3:=setL_length q i
        unfold setM at g3
        have c4:=rSet_ok q i hqo (by omega) (by omega)
        obtain⟨q2,hq2⟩:∃q2,setL q i=q2:=⟨_,rfl⟩
        rw[hq2]at g1 g2 g3 c4
        rw[hB]at c3
        obtain⟨r3,hr3⟩:∃r3,wordsOf (nv r2-B)=r3:=⟨_,rfl⟩
        have m1:nv r3=A/2^i%B:=by rw[←hr3,nv_wordsOf,hrd.2,k2]
        have m2:WOK r3:=by rw[←hr3];exact WOK_wordsOf _
        have m3:r3.length≤1000002:=by
         rw[←hr3]
         have:=len_mono (Nat.sub_le (nv r2) B)
         have h6:(wordsOf (nv r2)).length≤r2.length:=len_wordsOf (nv_lt k1)
         omega
        have m4:nv q2=A/2^i/B*2^i:=by
         rw[g2,hqe,hrd.1,Nat.pow_one]
         generalize A/2^(i+1)/B=z
         rw[Nat.pow_succ,Nat.add_mul,Nat.one_mul,Nat.mul_comm (2^i) 2,←Nat.mul_assoc,Nat.mul_comm z 2]
        rw[hr3]at c3
        refine SmW ?_
        refine CallG.P _ Tryz.call207 (c3) ?_
        refine SmW ?_
        refine CallG.P _ Tryz.call205 (c4) ?_
        simp-implicitDefEqProofs+decide only[go_sem,tW,sW,wi]
        refine hJ (q2,r3,i) _ ⟨by dsimp only;omega,g1,m2,m4,m1,by dsimp only;omega,m3⟩ (by dsimp only;omega) (Wk.slots _ rfl rfl (by simp-implicitDefEqProofs+decide only[go_sem,tW,sW]) (by simp-implicitDefEqProofs+decide only[go_sem,tW,sW]))
       ·rw[if_neg (by rw[←k2];exact h5)]at hrd
        have m1:nv r2=A/2^i%B:=by rw[hrd.2,k2]
        have m4:nv q=A/2^i/B*2^i:=by
         rw[hqe,hrd.1,Nat.pow_one]
         generalize A/2^(i+1)/B=z
         rw[Nat.pow_succ,Nat.mul_comm (2^i) 2,←Nat.mul_assoc,Nat.mul_comm z 2]
        simp-implicitDefEqProofs+decide only[go_sem,tW,sW,wi]
        refine hJ (q,r2,i) _ ⟨by dsimp only;omega,hqo,k1,m4,m1,hql,by dsimp only;omega⟩ (by dsimp only;omega) (Wk.slots _ rfl rfl (by simp-implicitDefEqProofs+decide only[go_sem,tW,sW]) (by simp-implicitDefEqProofs+decide only[go_sem,tW,sW]))
     | false =>
       rw[ht]at hrd hab
       obtain⟨r2,rfl⟩:∃r2,r2=r1:=⟨_,rfl⟩
       have k1:=hr1o
       have k2:nv r2=2^1*nv r+false.toNat:=by rw[hr1v,Nat.mul_comm];rfl
       have k3:r2.length=r2.length:=rfl
       have c2:=rCmp_ok r2 b k1 hb (by omega) (by omega)
       rw[hB]at c2
       refine SmW ?_
       refine CallG.P _ Tryz.call206 (c2) ?_
       refine SmW ?_
       have hcmp:decide (cmpI (nv r2) B≥0)=decide (B≤nv r2):=decide_eq_decide.2 (by unfold cmpI;split<;>(try split)<;>omega)
       simp-implicitDefEqProofs+decide only[go_sem,hcmp]
       apply selP_dec<;>intro h5
       ·rw[if_pos (by rw[←k2];exact h5)]at hrd
        have c3:=rSub_ok r2 b k1 hb (by omega) (by omega) (by rw[hB];exact h5)
        have hte:(nv q).testBit i=false:=by rw[hqe];exact bit_low
        obtain⟨g1,g2⟩:=setL_spec hqo hte
        have g3:=setL_length q i
        unfold setM at g3
        have c4:=rSet_ok q i hqo (by omega) (by omega)
        obtain⟨q2,hq2⟩:∃q2,setL q i=q2:=⟨_,rfl⟩
        rw[hq2]at g1 g2 g3 c4
        rw[hB]at c3
        obtain⟨r3,hr3⟩:∃r3,wordsOf (nv r2-B)=r3:=⟨_,rfl⟩
        have m1:nv r3=A/2^i%B:=by rw[←hr3,nv_wordsOf,hrd.2,k2]
        have m2:WOK r3:=by rw[←hr3];exact WOK_wordsOf _
        have m3:r3.length≤1000002:=by
         rw[←hr3]
         have:=len_mono (Nat.sub_le (nv r2) B)
         have h6:(wordsOf (nv r2)).length≤r2.length:=len_wordsOf (nv_lt k1)
         omega
        have m4:nv q2=A/2^i/B*2^i:=by
         rw[g2,hqe,hrd.1,Nat.pow_one]
         generalize A/2^(i+1)/B=z
         rw[Nat.pow_succ,Nat.add_mul,Nat.one_mul,Nat.mul_comm (2^i) 2,←Nat.mul_assoc,Nat.mul_comm z 2]
        rw[hr3]at c3
        refine SmW ?_
        refine CallG.P _ Tryz.call207 (c3) ?_
        refine SmW ?_
        refine CallG.P _ Tryz.call205 (c4) ?_
        simp-implicitDefEqProofs+decide only[go_sem,tW,sW,wi]
        refine hJ (q2,r3,i) _ ⟨by dsimp only;omega,g1,m2,m4,m1,by dsimp only;omega,m3⟩ (by dsimp only;omega) (Wk.slots _ rfl rfl (by simp-implicitDefEqProofs+decide only[go_sem,tW,sW]) (by simp-implicitDefEqProofs+decide only[go_sem,tW,sW]))
       ·rw[if_neg (by rw[←k2];exact h5)]at hrd
        have m1:nv r2=A/2^i%B:=by rw[hrd.2,k2]
        have m4:nv q=A/2^i/B*2^i:=by
         rw[hqe,hrd.1,Nat.pow_one]
         generalize A/2^(i+1)/B=z
         rw[Nat.pow_succ,Nat.mul_comm (2^i) 2,←Nat.mul_assoc,Nat.mul_comm z 2]
        simp-implicitDefEqProofs+decide only[go_sem,tW,sW,wi]
        refine hJ (q,r2,i) _ ⟨by dsimp only;omega,hqo,k1,m4,m1,hql,by dsimp only;omega⟩ (by dsimp only;omega) (Wk.slots _ rfl rfl (by simp-implicitDefEqProofs+decide only[go_sem,tW,sW]) (by simp-implicitDefEqProofs+decide only[go_sem,tW,sW]))
    ·obtain rfl:j=0:=by omega
     rw[Nat.pow_zero,Nat.div_one]at hqe hre
     rw[Nat.mul_one]at hqe
     have t1:=rTrim_ok q (by omega)
     have t2:=rTrim_ok r (by omega)
     rw[trimW_eq hqo,hqe]at t1
     rw[trimW_eq hro,hre]at t2
     refine SmW ?_
     refine CallG.P _ Tryz.call202 (t1) ?_
     refine SmW ?_
     refine CallG.P _ Tryz.call202 (t2) ?_
     refine SmW ?_
     exact endF.V [(4,sW (wordsOf (A/B))),(5,sW (wordsOf (A%B)))] (vals_t (by simp-implicitDefEqProofs+decide only[go_sem,sW]<;>rfl) rfl (vals_t (by simp-implicitDefEqProofs+decide only[go_sem,sW]<;>rfl) rfl vals_nil))
 ·refine SmV ?_
  obtain⟨F,hF⟩:∃F,F=bitLen A+1-bitLen B:=⟨_,rfl⟩
  have w1:IntKind.wrap .i64 ((bitLen A:Int)-bitLen B)=(bitLen A:Int)-bitLen B:=by rw[w64]<;>omega
  have w2:IntKind.wrap .i64 ((bitLen A:Int)-bitLen B+1)=(bitLen A:Int)-bitLen B+1:=by rw[w64]<;>omega
  have hmx:(if (0:Int)<(bitLen A:Int)-bitLen B+1 then (bitLen A:Int)-bitLen B+1 else 0)=(F:Int):=by split<;>omega
  have w3:IntKind.wrap .i64 ((F:Int)-1)=(F:Int)-1:=by rw[w64]<;>omega
  have c1:=rShr_ok a F ha (by omega) (by omega)
  rw[hA]at c1
  have hQ0:A/2^F<B:=by
   obtain⟨g1,_,g3⟩:=bitLen_bounds h0
   rcases Nat.eq_zero_or_pos A with h|h
   ·subst h;simp;omega
   ·obtain⟨_,k2,k3⟩:=bitLen_bounds (d:=A) (by omega)
    refine Nat.lt_of_lt_of_le (Nat.div_lt_of_lt_mul ?_) g1
    rw[←Nat.pow_add]
    exact Nat.lt_of_lt_of_le k2 (Nat.pow_le_pow_right (by decide) (by omega))
  refine CallG.P _ Tryz.call139 (b1) ?_
  refine SmV ?_
  refine CallG.P _ Tryz.call139 (b2) ?_
  simp-implicitDefEqProofs+decide only[go_sem,sW,w1,w2,hmx]
  refine CallG.P _ Tryz.call203 (c1) ?_
  simp-implicitDefEqProofs+decide only[go_sem,sW,w3]
  refine Goes.loop (X:=List Nat×List Nat×Nat) (fun z=>⟨ofL [(0,tW a),(1,tW b),(6,tW z.1),(7,tW z.2.1),(10,.t (.int .i64 ((z.2.2:Int)-1)))],fun _=>none,0⟩)
   (fun z=>z.2.2≤F∧WOK z.1∧WOK z.2.1∧nv z.1=A/2^z.2.2/B*2^z.2.2∧nv z.2.1=A/2^z.2.2%B∧z.1.length≤1000001∧z.2.1.length≤1000002) (fun z=>z.2.2) ([],wordsOf (A/2^F),F) ?_ ?_ ?_
  ·exact Wk.trans (Wk.freeze 6 (t:=.slice []) (ws:=[]) (acc:=[]) (by simp-implicitDefEqProofs+decide only[go_sem]<;>rfl)) (by exact(Wk.slots _ rfl rfl (by simp-implicitDefEqProofs+decide only[go_sem,tW,sW]) (by simp-implicitDefEqProofs+decide only[go_sem,tW,sW])))
  ·have hn:=nv_wordsOf (A/2^F)
   have hl1:=wordsOf_len_mono (Nat.div_le_self A (2^F))
   have hl2:(wordsOf A).length≤a.length:=by rw[←hA];exact len_wordsOf (nv_lt ha)
   refine⟨Nat.le_refl _,WOK.repl 0,WOK_wordsOf _,?_,?_,by simp,by dsimp only;omega⟩
   ·show 0=_
    dsimp only
    rw[Nat.div_eq_of_lt hQ0,Nat.zero_mul]
   ·dsimp only
    rw[hn,Nat.mod_eq_of_lt hQ0]
  ·rintro ⟨q,r,j⟩ ⟨hj,hqo,hro,hqe,hre,hql,hrl⟩ J hJ
   dsimp only at hj hqo hro hqe hre hql hrl hJ⊢
   apply run_sound 200
   refine SmW ?_
   apply selP_dec<;>intro hc
   ·obtain⟨i,rfl⟩:∃i,j=i+1:=⟨j-1,by omega⟩
    have hi1:(((i+1:Nat):Int)-1)=(i:Int):=by omega
    have wi:IntKind.wrap .i64 ((i:Int)-1)=(i:Int)-1:=by rw[w64]<;>omega
    have hrB:nv r<B:=by rw[hre];exact Nat.mod_lt _ (by omega)
    have d1:=rShl_ok r 1 hro (by omega) (by decide)
    have d2:=rBit_ok a i ha (by omega) (by omega)
    rw[hA]at d2
    have hl3:=len_double (nv r) B hrB
    have hl4:(wordsOf B).length≤b.length:=by rw[←hB];exact len_wordsOf (nv_lt hb)
    have hab:=div_bit (a:=A) (b:=B) (i:=i) h0
    have hrd:=div_round (A:=A/2^(i+1)) (b:=B) (t:=(A.testBit i).toNat) h0 (by cases A.testBit i<;>decide)
    rw[←hab,←hre,←Nat.pow_one 2]at hrd
    obtain⟨r1,hr1⟩:∃r1,wordsOf (nv r*2^1)=r1:=⟨_,rfl⟩
    have hr1o:WOK r1:=by rw[←hr1];exact WOK_wordsOf _
    have hr1v:nv r1=nv r*2^1:=by rw[←hr1,nv_wordsOf]
    rw[hr1]at d1 hl3
    rw[hi1]
    refine SmW ?_
    refine CallG.P _ Tryz.call143 (d1) ?_
    refine SmW ?_
    refine CallG.P _ Tryz.call204 (d2) ?_
    cases ht:A.testBit i with
    | true =>
      rw[ht]at hrd hab
      have d3:=rSet_ok r1 0 hr1o (by omega) (by decide)
      have hte:(nv r1).testBit 0=false:=by rw[hr1v];exact bit_even _
      obtain⟨k1,k2⟩:=setL_spec hr1o hte
      have k3:=setL_length r1 0
      unfold setM at k3
      rw[hr1v]at k2
      obtain⟨r2,hr2⟩:∃r2,setL r1 0=r2:=⟨_,rfl⟩
      rw[hr2]at d3 k1 k2 k3
      rw[show nv r*2^1+2^0=2^1*nv r+true.toNat by simp;omega]at k2
      refine SmW ?_
      refine CallG.P _ Tryz.call205 (d3) ?_
      have c2:=rCmp_ok r2 b k1 hb (by omega) (by omega)
      rw[hB]at c2
      refine SmW ?_
      refine CallG.P _ Tryz.call206 (c2) ?_
      refine SmW ?_
      have hcmp:decide (cmpI (nv r2) B≥0)=decide (B≤nv r2):=decide_eq_decide.2 (by unfold cmpI;split<;>(try split)<;>omega)
      simp-implicitDefEqProofs+decide only[go_sem,hcmp]
      apply selP_dec<;>intro h5
      ·rw[if_pos (by rw[←k2];exact h5)]at hrd
       have c3:=rSub_ok r2 b k1 hb (by omega) (by omega) (by rw[hB];exact h5)
       have hte:(nv q).testBit i=false:=by rw[hqe];exact bit_low
       obtain⟨g1,g2⟩:=setL_spec hqo hte
       have g3:=setL_length q i
       unfold setM at g3
       have c4:=rSet_ok q i hqo (by omega) (by omega)
       obtain⟨q2,hq2⟩:∃q2,setL q i=q2:=⟨_,rfl⟩
       rw[hq2]at g1 g2 g3 c4
       rw[hB]at c3
       obtain⟨r3,hr3⟩:∃r3,wordsOf (nv r2-B)=r3:=⟨_,rfl⟩
       have m1:nv r3=A/2^i%B:=by rw[←hr3,nv_wordsOf,hrd.2,k2]
       have m2:WOK r3:=by rw[←hr3];exact WOK_wordsOf _
       have m3:r3.length≤1000002:=by
        rw[←hr3]
        have:=len_mono (Nat.sub_le (nv r2) B)
        have h6:(wordsOf (nv r2)).length≤r2.length:=len_wordsOf (nv_lt k1)
        omega
       have m4:nv q2=A/2^i/B*2^i:=by
        rw[g2,hqe,hrd.1,Nat.pow_one]
        generalize A/2^(i+1)/B=z
        rw[Nat.pow_succ,Nat.add_mul,Nat.one_mul,Nat.mul_comm (2^i) 2,←Nat.mul_assoc,Nat.mul_comm z 2]
       rw[hr3]at c3
       refine SmW ?_
       refine CallG.P _ Tryz.call207 (c3) ?_
       refine SmW ?_
       refine CallG.P _ Tryz.call205 (c4) ?_
       simp-implicitDefEqProofs+decide only[go_sem,tW,sW,wi]
       refine hJ (q2,r3,i) _ ⟨by dsimp only;omega,g1,m2,m4,m1,by dsimp only;omega,m3⟩ (by dsimp only;omega) (Wk.slots _ rfl rfl (by simp-implicitDefEqProofs+decide only[go_sem,tW,sW]) (by simp-implicitDefEqProofs+decide only[go_sem,tW,sW]))
      ·rw[if_neg (by rw[←k2];exact h5)]at hrd
       have m1:nv r2=A/2^i%B:=by rw[hrd.2,k2]
       have m4:nv q=A/2^i/B*2^i:=by
        rw[hqe,hrd.1,Nat.pow_one]
        generalize A/2^(i+1)/B=z
        rw[Nat.pow_succ,Nat.mul_comm (2^i) 2,←Nat.mul_assoc,Nat.mul_comm z 2]
       simp-implicitDefEqProofs+decide only[go_sem,tW,sW,wi]
       refine hJ (q,r2,i) _ ⟨by dsimp only;omega,hqo,k1,m4,m1,hql,by dsimp only;omega⟩ (by dsimp only;omega) (Wk.slots _ rfl rfl (by simp-implicitDefEqProofs+decide only[go_sem,tW,sW]) (by simp-implicitDefEqProofs+decide only[go_sem,tW,sW]))
    | false =>
      rw[ht]at hrd hab
      obtain⟨r2,rfl⟩:∃r2,r2=r1:=⟨_,rfl⟩
      have k1:=hr1o
      have k2:nv r2=2^1*nv r+false.toNat:=by rw[hr1v,Nat.mul_comm];rfl
      have k3:r2.length=r2.length:=rfl
      have c2:=rCmp_ok r2 b k1 hb (by omega) (by omega)
      rw[hB]at c2
      refine SmW ?_
      refine CallG.P _ Tryz.call206 (c2) ?_
      refine SmW ?_
      have hcmp:decide (cmpI (nv r2) B≥0)=decide (B≤nv r2):=decide_eq_decide.2 (by unfold cmpI;split<;>(try split)<;>omega)
      simp-implicitDefEqProofs+decide only[go_sem,hcmp]
      apply selP_dec<;>intro h5
      ·rw[if_pos (by rw[←k2];exact h5)]at hrd
       have c3:=rSub_ok r2 b k1 hb (by omega) (by omega) (by rw[hB];exact h5)
       have hte:(nv q).testBit i=false:=by rw[hqe];exact bit_low
       obtain⟨g1,g2⟩:=setL_spec hqo hte
       have g3:=setL_length q i
       unfold setM at g3
       have c4:=rSet_ok q i hqo (by omega) (by omega)
       obtain⟨q2,hq2⟩:∃q2,setL q i=q2:=⟨_,rfl⟩
       rw[hq2]at g1 g2 g3 c4
       rw[hB]at c3
       obtain⟨r3,hr3⟩:∃r3,wordsOf (nv r2-B)=r3:=⟨_,rfl⟩
       have m1:nv r3=A/2^i%B:=by rw[←hr3,nv_wordsOf,hrd.2,k2]
       have m2:WOK r3:=by rw[←hr3];exact WOK_wordsOf _
       have m3:r3.length≤1000002:=by
        rw[←hr3]
        have:=len_mono (Nat.sub_le (nv r2) B)
        have h6:(wordsOf (nv r2)).length≤r2.length:=len_wordsOf (nv_lt k1)
        omega
       have m4:nv q2=A/2^i/B*2^i:=by
        rw[g2,hqe,hrd.1,Nat.pow_one]
        generalize A/2^(i+1)/B=z
        rw[Nat.pow_succ,Nat.add_mul,Nat.one_mul,Nat.mul_comm (2^i) 2,←Nat.mul_assoc,Nat.mul_comm z 2]
       rw[hr3]at c3
       refine SmW ?_
       refine CallG.P _ Tryz.call207 (c3) ?_
       refine SmW ?_
       refine CallG.P _ Tryz.call205 (c4) ?_
       simp-implicitDefEqProofs+decide only[go_sem,tW,sW,wi]
       refine hJ (q2,r3,i) _ ⟨by dsimp only;omega,g1,m2,m4,m1,by dsimp only;omega,m3⟩ (by dsimp only;omega) (Wk.slots _ rfl rfl (by simp-implicitDefEqProofs+decide only[go_sem,tW,sW]) (by simp-implicitDefEqProofs+decide only[go_sem,tW,sW]))
      ·rw[if_neg (by rw[←k2];exact h5)]at hrd
       have m1:nv r2=A/2^i%B:=by rw[hrd.2,k2]
       have m4:nv q=A/2^i/B*2^i:=by
        rw[hqe,hrd.1,Nat.pow_one]
        generalize A/2^(i+1)/B=z
        rw[Nat.pow_succ,Nat.mul_comm (2^i) 2,←Nat.mul_assoc,Nat.mul_comm z 2]
       simp-implicitDefEqProofs+decide only[go_sem,tW,sW,wi]
       refine hJ (q,r2,i) _ ⟨by dsimp only;omega,hqo,k1,m4,m1,hql,by dsimp only;omega⟩ (by dsimp only;omega) (Wk.slots _ rfl rfl (by simp-implicitDefEqProofs+decide only[go_sem,tW,sW]) (by simp-implicitDefEqProofs+decide only[go_sem,tW,sW]))
   ·obtain rfl:j=0:=by omega
    rw[Nat.pow_zero,Nat.div_one]at hqe hre
    rw[Nat.mul_one]at hqe
    have t1:=rTrim_ok q (by omega)
    have t2:=rTrim_ok r (by omega)
    rw[trimW_eq hqo,hqe]at t1
    rw[trimW_eq hro,hre]at t2
    refine SmW ?_
    refine CallG.P _ Tryz.call202 (t1) ?_
    refine SmW ?_
    refine CallG.P _ Tryz.call202 (t2) ?_
    refine SmW ?_
    exact endF.V [(4,sW (wordsOf (A/B))),(5,sW (wordsOf (A%B)))] (vals_t (by simp-implicitDefEqProofs+decide only[go_sem,sW]<;>rfl) rfl (vals_t (by simp-implicitDefEqProofs+decide only[go_sem,sW]<;>rfl) rfl vals_nil))
theorem WOK_one:WOK [1]:=fun x hx=>by rw[List.mem_singleton.1 hx];decide
theorem nv_one:nv [1]=1:=rfl
theorem words_one:wordsOf 1=[1]:=wordsOf_small (by decide) (by decide)
theorem cmp_one {n:Nat}:(cmpI n 1=0)↔n=1:=by unfold cmpI;split<;>(try split)<;>omega
theorem rPart_ok (a g:List Nat) (ha:WOK a) (hg:WOK g) (hla:a.length<1000000) (hlg:g.length<1000000) (h0:nv g≠0):Pure Tryz.prog 163 [sW a,sW g] [.t (sW (wordsOf (nv a/nv g)))]:=by
 have c1:=rSize_ok g (by omega)
 have c2:=rCmp_ok g [1] hg WOK_one (by omega) (by decide)
 rw[nv_one]at c2
 have c3:=rTrim_ok a (by omega)
 rw[trimW_eq ha]at c3
 have c4:=rDiv_ok a g ha hg (by omega) (by omega) h0
 have hs:¬sizeW g=0:=fun h=>h0 ((nv_zero g).1 h)
 have e1:sW [1]=T.slice [T.int .u64 1]:=rfl
 rw[e1]at c2
 refine Pure.I Tryz.func163 [4] ?_
 refine SmV ?_
 refine CallG.P _ Tryz.call161 (c1) ?_
 refine Sm ?_
 refine selP_dec (fun h=>absurd (by omega) hs) (fun _=> ?_)
 refine SmV ?_
 refine CallG.P _ Tryz.call206 (c2) ?_
 refine Sm ?_
 apply selP_dec<;>intro h
 ·rw[cmp_one.1 h,Nat.div_one]
  refine SmV ?_
  refine CallG.P _ Tryz.call202 (c3) ?_
  refine Sm ?_
  exact endF.V [(4,sW (wordsOf (nv a)))] (vals_t (by simp-implicitDefEqProofs+decide only[go_sem,sW]<;>rfl) rfl vals_nil)
 ·refine SmV ?_
  refine CallG.PS _ Tryz.call142 (c4) ?_
  refine Sm ?_
  exact endF.V [(4,sW (wordsOf (nv a/nv g)))] (vals_t (by simp-implicitDefEqProofs+decide only[go_sem,sW]<;>rfl) rfl vals_nil)
theorem rMake_ok (ng:Bool) (a b:List Nat) (ha:WOK a) (hb:WOK b) (hla:a.length≤100000) (hlb:b.length≤100000) (h0:nv b≠0) (hz:tz (nv b)≤65536):Pure Tryz.prog 105 [.bool ng,sW a,sW b] [.t (lowQ ng (nv a) (nv b)).T]:=by
 have c1:=rSize_ok a (by omega)
 refine Pure.J Tryz.func105 [.c 6 _] ?_
 refine SmV ?_
 refine CallG.P _ Tryz.call161 (c1) ?_
 refine Sm ?_
 apply selP_dec<;>intro h
 ·have ha0:nv a=0:=(nv_zero a).1 (by omega)
  have hl:lowQ ng (nv a) (nv b)=⟨false,[],[1]⟩:=by
   unfold lowQ
   rw[ha0,Nat.gcd_zero_left,Nat.zero_div,Nat.div_self (by omega),words_one]
   simp[wordsOf_zero]
  rw[hl]
  refine Sm ?_
  exact endC.one (.inr rfl) (by first|rfl|(simp-implicitDefEqProofs+decide only[go_sem,valC,Rt.T,rT,sW];done)|(simp-implicitDefEqProofs+decide only[go_sem,valC,Rt.T,rT,sW];rfl)) (by first|rfl|(simp-implicitDefEqProofs+decide only[go_sem,Rt.T,rT,sW];done)|(simp-implicitDefEqProofs+decide only[go_sem,Rt.T,rT,sW];rfl)) (fun l hp=>by cases l<;>first|rfl|cases hp) rfl
 ·have ha0:nv a≠0:=fun e=>h (by have:=(nv_zero a).2 e;omega)
  have hg0:0<Nat.gcd (nv a) (nv b):=Nat.gcd_pos_of_pos_right _ (by omega)
  have hgl:(wordsOf (Nat.gcd (nv a) (nv b))).length≤b.length:=by
   have h1:=len_mono (Nat.gcd_le_right (nv a) (show 0<nv b by omega))
   have h2:(wordsOf (nv b)).length≤b.length:=len_wordsOf (nv_lt hb)
   omega
  have c2:=rGcd_big a b ha hb hla hlb (fun _ _=>by omega)
  have c3:=rPart_ok a (wordsOf (Nat.gcd (nv a) (nv b))) ha (WOK_wordsOf _) (by omega) (by omega) (by rw[nv_wordsOf];omega)
  have c4:=rPart_ok b (wordsOf (Nat.gcd (nv a) (nv b))) hb (WOK_wordsOf _) (by omega) (by omega) (by rw[nv_wordsOf];omega)
  rw[nv_wordsOf]at c3 c4
  have hnz:nv a/Nat.gcd (nv a) (nv b)≠0:=by
   have:=Nat.div_pos (Nat.gcd_le_left (nv b) (show 0<nv a by omega)) hg0
   omega
  have hl:lowQ ng (nv a) (nv b)=⟨ng,wordsOf (nv a/Nat.gcd (nv a) (nv b)),wordsOf (nv b/Nat.gcd (nv a) (nv b))⟩:=by
   unfold lowQ
   rw[decide_eq_true hnz,Bool.and_true]
  rw[hl]
  refine SmV ?_
  refine CallG.PS _ Tryz.call162 (c2) ?_
  refine SmV ?_
  refine CallG.PS _ Tryz.call163 (c3) ?_
  refine SmV ?_
  refine CallG.PS _ Tryz.call163 (c4) ?_
  refine SmV ?_
  exact endC.one (.inr rfl) (by first|rfl|(simp-implicitDefEqProofs+decide only[go_sem,valC,Rt.T,rT,sW];done)|(simp-implicitDefEqProofs+decide only[go_sem,valC,Rt.T,rT,sW];rfl)) (by first|rfl|(simp-implicitDefEqProofs+decide only[go_sem,Rt.T,rT,sW];done)|(simp-implicitDefEqProofs+decide only[go_sem,Rt.T,rT,sW];rfl)) (fun l hp=>by cases l<;>first|rfl|cases hp) rfl
def ZB (r:Rat) (k:Nat):Prop:=tz r.den≤k
theorem rNeg_okQ (r:Rat) (h:QB r 100000) (hz:ZB r 65536):Pure Tryz.prog 176 [(qR r).T] [.t (qR (-r)).T]:=by
 have h1:=h.n
 have h2:=h.d
 have c:=rMake_ok (!neg1 r) (wordsOf r.num.natAbs) (wordsOf r.den) (WOK_wordsOf _) (WOK_wordsOf _) h1 h2 (by rw[nv_wordsOf];exact r.den_nz) (by rw[nv_wordsOf];exact hz)
 have hl:lowQ (!neg1 r) r.num.natAbs r.den=qR (-r):=by
  rw[lowQ_eq _ _ _ r.den_nz]
  congr 1
  have e:sgn (!neg1 r) r.num.natAbs=(-r).num:=by
   rw[show(-r).num= -r.num from rfl]
   unfold sgn neg1
   by_cases h:r.num<0
   ·rw[decide_eq_true h];simp;omega
   ·rw[decide_eq_false h];simp;omega
  rw[e]
  exact Rat.normalize_self (-r)
 rw[nv_wordsOf,nv_wordsOf,hl]at c
 rw[qT]at c⊢
 rw[qT]
 refine Pure.J Tryz.func176 [.c 2 _] ?_
 refine SmV ?_
 refine CallG.PS _ Tryz.call105 (c) ?_
 refine SmV ?_
 exact endC.Q
theorem tz_mul {a b:Nat} (ha:a≠0) (hb:b≠0):tz (a*b)=tz a+tz b:=by
 obtain⟨x,x1,x2,x3⟩:=tz_spec a ha
 obtain⟨y,y1,y2,y3⟩:=tz_spec b hb
 have hxy:(x*y)%2=1:=by rw[Nat.mul_mod,x1,y1]
 have key:∀(k o:Nat),o%2=1→tz (2^k*o)=k:=fun k o ho=>by
  induction k with
  |zero=>rw[Nat.pow_zero,Nat.one_mul];exact tz_odd ho
  | succ k ih =>
    have ho0:o≠0:=by omega
    have hne:2^(k+1)*o≠0:=Nat.mul_ne_zero (by have:=Nat.pow_pos (n:=k+1) (show 0<2 by decide);omega) ho0
    have e:2^(k+1)*o=2*(2^k*o):=by rw[Nat.pow_succ,Nat.mul_comm (2^k) 2,Nat.mul_assoc]
    rw[tz_even (by rw[e];omega) hne,e,Nat.mul_div_cancel_left _ (by decide),ih]
 have e:a*b=2^(tz a+tz b)*(x*y):=by
  conv=>lhs;rw[x2,y2]
  rw[Nat.pow_add]
  simp only[Nat.mul_assoc,Nat.mul_left_comm]
 rw[e,key _ _ hxy]
theorem rAdd_okQ (r s:Rat) (hr:QB r 40000) (hs:QB s 40000) (zr:ZB r 30000) (zs:ZB s 30000):Pure Tryz.prog 177 [(qR r).T,(qR s).T] [.t (qR (r+s)).T]:=by
 have r1:=hr.n
 have r2:=hr.d
 have s1:=hs.n
 have s2:=hs.d
 have m1:=rMul_ok (wordsOf r.num.natAbs) (wordsOf s.den) (WOK_wordsOf _) (WOK_wordsOf _) (by omega) (by omega)
 have m2:=rMul_ok (wordsOf s.num.natAbs) (wordsOf r.den) (WOK_wordsOf _) (WOK_wordsOf _) (by omega) (by omega)
 have m3:=rMul_ok (wordsOf r.den) (wordsOf s.den) (WOK_wordsOf _) (WOK_wordsOf _) (by omega) (by omega)
 simp only[nv_wordsOf]at m1 m2 m3
 have l1:=len_prod r.num.natAbs s.den
 have l2:=len_prod s.num.natAbs r.den
 have l3:=len_prod r.den s.den
 have hlen:=Nat.le_trans (len_mono (sumQ_le (neg1 r) (r.num.natAbs*s.den) (neg1 s) (s.num.natAbs*r.den))) (len_sum _ _)
 have c4:=rMake_ok (sumQ (neg1 r) (r.num.natAbs*s.den) (neg1 s) (s.num.natAbs*r.den)).1 (wordsOf (sumQ (neg1 r) (r.num.natAbs*s.den) (neg1 s) (s.num.natAbs*r.den)).2) (wordsOf (r.den*s.den)) (WOK_wordsOf _) (WOK_wordsOf _) (by omega) (by omega)
  (by rw[nv_wordsOf];exact Nat.mul_ne_zero r.den_nz s.den_nz) (by rw[nv_wordsOf,tz_mul r.den_nz s.den_nz];unfold ZB at zr zs;omega)
 rw[nv_wordsOf,nv_wordsOf,add_low r s]at c4
 have ca:=rAdd_ok (wordsOf (r.num.natAbs*s.den)) (wordsOf (s.num.natAbs*r.den)) (WOK_wordsOf _) (WOK_wordsOf _) (by omega) (by omega)
 have cc:=rCmp_ok (wordsOf (r.num.natAbs*s.den)) (wordsOf (s.num.natAbs*r.den)) (WOK_wordsOf _) (WOK_wordsOf _) (by omega) (by omega)
 have cs:=fun(h:s.num.natAbs*r.den≤r.num.natAbs*s.den)=>rSub_ok (wordsOf (r.num.natAbs*s.den)) (wordsOf (s.num.natAbs*r.den)) (WOK_wordsOf _) (WOK_wordsOf _) (by omega) (by omega) (by rw[nv_wordsOf,nv_wordsOf];exact h)
 have ct:=fun(h:r.num.natAbs*s.den≤s.num.natAbs*r.den)=>rSub_ok (wordsOf (s.num.natAbs*r.den)) (wordsOf (r.num.natAbs*s.den)) (WOK_wordsOf _) (WOK_wordsOf _) (by omega) (by omega) (by rw[nv_wordsOf,nv_wordsOf];exact h)
 simp only[nv_wordsOf]at ca cc cs ct
 rw[qT,qT]
 generalize r.num.natAbs*s.den=X at*
 generalize s.num.natAbs*r.den=Y at*
 generalize r.den*s.den=D at*
 generalize r+s=t at c4⊢
 rw[qT]at c4⊢
 unfold sumQ at c4
 refine Pure.J Tryz.func177 [.c 4 _] ?_
 refine SmV ?_
 refine CallG.P _ Tryz.call200 (m1) ?_
 refine SmV ?_
 refine CallG.P _ Tryz.call200 (m2) ?_
 refine SmV ?_
 refine CallG.P _ Tryz.call200 (m3) ?_
 by_cases hn:neg1 r=neg1 s
 ·have hb:decide (neg1 r=neg1 s)=true:=decide_eq_true hn
  rw[if_pos hn]at c4
  dsimp only at c4
  simp-implicitDefEqProofs+decide only[go_sem,sW,hb]
  refine Goes.drawN mixed ?_
  refine SmV ?_
  refine CallD.P _ Tryz.call236 ca ?_
  refine SmV ?_
  refine CallD.PS _ Tryz.call105 c4 ?_
  refine Sm ?_
  refine⟨.mk (by kernel_rfl),?_⟩
  apply run_sound 200
  refine Sm ?_
  exact endC.Q
 ·have hb:decide (neg1 r=neg1 s)=false:=decide_eq_false hn
  rw[if_neg hn]at c4
  simp-implicitDefEqProofs+decide only[go_sem,sW,hb]
  refine CallG.P _ Tryz.call206 (cc) ?_
  have hcmp:decide (cmpI X Y≥0)=decide (Y≤X):=decide_eq_decide.2 (by unfold cmpI;split<;>(try split)<;>omega)
  simp-implicitDefEqProofs+decide only[go_sem,hcmp]
  apply selP_dec<;>intro h
  ·rw[if_pos h]at c4
   have cs:=cs h
   dsimp only at c4
   refine SmV ?_
   refine Goes.drawN mixed ?_
   refine SmV ?_
   refine CallD.P _ Tryz.call207 cs ?_
   refine SmV ?_
   refine CallD.PS _ Tryz.call105 c4 ?_
   refine Sm ?_
   refine⟨.mk (by kernel_rfl),?_⟩
   apply run_sound 200
   refine Sm ?_
   exact endC.Q
  ·rw[if_neg h]at c4
   have ct:=ct (by omega)
   dsimp only at c4
   refine SmV ?_
   refine Goes.drawN mixed ?_
   refine SmV ?_
   refine CallD.P _ Tryz.call207 ct ?_
   refine SmV ?_
   refine CallD.PS _ Tryz.call105 c4 ?_
   refine Sm ?_
   refine⟨.mk (by kernel_rfl),?_⟩
   apply run_sound 200
   refine Sm ?_
   exact endC.Q
theorem rSub_okQ (r s:Rat) (hr:QB r 40000) (hs:QB s 40000) (zr:ZB r 30000) (zs:ZB s 30000):Pure Tryz.prog 178 [(qR r).T,(qR s).T] [.t (qR (r-s)).T]:=by
 have n1:=hs.n
 have n2:=hs.d
 have c1:=rNeg_okQ s ⟨by omega,by omega⟩ (by unfold ZB at*;omega)
 have c2:=rAdd_okQ r (-s) hr ⟨by rw[show(-s).num= -s.num from rfl,Int.natAbs_neg];exact hs.n,hs.d⟩ zr zs
 rw[←Rat.sub_eq_add_neg]at c2
 generalize r-s=t at c2⊢
 rw[qT]at c1
 rw[qT,qT]at c2
 rw[qT,qT]
 generalize-s=s' at c1 c2
 refine Pure.J Tryz.func178 [.c 4 _] ?_
 refine Sm ?_
 refine Goes.drawN mixed ?_
 refine Sm ?_
 refine CallD.PS _ Tryz.call176 c1 ?_
 simp-implicitDefEqProofs+decide only[go_sem,qT]
 refine CallD.PS _ Tryz.call177 c2 ?_
 simp-implicitDefEqProofs+decide only[go_sem,qT]
 refine⟨.mk (by kernel_rfl),?_⟩
 apply run_sound 200
 refine Sm ?_
 exact endC.Q
def sgnI (r:Rat):Int:=if r.num=0 then 0 else if r.num<0 then-1 else 1
end Go.Fm
