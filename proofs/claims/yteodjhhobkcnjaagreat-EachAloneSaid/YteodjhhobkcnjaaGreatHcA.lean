/- Exact numbers as the rationals of Lean's own library. -/
import Derived.Test.YteodjhhobkcnjaaGreatHbC
import Derived.Test.YteodjhhobkcnjaaGreatHbA
import Derived.Test.YteodjhhobkcnjaaGreatHbB
import Derived.Test.YteodjhhobkcnjaaGreatHaC
set_option linter.unusedVariables false
set_option linter.unusedSimpArgs false
namespace Go.Fm
set_option maxRecDepth 100000
def sgn (neg:Bool) (n:Nat):Int:=if neg=true then-(n:Int) else n
theorem sgn_abs (neg:Bool) (n:Nat):(sgn neg n).natAbs=n:=by unfold sgn;split<;>omega
theorem sgn_num (z:Int):sgn (decide (z<0)) z.natAbs=z:=by
 unfold sgn
 by_cases h:z<0
 ·rw[decide_eq_true h,if_pos rfl];omega
 ·rw[decide_eq_false h,if_neg (by decide)];omega
def qR (r:Rat):Rt:=⟨decide (r.num<0),wordsOf r.num.natAbs,wordsOf r.den⟩
def lowQ (neg:Bool) (n d:Nat):Rt:=⟨neg&&decide (n/Nat.gcd n d≠0),wordsOf (n/Nat.gcd n d),wordsOf (d/Nat.gcd n d)⟩
theorem lowQ_eq (neg:Bool) (n d:Nat) (hd:d≠0):lowQ neg n d=qR (Rat.normalize (sgn neg n) d hd):=by
 have hg:0<Nat.gcd n d:=Nat.gcd_pos_of_pos_right n (by omega)
 obtain⟨m,hm⟩:=Nat.gcd_dvd_left n d
 have e1:n/Nat.gcd n d=m:=by
  conv=>lhs;lhs;rw[hm]
  exact Nat.mul_div_cancel_left m hg
 have e2:sgn neg n/((Nat.gcd n d:Nat):Int)=sgn neg m:=by
  have hgi:((Nat.gcd n d:Nat):Int)≠0:=by omega
  have hmi:(n:Int)=((Nat.gcd n d:Nat):Int)*(m:Int):=by rw[←Int.natCast_mul,←hm]
  unfold sgn
  split
  ·rw[hmi,←Int.mul_neg,Int.mul_ediv_cancel_left _ hgi]
  ·rw[hmi,Int.mul_ediv_cancel_left _ hgi]
 rw[Rat.normalize_eq]
 unfold lowQ qR
 simp only[sgn_abs,e1,e2]
 congr 1
 unfold sgn
 cases neg
 ·simp
 ·simp only[if_true,Bool.true_and]
  by_cases h:m=0
  ·subst h;rfl
  ·rw[decide_eq_true h,decide_eq_true (by omega)]
def rtR (x:Rt):Bool:=rightM x.neg x.p x.q
theorem full_words {p:List Nat} (h:WOK p) (hs:sizeW p=p.length):p=wordsOf (nv p):=by
 rw[←trimW_eq h]
 unfold trimW
 rw[hs,List.take_length]
theorem right_qR {x:Rt} (hp:WOK x.p) (hq:WOK x.q) (h:rtR x=true):∃r,x=qR r:=by
 obtain⟨neg,p,q⟩:=x
 unfold rtR rightM at h
 dsimp only at h hp hq
 simp only[Bool.and_eq_true,decide_eq_true_eq]at h
 obtain⟨⟨⟨⟨h1,h2⟩,h3⟩,h4⟩,h5⟩:=h
 have ep:=full_words hp h1
 have eq:=full_words hq h2
 have hd:nv q≠0:=fun e=>by
  have:=(nv_zero q).2 e
  omega
 refine⟨Rat.normalize (sgn neg (nv p)) (nv q) hd,?_⟩
 rw[←lowQ_eq neg (nv p) (nv q) hd]
 unfold lowQ
 rw[h4,Nat.div_one,Nat.div_one,←ep,←eq]
 congr 1
 cases neg
 ·rfl
 ·have:p.length≠0:=by simpa using h5
  have:nv p≠0:=fun e=>by
   have:=(nv_zero p).2 e
   omega
  rw[decide_eq_true this];rfl
def sumQ (an:Bool) (a:Nat) (bn:Bool) (b:Nat):Bool×Nat:=if an=bn then (an,a+b) else if b≤a then (an,a-b) else (bn,b-a)
theorem sumQ_eq (an:Bool) (a:Nat) (bn:Bool) (b:Nat):sgn (sumQ an a bn b).1 (sumQ an a bn b).2=sgn an a+sgn bn b:=by
 unfold sumQ sgn
 cases an<;>cases bn<;>simp only[if_true,if_false,Bool.true_eq_false,Bool.false_eq_true,reduceIte]
 ·omega
 ·split<;>simp only[if_true,if_false,Bool.true_eq_false,Bool.false_eq_true,reduceIte]<;>omega
 ·split<;>simp only[if_true,if_false,Bool.true_eq_false,Bool.false_eq_true,reduceIte]<;>omega
 ·omega
def neg1 (x:Rat):Bool:=decide (x.num<0)
theorem add_low (r s:Rat):lowQ (sumQ (neg1 r) (r.num.natAbs*s.den) (neg1 s) (s.num.natAbs*r.den)).1 (sumQ (neg1 r) (r.num.natAbs*s.den) (neg1 s) (s.num.natAbs*r.den)).2 (r.den*s.den)=qR (r+s):=by
 rw[lowQ_eq _ _ _ (Nat.mul_ne_zero r.den_nz s.den_nz),Rat.add_def]
 congr 2
 rw[sumQ_eq]
 have m:∀(n:Bool) (a b:Nat),sgn n (a*b)=sgn n a*b:=fun n a b=>by unfold sgn;split<;>simp[Int.neg_mul]
 rw[m,m]
 unfold neg1
 rw[sgn_num,sgn_num]
theorem add_low_same (r s:Rat) (h:r.den=s.den):lowQ (sumQ (neg1 r) r.num.natAbs (neg1 s) s.num.natAbs).1 (sumQ (neg1 r) r.num.natAbs (neg1 s) s.num.natAbs).2 r.den=qR (r+s):=by
 rw[lowQ_eq _ _ _ r.den_nz,Rat.add_def]
 congr 1
 rw[Rat.normalize_eq_iff,sumQ_eq]
 unfold neg1
 rw[sgn_num,sgn_num,←h,Int.natCast_mul,←Int.add_mul,Int.mul_assoc]
theorem neg_qR (r:Rat):qR (-r)=⟨!neg1 r&&decide (r.num.natAbs≠0),wordsOf r.num.natAbs,wordsOf r.den⟩:=by
 unfold qR neg1
 rw[show(-r).num= -r.num from rfl,show(-r).den=r.den from rfl,Int.natAbs_neg]
 congr 1
 by_cases h:r.num<0
 ·rw[decide_eq_true h,decide_eq_false (by omega)];rfl
 ·rw[decide_eq_false h]
  by_cases h0:r.num=0
  ·rw[decide_eq_false (by omega),decide_eq_false (by omega)];rfl
  ·rw[decide_eq_true (by omega),decide_eq_true (by omega)];rfl
theorem mul_low (r s:Rat):lowQ (neg1 r !=neg1 s) (r.num.natAbs/Nat.gcd r.num.natAbs s.den*(s.num.natAbs/Nat.gcd s.num.natAbs r.den)) (r.den/Nat.gcd s.num.natAbs r.den*(s.den/Nat.gcd r.num.natAbs s.den))=qR (r*s):=by
 obtain⟨a1,ha1⟩:=Nat.gcd_dvd_left r.num.natAbs s.den
 obtain⟨b1,hb1⟩:=Nat.gcd_dvd_right r.num.natAbs s.den
 obtain⟨a2,ha2⟩:=Nat.gcd_dvd_left s.num.natAbs r.den
 obtain⟨b2,hb2⟩:=Nat.gcd_dvd_right s.num.natAbs r.den
 have g1:0<Nat.gcd r.num.natAbs s.den:=Nat.gcd_pos_of_pos_right _ (Nat.pos_of_ne_zero s.den_nz)
 have g2:0<Nat.gcd s.num.natAbs r.den:=Nat.gcd_pos_of_pos_right _ (Nat.pos_of_ne_zero r.den_nz)
 generalize Nat.gcd r.num.natAbs s.den=x at*
 generalize Nat.gcd s.num.natAbs r.den=y at*
 have e1:r.num.natAbs/x=a1:=by rw[ha1,Nat.mul_div_cancel_left _ g1]
 have e2:s.den/x=b1:=by rw[hb1,Nat.mul_div_cancel_left _ g1]
 have e3:s.num.natAbs/y=a2:=by rw[ha2,Nat.mul_div_cancel_left _ g2]
 have e4:r.den/y=b2:=by rw[hb2,Nat.mul_div_cancel_left _ g2]
 rw[e1,e2,e3,e4]
 have n1:b1≠0:=fun e=>s.den_nz (by rw[hb1,e,Nat.mul_zero])
 have n2:b2≠0:=fun e=>r.den_nz (by rw[hb2,e,Nat.mul_zero])
 rw[lowQ_eq _ _ _ (Nat.mul_ne_zero n2 n1),Rat.mul_def]
 congr 1
 rw[Rat.normalize_eq_iff]
 have hs:∀(p q:Bool) (a b:Nat),sgn (p !=q) (a*b)=sgn p a*sgn q b:=fun p q a b=>by
  unfold sgn
  cases p<;>cases q<;>simp[Int.neg_mul,Int.mul_neg]
 rw[hs]
 have hr:r.num=sgn (neg1 r) a1*(x:Int):=by
  have h:=sgn_num r.num
  rw[ha1]at h
  rw[←h]
  unfold neg1 sgn
  split
  ·rw[Int.natCast_mul,Int.neg_mul,Int.mul_comm]
  ·rw[Int.natCast_mul,Int.mul_comm]
 have hs2:s.num=sgn (neg1 s) a2*(y:Int):=by
  have h:=sgn_num s.num
  rw[ha2]at h
  rw[←h]
  unfold neg1 sgn
  split
  ·rw[Int.natCast_mul,Int.neg_mul,Int.mul_comm]
  ·rw[Int.natCast_mul,Int.mul_comm]
 generalize sgn (neg1 r) a1=p at*
 generalize sgn (neg1 s) a2=q at*
 rw[hr,hs2,hb2,hb1]
 simp only[Int.natCast_mul]
 simp only[Int.mul_assoc,Int.mul_comm,Int.mul_left_comm]
theorem nv_take_get (b:List Nat) (i:Nat):nv (b.take (i+1))=nv (b.take i)+18446744073709551616^i*b.getD i 0:=by
 rcases Nat.lt_or_ge i b.length with h|h
 ·obtain⟨y,hy⟩:=getI h
  rw[nv_take_succ hy,List.getD_eq_getElem?_getD,hy,Option.getD_some]
 ·rw[List.take_of_length_le (by omega),List.take_of_length_le h,List.getD_eq_getElem?_getD,List.getElem?_eq_none h,Option.getD_none,Nat.mul_zero,Nat.add_zero]
theorem nv_snoc (l:List Nat) (x:Nat):nv (l++[x])=nv l+18446744073709551616^l.length*x:=by
 rw[nv_append];simp[nv]
theorem add_step {a b out:List Nat} {i o:Nat} (ho:out.length=i) (he:nv out+18446744073709551616^i*o=nv (a.take i)+nv (b.take i)) (s:Nat) (hs:a.getD i 0+b.getD i 0+o=s):
  nv (out++[s%18446744073709551616])+18446744073709551616^(i+1)*(s/18446744073709551616)=nv (a.take (i+1))+nv (b.take (i+1)):=by
 rw[nv_snoc,ho,nv_take_get,nv_take_get,Nat.pow_succ,Nat.mul_assoc,Nat.add_assoc,←Nat.mul_add,Nat.mod_add_div,←hs,Nat.mul_add,Nat.mul_add]
 omega
theorem sub_step {a b out:List Nat} {i u x y:Nat} (hx:a.getD i 0=x) (hy:b.getD i 0=y) (hxl:x<18446744073709551616) (hyl:y<18446744073709551616) (hu:u≤1) (ho:out.length=i)
  (he:nv out+nv (b.take i)=nv (a.take i)+18446744073709551616^i*u):
  nv (out++[(x+(18446744073709551616+18446744073709551616-y-u))%18446744073709551616])+nv (b.take (i+1))=nv (a.take (i+1))+18446744073709551616^(i+1)*(2-(x+(18446744073709551616+18446744073709551616-y-u))/18446744073709551616)∧
   2-(x+(18446744073709551616+18446744073709551616-y-u))/18446744073709551616≤1:=by
 obtain⟨z,hz⟩:∃z,x+(18446744073709551616+18446744073709551616-y-u)=z:=⟨_,rfl⟩
 rw[hz]
 have h1:z/18446744073709551616≤2:=by omega
 have h2:1≤z/18446744073709551616:=by omega
 refine⟨?_,by omega⟩
 rw[nv_snoc,ho,nv_take_get,nv_take_get,hx,hy,Nat.pow_succ]
 have h3:z%18446744073709551616+y+u=x+18446744073709551616*(2-z/18446744073709551616):=by omega
 have h4:=congrArg (18446744073709551616^i* ·) h3
 simp only[Nat.mul_add]at h4
 rw[Nat.mul_assoc]
 omega
theorem rows_word {x y s c:Nat} (hx:x<18446744073709551616) (hy:y<18446744073709551616) (hs:s<18446744073709551616) (hc:c<18446744073709551616):
  x*y/18446744073709551616+(s+x*y%18446744073709551616+c)/18446744073709551616<18446744073709551616∧
   (s+x*y%18446744073709551616+c)%18446744073709551616+18446744073709551616*(x*y/18446744073709551616+(s+x*y%18446744073709551616+c)/18446744073709551616)=s+x*y+c:=by
 have h:x*y≤18446744073709551615*18446744073709551615:=Nat.mul_le_mul (by omega) (by omega)
 generalize x*y=z at*
 omega
theorem rows_step {out:List Nat} {i k s r c c' N P x y:Nat} (hs:out[i+k]?=some s) (he:nv out+18446744073709551616^(i+k)*c=N+18446744073709551616^i*(x*P))
  (hr:r+18446744073709551616*c'=s+x*y+c):nv (out.set (i+k) r)+18446744073709551616^(i+(k+1))*c'=N+18446744073709551616^i*(x*(P+18446744073709551616^k*y)):=by
 have h1:=nv_set (d:=r) hs
 have h2:18446744073709551616^(i+k)*(r+18446744073709551616*c')=18446744073709551616^(i+k)*(s+x*y+c):=by rw[hr]
 have e:18446744073709551616^(i+(k+1))=18446744073709551616^(i+k)*18446744073709551616:=by rw[←Nat.pow_succ];rfl
 have e2:18446744073709551616^i*(x*(P+18446744073709551616^k*y))=18446744073709551616^i*(x*P)+18446744073709551616^(i+k)*(x*y):=by
  rw[Nat.mul_add,Nat.mul_add,Nat.pow_add]
  congr 1
  simp only[Nat.mul_assoc,Nat.mul_left_comm]
 rw[e,e2,Nat.mul_assoc]
 simp only[Nat.mul_add]at h2
 omega
theorem mid_prod (x y u v:Nat):(x+y)*(u+v)-(x*u+y*v)=x*v+y*u:=by
 rw[Nat.add_mul,Nat.mul_add,Nat.mul_add];omega
theorem mid_le (x y u v:Nat):x*u+y*v≤(x+y)*(u+v):=by
 rw[Nat.add_mul,Nat.mul_add,Nat.mul_add];omega
theorem kara (x y u v B:Nat):x*u+B*(x*v+y*u)+B*B*(y*v)=(x+B*y)*(u+B*v):=by
 simp only[Nat.add_mul,Nat.mul_add]
 have e1:B*y*u=B*(y*u):=Nat.mul_assoc _ _ _
 have e2:x*(B*v)=B*(x*v):=Nat.mul_left_comm _ _ _
 have e3:B*y*(B*v)=B*B*(y*v):=by simp only[Nat.mul_assoc,Nat.mul_left_comm]
 omega
theorem len_mul {a b m k:Nat} (ha:a<18446744073709551616^m) (hb:b<18446744073709551616^k):a*b<18446744073709551616^(m+k):=by
 rw[Nat.pow_add]
 rcases Nat.eq_zero_or_pos b with h|h
 ·subst h;rw[Nat.mul_zero];exact Nat.mul_pos (Nat.pow_pos (by decide)) (Nat.pow_pos (by decide))
 ·exact Nat.lt_of_lt_of_le (Nat.mul_lt_mul_of_pos_right ha h) (Nat.mul_le_mul_left _ (Nat.le_of_lt hb))
theorem len_add {a b m:Nat} (ha:a<18446744073709551616^m) (hb:b<18446744073709551616^m):a+b<18446744073709551616^(m+1):=by
 rw[Nat.pow_succ];omega
theorem nv_words_lt (n:Nat):n<18446744073709551616^(wordsOf n).length:=by
 have:=nv_lt (WOK_wordsOf n)
 rwa [nv_wordsOf]at this
end Go.Fm
namespace Go.Fm
open Go.Proofs
set_option maxRecDepth 100000
attribute [local irreducible] tiOf
theorem natAdd_ok (a b:List Nat) (ha:WOK a) (hb:WOK b) (hla:a.length<1000000000) (hlb:b.length<1000000000):
  Pure Tryz.prog 249 [sW a,sW b] [.own 1 ((wordsOf (nv a+nv b)).map U)]:=by
 by_cases hlt:a.length<b.length
 ·have hsum:nv a+nv b=nv b+nv a:=Nat.add_comm _ _
  rw[hsum]
  have hle:a.length≤b.length:=by omega
  have hbig:b.length+1<big:=by unfold big;omega
  have hw0:=wS (show b.length<1000000000000 by omega)
  obtain⟨cp,hcp⟩:∃c,b.length+1=c:=⟨_,rfl⟩
  rw[hcp]at hw0 hbig
  refine Pure.I Tryz.func249 [4] ?_
  simp-implicitDefEqProofs+decide only[go_sem,sW,eq_true hlt,hbig,hw0]
  refine Goes.loop (X:=Nat×List Nat×Nat) (fun x=>⟨ofL [(1,tW a),(5,.sl (.loc 20 0) x.1 0 x.1),(6,.t (.int .u64 x.2.2)),(21,tW b),(22,.t (.int .i64 b.length)),(23,.t (.int .i64 x.1))],ofH (fun _=>none) [(.loc 20 0,.arr 1 (x.2.1.map U) x.1 0)],0⟩)
   (fun x=>x.1≤b.length∧x.2.1.length=x.1∧WOK x.2.1∧x.2.2≤1∧nv x.2.1+18446744073709551616^x.1*x.2.2=nv (b.take x.1)+nv (a.take x.1)) (fun x=>b.length-x.1) (0,[],0) ?_ ⟨Nat.zero_le _,rfl,(fun _ h=>by cases h),Nat.zero_le _,by simp[nv]⟩ ?_
  ·refine Wk.rows _ _ (fun _ _=>rfl) rfl rfl ?_ (fun l hp=>by cases l<;>first|rfl|cases hp) ?_ ?_
   ·simp-implicitDefEqProofs+decide only[go_sem]<;>rfl
   ·simp-implicitDefEqProofs+decide only[go_sem,tW,sW]<;>rfl
   ·simp-implicitDefEqProofs+decide only[go_sem,tW,sW]
  rintro ⟨i,out,o⟩ ⟨hi,hol,hok,ho,he⟩ J hJ
  dsimp only at hi hol hok ho he hJ⊢
  apply run_sound 200
  refine SmW ?_
  apply selP_dec<;>intro hc
  ·obtain⟨p,hp⟩:=getI (show i<b.length by omega)
   have hpl:=hb.get hp
   have hw:=wS (show i<1000000000000 by omega)
   have hib:i+1<big:=by unfold big;omega
   have hgp:b.getD i 0=p:=by simp[List.getD,hp]
   simp-implicitDefEqProofs+decide only[go_sem,tW,sW,hp]
   apply selP_dec<;>intro hj
   ·obtain⟨q,hq⟩:=getI (show i<a.length by omega)
    have hql:=ha.get hq
    have hgq:a.getD i 0=q:=by simp[List.getD,hq]
    have c:=limbAdd_ok p q o hpl hql (by omega)
    have hst:=add_step (a:=b) (b:=a) hol he (p+q+o) (by rw[hgp,hgq])
    obtain⟨s,hs⟩:∃s,p+q+o=s:=⟨_,rfl⟩
    rw[hs]at c hst
    have hlo2:s%18446744073709551616<18446744073709551616:=Nat.mod_lt _ (by decide)
    have hov2:s/18446744073709551616≤1:=by omega
    obtain⟨lo,hlo⟩:∃lo,s%18446744073709551616=lo:=⟨_,rfl⟩
    obtain⟨ov,hov⟩:∃ov,s/18446744073709551616=ov:=⟨_,rfl⟩
    rw[hlo,hov]at c hst
    rw[hlo]at hlo2
    rw[hov]at hov2
    simp-implicitDefEqProofs+decide only[go_sem,tW,sW,hq]
    refine CallG.P _ Tryz.call290 (c) ?_
    obtain⟨out2,ho2⟩:∃l,out++[lo]=l:=⟨_,rfl⟩
    have hsn:out.map U++[.int .u64 (lo:Int)]=out2.map U:=by rw[←ho2];simp[U]
    have hol2:out2.length=i+1:=by rw[←ho2];simp[hol]
    have hok2:WOK out2:=by rw[←ho2];exact hok.append (fun z hz=>by rw[List.mem_singleton.1 hz];exact hlo2)
    rw[ho2]at hst
    simp-implicitDefEqProofs+decide only[go_sem,ofH,hol,hib,hw,hsn]
    refine hJ (i+1,out2,ov) _ ⟨by dsimp only;omega,hol2,hok2,hov2,hst⟩ (by dsimp only;omega) (Wk.rows _ _ (fun _ _=>rfl) rfl rfl ?_ (fun l hp=>by cases l<;>first|rfl|cases hp) ?_ ?_)
    ·simp-implicitDefEqProofs+decide only[go_sem]
    ·simp-implicitDefEqProofs+decide only[go_sem,tW,sW,hw]
    ·simp-implicitDefEqProofs+decide only[go_sem,tW,sW]
   ·have hgq:a.getD i 0=0:=by simp[List.getD,List.getElem?_eq_none (show a.length≤i by omega)]
    have c:=limbAdd_ok p 0 o hpl (by decide) (by omega)
    have hst:=add_step (a:=b) (b:=a) hol he (p+0+o) (by rw[hgp,hgq])
    obtain⟨s,hs⟩:∃s,p+0+o=s:=⟨_,rfl⟩
    rw[hs]at c hst
    have hlo2:s%18446744073709551616<18446744073709551616:=Nat.mod_lt _ (by decide)
    have hov2:s/18446744073709551616≤1:=by omega
    obtain⟨lo,hlo⟩:∃lo,s%18446744073709551616=lo:=⟨_,rfl⟩
    obtain⟨ov,hov⟩:∃ov,s/18446744073709551616=ov:=⟨_,rfl⟩
    rw[hlo,hov]at c hst
    rw[hlo]at hlo2
    rw[hov]at hov2
    refine SmW ?_
    refine CallG.P _ Tryz.call290 (c) ?_
    obtain⟨out2,ho2⟩:∃l,out++[lo]=l:=⟨_,rfl⟩
    have hsn:out.map U++[.int .u64 (lo:Int)]=out2.map U:=by rw[←ho2];simp[U]
    have hol2:out2.length=i+1:=by rw[←ho2];simp[hol]
    have hok2:WOK out2:=by rw[←ho2];exact hok.append (fun z hz=>by rw[List.mem_singleton.1 hz];exact hlo2)
    rw[ho2]at hst
    simp-implicitDefEqProofs+decide only[go_sem,ofH,hol,hib,hw,hsn]
    refine hJ (i+1,out2,ov) _ ⟨by dsimp only;omega,hol2,hok2,hov2,hst⟩ (by dsimp only;omega) (Wk.rows _ _ (fun _ _=>rfl) rfl rfl ?_ (fun l hp=>by cases l<;>first|rfl|cases hp) ?_ ?_)
    ·simp-implicitDefEqProofs+decide only[go_sem]
    ·simp-implicitDefEqProofs+decide only[go_sem,tW,sW,hw]
    ·simp-implicitDefEqProofs+decide only[go_sem,tW,sW]
  ·have hin:i=b.length:=by omega
   rw[List.take_of_length_le (by omega),List.take_of_length_le (by omega)]at he
   obtain⟨out2,ho2⟩:∃l,out++[o]=l:=⟨_,rfl⟩
   have hsn:out.map U++[.int .u64 (o:Int)]=out2.map U:=by rw[←ho2];simp[U]
   have hwo:WOK out2:=by rw[←ho2];exact hok.append (fun z hz=>by rw[List.mem_singleton.1 hz];omega)
   have hol2:out2.length=i+1:=by rw[←ho2];simp[hol]
   have hnv:nv out2=nv out+18446744073709551616^i*o:=by rw[←ho2,nv_snoc,hol]
   have ct:=trim_ok out2 (by omega)
   rw[trimW_eq hwo,hnv,he]at ct
   have hib:i+1<big:=by unfold big;omega
   have htk:(out2.map U).take (i+1)=out2.map U:=List.take_of_length_le (by simp;omega)
   simp-implicitDefEqProofs+decide only[go_sem,ofH,hol,hib,hsn,htk,List.drop_zero]
   refine CallG.pureAd _ 52 Tryz.call245 ct (by rw[List.all_cons,noPtr_us];rfl) (by rw[List.all_cons,flat_us];rfl) (fun j size es _=>by cases j<;>rfl) ?_
   apply run_sound 200
   refine Sm ?_
   exact endF.own (lab:=.loc 52 0) (v:=0) (len:=(wordsOf (nv b+nv a)).length) (.inr rfl) (by simp-implicitDefEqProofs+decide only[go_sem]) (by simp-implicitDefEqProofs+decide only[go_sem]) (by simp) rfl (fun l hp=>by cases l<;>first|rfl|cases hp) rfl
 ·have hle:b.length≤a.length:=by omega
  have hbig:a.length+1<big:=by unfold big;omega
  have hw0:=wS (show a.length<1000000000000 by omega)
  obtain⟨cp,hcp⟩:∃c,a.length+1=c:=⟨_,rfl⟩
  rw[hcp]at hw0 hbig
  refine Pure.I Tryz.func249 [4] ?_
  simp-implicitDefEqProofs+decide only[go_sem,sW,eq_false hlt,hbig,hw0]
  refine Goes.loop (X:=Nat×List Nat×Nat) (fun x=>⟨ofL [(1,tW b),(5,.sl (.loc 20 0) x.1 0 x.1),(6,.t (.int .u64 x.2.2)),(21,tW a),(22,.t (.int .i64 a.length)),(23,.t (.int .i64 x.1))],ofH (fun _=>none) [(.loc 20 0,.arr 1 (x.2.1.map U) x.1 0)],0⟩)
   (fun x=>x.1≤a.length∧x.2.1.length=x.1∧WOK x.2.1∧x.2.2≤1∧nv x.2.1+18446744073709551616^x.1*x.2.2=nv (a.take x.1)+nv (b.take x.1)) (fun x=>a.length-x.1) (0,[],0) ?_ ⟨Nat.zero_le _,rfl,(fun _ h=>by cases h),Nat.zero_le _,by simp[nv]⟩ ?_
  ·refine Wk.rows _ _ (fun _ _=>rfl) rfl rfl ?_ (fun l hp=>by cases l<;>first|rfl|cases hp) ?_ ?_
   ·simp-implicitDefEqProofs+decide only[go_sem]<;>rfl
   ·simp-implicitDefEqProofs+decide only[go_sem,tW,sW]<;>rfl
   ·simp-implicitDefEqProofs+decide only[go_sem,tW,sW]
  rintro ⟨i,out,o⟩ ⟨hi,hol,hok,ho,he⟩ J hJ
  dsimp only at hi hol hok ho he hJ⊢
  apply run_sound 200
  refine SmW ?_
  apply selP_dec<;>intro hc
  ·obtain⟨p,hp⟩:=getI (show i<a.length by omega)
   have hpl:=ha.get hp
   have hw:=wS (show i<1000000000000 by omega)
   have hib:i+1<big:=by unfold big;omega
   have hgp:a.getD i 0=p:=by simp[List.getD,hp]
   simp-implicitDefEqProofs+decide only[go_sem,tW,sW,hp]
   apply selP_dec<;>intro hj
   ·obtain⟨q,hq⟩:=getI (show i<b.length by omega)
    have hql:=hb.get hq
    have hgq:b.getD i 0=q:=by simp[List.getD,hq]
    have c:=limbAdd_ok p q o hpl hql (by omega)
    have hst:=add_step (a:=a) (b:=b) hol he (p+q+o) (by rw[hgp,hgq])
    obtain⟨s,hs⟩:∃s,p+q+o=s:=⟨_,rfl⟩
    rw[hs]at c hst
    have hlo2:s%18446744073709551616<18446744073709551616:=Nat.mod_lt _ (by decide)
    have hov2:s/18446744073709551616≤1:=by omega
    obtain⟨lo,hlo⟩:∃lo,s%18446744073709551616=lo:=⟨_,rfl⟩
    obtain⟨ov,hov⟩:∃ov,s/18446744073709551616=ov:=⟨_,rfl⟩
    rw[hlo,hov]at c hst
    rw[hlo]at hlo2
    rw[hov]at hov2
    simp-implicitDefEqProofs+decide only[go_sem,tW,sW,hq]
    refine CallG.P _ Tryz.call290 (c) ?_
    obtain⟨out2,ho2⟩:∃l,out++[lo]=l:=⟨_,rfl⟩
    have hsn:out.map U++[.int .u64 (lo:Int)]=out2.map U:=by rw[←ho2];simp[U]
    have hol2:out2.length=i+1:=by rw[←ho2];simp[hol]
    have hok2:WOK out2:=by rw[←ho2];exact hok.append (fun z hz=>by rw[List.mem_singleton.1 hz];exact hlo2)
    rw[ho2]at hst
    simp-implicitDefEqProofs+decide only[go_sem,ofH,hol,hib,hw,hsn]
    refine hJ (i+1,out2,ov) _ ⟨by dsimp only;omega,hol2,hok2,hov2,hst⟩ (by dsimp only;omega) (Wk.rows _ _ (fun _ _=>rfl) rfl rfl ?_ (fun l hp=>by cases l<;>first|rfl|cases hp) ?_ ?_)
    ·simp-implicitDefEqProofs+decide only[go_sem]
    ·simp-implicitDefEqProofs+decide only[go_sem,tW,sW,hw]
    ·simp-implicitDefEqProofs+decide only[go_sem,tW,sW]
   ·have hgq:b.getD i 0=0:=by simp[List.getD,List.getElem?_eq_none (show b.length≤i by omega)]
    have c:=limbAdd_ok p 0 o hpl (by decide) (by omega)
    have hst:=add_step (a:=a) (b:=b) hol he (p+0+o) (by rw[hgp,hgq])
    obtain⟨s,hs⟩:∃s,p+0+o=s:=⟨_,rfl⟩
    rw[hs]at c hst
    have hlo2:s%18446744073709551616<18446744073709551616:=Nat.mod_lt _ (by decide)
    have hov2:s/18446744073709551616≤1:=by omega
    obtain⟨lo,hlo⟩:∃lo,s%18446744073709551616=lo:=⟨_,rfl⟩
    obtain⟨ov,hov⟩:∃ov,s/18446744073709551616=ov:=⟨_,rfl⟩
    rw[hlo,hov]at c hst
    rw[hlo]at hlo2
    rw[hov]at hov2
    refine SmW ?_
    refine CallG.P _ Tryz.call290 (c) ?_
    obtain⟨out2,ho2⟩:∃l,out++[lo]=l:=⟨_,rfl⟩
    have hsn:out.map U++[.int .u64 (lo:Int)]=out2.map U:=by rw[←ho2];simp[U]
    have hol2:out2.length=i+1:=by rw[←ho2];simp[hol]
    have hok2:WOK out2:=by rw[←ho2];exact hok.append (fun z hz=>by rw[List.mem_singleton.1 hz];exact hlo2)
    rw[ho2]at hst
    simp-implicitDefEqProofs+decide only[go_sem,ofH,hol,hib,hw,hsn]
    refine hJ (i+1,out2,ov) _ ⟨by dsimp only;omega,hol2,hok2,hov2,hst⟩ (by dsimp only;omega) (Wk.rows _ _ (fun _ _=>rfl) rfl rfl ?_ (fun l hp=>by cases l<;>first|rfl|cases hp) ?_ ?_)
    ·simp-implicitDefEqProofs+decide only[go_sem]
    ·simp-implicitDefEqProofs+decide only[go_sem,tW,sW,hw]
    ·simp-implicitDefEqProofs+decide only[go_sem,tW,sW]
  ·have hin:i=a.length:=by omega
   rw[List.take_of_length_le (by omega),List.take_of_length_le (by omega)]at he
   obtain⟨out2,ho2⟩:∃l,out++[o]=l:=⟨_,rfl⟩
   have hsn:out.map U++[.int .u64 (o:Int)]=out2.map U:=by rw[←ho2];simp[U]
   have hwo:WOK out2:=by rw[←ho2];exact hok.append (fun z hz=>by rw[List.mem_singleton.1 hz];omega)
   have hol2:out2.length=i+1:=by rw[←ho2];simp[hol]
   have hnv:nv out2=nv out+18446744073709551616^i*o:=by rw[←ho2,nv_snoc,hol]
   have ct:=trim_ok out2 (by omega)
   rw[trimW_eq hwo,hnv,he]at ct
   have hib:i+1<big:=by unfold big;omega
   have htk:(out2.map U).take (i+1)=out2.map U:=List.take_of_length_le (by simp;omega)
   simp-implicitDefEqProofs+decide only[go_sem,ofH,hol,hib,hsn,htk,List.drop_zero]
   refine CallG.pureAd _ 52 Tryz.call245 ct (by rw[List.all_cons,noPtr_us];rfl) (by rw[List.all_cons,flat_us];rfl) (fun j size es _=>by cases j<;>rfl) ?_
   apply run_sound 200
   refine Sm ?_
   exact endF.own (lab:=.loc 52 0) (v:=0) (len:=(wordsOf (nv a+nv b)).length) (.inr rfl) (by simp-implicitDefEqProofs+decide only[go_sem]) (by simp-implicitDefEqProofs+decide only[go_sem]) (by simp) rfl (fun l hp=>by cases l<;>first|rfl|cases hp) rfl
theorem endF.ownT {t u:Nat} {lab:Lab} {v len size:Nat} {es:List T} {y:T} {h':Heap} {m':Nat} {e:Exit} {s:St} (he:e=.normal∨e=.ret) (hx:s.f t=.sl lab v 0 len) (hl:s.h lab=some (.arr size es v 0)) (hlen:len=es.length) (hp:Lab.pool lab=false)
  (hy:s.f u=.t y) (hya:y.isAgg=false) (hh:∀l,Lab.pool l=true→h' l=s.h l) (hn:s.nxt=m'):endF [t,u] [.own size es,.t y] h' m' e s:=by
 subst hlen
 refine endF.mk (ws:=[]) (os:=[some lab,none]) (acc:=[lab]) [true,false] he rfl ?_ rfl hh hn
 have:finL (([t,u].map s.f).zip [true,false])=finL [(.sl lab v 0 es.length,true),(.t y,false)]:=by rw[List.map_cons,List.map_cons,hx,hy];rfl
 rw[this]
 have e1:reify (.t y)=.ret (y,[]):=by cases y<;>first|rfl|cases hya
 simp[finL,fin1,e1,Rd.bind,Rd.run,hl,hp]
theorem natSub_no (a b:List Nat) (ha:WOK a) (hb:WOK b) (hla:a.length<1000000000) (hlb:b.length<1000000000) (hlt:nv a<nv b):
  Pure Tryz.prog 292 [sW a,sW b] [.t (.slice []),.t (.bool false)]:=by
 have c:=natCmp_ok a b ha hb hla hlb
 rw[show cmpI (nv a) (nv b)= -1 from if_pos hlt]at c
 refine Pure.I Tryz.func292 [4,5] ?_
 refine Sm ?_
 refine CallG.P _ Tryz.call246 (c) ?_
 refine Sm ?_
 exact endF.V [(4,.slice []),(5,.bool false)] (vals_n (by simp-implicitDefEqProofs+decide only[go_sem]) (vals_t (by simp-implicitDefEqProofs+decide only[go_sem]<;>rfl) rfl vals_nil))
theorem natSub_ok (a b:List Nat) (ha:WOK a) (hb:WOK b) (hla:a.length<1000000000) (hlb:b.length<1000000000) (hle:nv b≤nv a):
  Pure Tryz.prog 292 [sW a,sW b] [.own 1 ((wordsOf (nv a-nv b)).map U),.t (.bool true)]:=by
 have c:=natCmp_ok a b ha hb hla hlb
 obtain⟨r,hr⟩:∃r,cmpI (nv a) (nv b)=r:=⟨_,rfl⟩
 rw[hr]at c
 have hr0:¬r<0:=by rw[←hr];unfold cmpI;rw[if_neg (by omega)];split<;>omega
 refine Pure.I Tryz.func292 [4,5] ?_
 refine Sm ?_
 refine CallG.P _ Tryz.call246 (c) ?_
 have hbig:a.length<big:=by unfold big;omega
 simp-implicitDefEqProofs+decide only[go_sem,sW,eq_false hr0,hbig]
 refine Goes.loop (X:=Nat×List Nat×Nat) (fun x=>⟨ofL [(1,tW b),(6,.sl (.loc 17 0) x.1 0 x.1),(7,.t (.int .u64 x.2.2)),(18,tW a),(19,.t (.int .i64 a.length)),(20,.t (.int .i64 x.1))],ofH (fun _=>none) [(.loc 17 0,.arr 1 (x.2.1.map U) x.1 0)],0⟩)
  (fun x=>x.1≤a.length∧x.2.1.length=x.1∧WOK x.2.1∧x.2.2≤1∧nv x.2.1+nv (b.take x.1)=nv (a.take x.1)+18446744073709551616^x.1*x.2.2) (fun x=>a.length-x.1) (0,[],0) ?_ ⟨Nat.zero_le _,rfl,(fun _ h=>by cases h),Nat.zero_le _,by simp[nv]⟩ ?_
 ·refine Wk.rows _ _ (fun _ _=>rfl) rfl rfl ?_ (fun l hp=>by cases l<;>first|rfl|cases hp) ?_ ?_
  ·simp-implicitDefEqProofs+decide only[go_sem]<;>rfl
  ·simp-implicitDefEqProofs+decide only[go_sem,tW,sW]<;>rfl
  ·simp-implicitDefEqProofs+decide only[go_sem,tW,sW]
 rintro ⟨i,out,u⟩ ⟨hi,hol,hok,hu,he⟩ J hJ
 dsimp only at hi hol hok hu he hJ⊢
 apply run_sound 200
 refine SmW ?_
 apply selP_dec<;>intro hc
 ·obtain⟨p,hp⟩:=getI (show i<a.length by omega)
  have hpl:=ha.get hp
  have hw:=wS (show i<1000000000000 by omega)
  have hib:i+1<big:=by unfold big;omega
  have hgp:a.getD i 0=p:=by simp[List.getD,hp]
  simp-implicitDefEqProofs+decide only[go_sem,tW,sW,hp]
  apply selP_dec<;>intro hj
  ·obtain⟨q,hq⟩:=getI (show i<b.length by omega)
   have hql:=hb.get hq
   have hgq:b.getD i 0=q:=by simp[List.getD,hq]
   have c:=limbSub_ok p q u hpl hql (by omega)
   obtain⟨hst,hu2⟩:=sub_step (a:=a) (b:=b) hgp hgq hpl hql hu hol he
   obtain⟨lo,hlo⟩:∃lo,(p+(18446744073709551616+18446744073709551616-q-u))%18446744073709551616=lo:=⟨_,rfl⟩
   obtain⟨ov,hov⟩:∃ov,2-(p+(18446744073709551616+18446744073709551616-q-u))/18446744073709551616=ov:=⟨_,rfl⟩
   have hlo2:lo<18446744073709551616:=by rw[←hlo];exact Nat.mod_lt _ (by decide)
   rw[hlo,hov]at c
   rw[hlo,hov]at hst
   rw[hov]at hu2
   obtain⟨out2,ho2⟩:∃l,out++[lo]=l:=⟨_,rfl⟩
   have hsn:out.map U++[.int .u64 (lo:Int)]=out2.map U:=by rw[←ho2];simp[U]
   have hol2:out2.length=i+1:=by rw[←ho2];simp[hol]
   have hok2:WOK out2:=by rw[←ho2];exact hok.append (fun z hz=>by rw[List.mem_singleton.1 hz];exact hlo2)
   rw[ho2]at hst
   simp-implicitDefEqProofs+decide only[go_sem,tW,sW,hq]
   refine CallG.P _ Tryz.call301 (c) ?_
   simp-implicitDefEqProofs+decide only[go_sem,ofH,hol,hib,hw,hsn]
   refine hJ (i+1,out2,ov) _ ⟨by dsimp only;omega,hol2,hok2,hu2,hst⟩ (by dsimp only;omega) (Wk.rows _ _ (fun _ _=>rfl) rfl rfl ?_ (fun l hp=>by cases l<;>first|rfl|cases hp) ?_ ?_)
   ·simp-implicitDefEqProofs+decide only[go_sem]
   ·simp-implicitDefEqProofs+decide only[go_sem,tW,sW,hw]
   ·simp-implicitDefEqProofs+decide only[go_sem,tW,sW]
  ·have hgq:b.getD i 0=0:=by simp[List.getD,List.getElem?_eq_none (show b.length≤i by omega)]
   have hql:0<18446744073709551616:=by decide
   have hq:True:=trivial
   have c:=limbSub_ok p 0 u hpl hql (by omega)
   obtain⟨hst,hu2⟩:=sub_step (a:=a) (b:=b) hgp hgq hpl hql hu hol he
   obtain⟨lo,hlo⟩:∃lo,(p+(18446744073709551616+18446744073709551616-0-u))%18446744073709551616=lo:=⟨_,rfl⟩
   obtain⟨ov,hov⟩:∃ov,2-(p+(18446744073709551616+18446744073709551616-0-u))/18446744073709551616=ov:=⟨_,rfl⟩
   have hlo2:lo<18446744073709551616:=by rw[←hlo];exact Nat.mod_lt _ (by decide)
   rw[hlo,hov]at c
   rw[hlo,hov]at hst
   rw[hov]at hu2
   obtain⟨out2,ho2⟩:∃l,out++[lo]=l:=⟨_,rfl⟩
   have hsn:out.map U++[.int .u64 (lo:Int)]=out2.map U:=by rw[←ho2];simp[U]
   have hol2:out2.length=i+1:=by rw[←ho2];simp[hol]
   have hok2:WOK out2:=by rw[←ho2];exact hok.append (fun z hz=>by rw[List.mem_singleton.1 hz];exact hlo2)
   rw[ho2]at hst
   refine SmW ?_
   refine CallG.P _ Tryz.call301 (c) ?_
   simp-implicitDefEqProofs+decide only[go_sem,ofH,hol,hib,hw,hsn]
   refine hJ (i+1,out2,ov) _ ⟨by dsimp only;omega,hol2,hok2,hu2,hst⟩ (by dsimp only;omega) (Wk.rows _ _ (fun _ _=>rfl) rfl rfl ?_ (fun l hp=>by cases l<;>first|rfl|cases hp) ?_ ?_)
   ·simp-implicitDefEqProofs+decide only[go_sem]
   ·simp-implicitDefEqProofs+decide only[go_sem,tW,sW,hw]
   ·simp-implicitDefEqProofs+decide only[go_sem,tW,sW]
 ·have hin:i=a.length:=by omega
  rw[List.take_of_length_le (show a.length≤i by omega)]at he
  have hbt:nv b=nv (b.take i)+18446744073709551616^i*nv (b.drop i):=by
   rcases Nat.lt_or_ge i b.length with h|h
   ·exact nv_split (by omega)
   ·rw[List.take_of_length_le h,List.drop_eq_nil_of_le h];simp[nv]
  have hnl:=nv_lt hok
  rw[hol]at hnl
  have hu0:u=0:=by
   rcases Nat.eq_zero_or_pos u with h|h
   ·exact h
   ·exfalso
    have h1:u=1:=by omega
    rw[h1,Nat.mul_one]at he
    have h2:=nv_lt (hb.take i)
    have h3:(b.take i).length≤i:=by simp;omega
    have h4:=Nat.pow_le_pow_right (n:=18446744073709551616) (by decide) h3
    omega
  have hres:nv out=nv a-nv b:=by
   have hz:18446744073709551616^i*nv (b.drop i)=0:=by
    rcases Nat.eq_zero_or_pos (nv (b.drop i)) with h|h
    ·rw[h,Nat.mul_zero]
    ·exfalso
     have h1:18446744073709551616^i≤18446744073709551616^i*nv (b.drop i):=Nat.le_mul_of_pos_right _ h
     have h2:=nv_lt ha
     rw[←hin]at h2
     omega
   rw[hu0,Nat.mul_zero]at he
   omega
  have ct:=trim_ok out (by omega)
  rw[trimW_eq hok,hres]at ct
  have htk:(out.map U).take i=out.map U:=List.take_of_length_le (by simp;omega)
  simp-implicitDefEqProofs+decide only[go_sem,ofH,htk,List.drop_zero]
  refine CallG.pureAd _ 46 Tryz.call245 ct (by rw[List.all_cons,noPtr_us];rfl) (by rw[List.all_cons,flat_us];rfl) (fun j size es _=>by cases j<;>rfl) ?_
  apply run_sound 200
  refine Sm ?_
  exact endF.ownT (lab:=.loc 46 0) (v:=0) (len:=(wordsOf (nv a-nv b)).length) (.inr rfl) (by simp-implicitDefEqProofs+decide only[go_sem]) (by simp-implicitDefEqProofs+decide only[go_sem]) (by simp) rfl (by simp-implicitDefEqProofs+decide only[go_sem]<;>rfl) rfl (fun l hp=>by cases l<;>first|rfl|cases hp) rfl
theorem getD_set_ne {l:List Nat} {i j x:Nat} (h:j≠i):(l.set i x).getD j 0=l.getD j 0:=by
 simp only[List.getD_eq_getElem?_getD,List.getElem?_set,if_neg (Ne.symm h)]
theorem rows_ok (a b:List Nat) (ha:WOK a) (hb:WOK b) (hla:a.length<1000000000) (hlb:b.length<1000000000):
  Pure Tryz.prog 293 [sW a,sW b] [.own 1 ((wordsOf (nv a*nv b)).map U)]:=by
 obtain⟨n,hn⟩:∃n,a.length+b.length=n:=⟨_,rfl⟩
 have hbig:n<big:=by unfold big;omega
 have hwn:IntKind.wrap .i64 ((a.length:Int)+b.length)=(n:Int):=by rw[w64]<;>omega
 refine Pure.I Tryz.func293 [4] ?_
 simp-implicitDefEqProofs+decide only[go_sem,sW,hwn,hbig,replU]
 refine Goes.loop (X:=Nat×List Nat) (fun x=>⟨ofL [(1,tW b),(5,.sl (.loc 20 0) 0 0 n),(21,tW a),(22,.t (.int .i64 a.length)),(23,.t (.int .i64 x.1))],ofH (fun _=>none) [(.loc 20 0,.arr 1 (x.2.map U) 0 0)],0⟩)
  (fun x=>x.1≤a.length∧x.2.length=n∧WOK x.2∧nv x.2=nv (a.take x.1)*nv b∧∀j,x.1+b.length≤j→x.2.getD j 0=0) (fun x=>a.length-x.1) (0,List.replicate n 0) ?_ ⟨Nat.zero_le _,by simp,WOK.repl n,by simp[nv,nv_repl],fun j _=>by simp[List.getD_eq_getElem?_getD,List.getElem?_replicate];split<;>rfl⟩ ?_
 ·refine Wk.rows _ _ (fun _ _=>rfl) rfl rfl ?_ (fun l hp=>by cases l<;>first|rfl|cases hp) ?_ ?_
  ·simp-implicitDefEqProofs+decide only[go_sem]<;>rfl
  ·simp-implicitDefEqProofs+decide only[go_sem,tW,sW]<;>rfl
  ·simp-implicitDefEqProofs+decide only[go_sem,tW,sW]
 rintro ⟨i,out⟩ ⟨hi,hol,hok,he,hz⟩ J hJ
 dsimp only at hi hol hok he hz hJ⊢
 apply run_sound 200
 refine SmW ?_
 apply selP_dec<;>intro hc
 ·obtain⟨x,hx⟩:=getI (show i<a.length by omega)
  have hxl:=ha.get hx
  have hw:=wS (show i<1000000000000 by omega)
  simp-implicitDefEqProofs+decide only[go_sem,tW,sW,hx]
  refine Goes.loop (X:=Nat×List Nat×Nat) (fun y=>⟨ofL [(1,tW b),(5,.sl (.loc 20 0) 0 0 n),(6,.t (.int .i64 i)),(7,.t (.int .u64 x)),(8,.t (.int .u64 y.2.2)),(21,tW a),(22,.t (.int .i64 a.length)),(23,.t (.int .i64 i)),(28,tW b),(29,.t (.int .i64 b.length)),(30,.t (.int .i64 y.1))],ofH (fun _=>none) [(.loc 20 0,.arr 1 (y.2.1.map U) 0 0)],0⟩)
   (fun y=>y.1≤b.length∧y.2.1.length=n∧WOK y.2.1∧y.2.2<18446744073709551616∧nv y.2.1+18446744073709551616^(i+y.1)*y.2.2=nv (a.take i)*nv b+18446744073709551616^i*(x*nv (b.take y.1))∧∀j,i+b.length≤j→y.2.1.getD j 0=0) (fun y=>b.length-y.1) (0,out,0) ?_ ⟨Nat.zero_le _,hol,hok,by dsimp only;omega,by simp[nv,he],hz⟩ ?_
  ·refine Wk.rows _ _ (fun _ _=>rfl) rfl rfl ?_ (fun l hp=>by cases l<;>first|rfl|cases hp) ?_ ?_
   ·simp-implicitDefEqProofs+decide only[go_sem,ofH]
   ·simp-implicitDefEqProofs+decide only[go_sem,tW,sW]<;>rfl
   ·simp-implicitDefEqProofs+decide only[go_sem,tW,sW]
  rintro ⟨k,o2,c⟩ ⟨hk,hol2,hok2,hcl,he2,hz2⟩ J2 hJ2
  dsimp only at hk hol2 hok2 hcl he2 hz2 hJ2⊢
  apply run_sound 200
  refine SmW ?_
  apply selP_dec<;>intro hc2
  ·obtain⟨y,hy⟩:=getI (show k<b.length by omega)
   have hyl:=hb.get hy
   have hik:i+k<n:=by omega
   obtain⟨s,hs⟩:=getI (show i+k<o2.length by omega)
   have hsl:=hok2.get hs
   have hwk:=wS (show k<1000000000000 by omega)
   have hwik:IntKind.wrap .i64 ((i:Int)+k)=((i+k:Nat):Int):=by rw[w64]<;>omega
   have cm:=limbMul_ok x y hxl hyl
   obtain⟨r1,r2⟩:=rows_word hxl hyl hsl hcl
   obtain⟨hi2,hhi⟩:∃v,x*y/18446744073709551616=v:=⟨_,rfl⟩
   obtain⟨lo,hlo⟩:∃v,x*y%18446744073709551616=v:=⟨_,rfl⟩
   have hlol:lo<18446744073709551616:=by rw[←hlo];exact Nat.mod_lt _ (by decide)
   rw[hhi,hlo]at cm r2
   rw[hhi,hlo]at r1
   have ca:=limbAdd_ok s lo c hsl hlol hcl
   obtain⟨r,hr⟩:∃v,(s+lo+c)%18446744073709551616=v:=⟨_,rfl⟩
   obtain⟨ov,hov⟩:∃v,(s+lo+c)/18446744073709551616=v:=⟨_,rfl⟩
   have hrl:r<18446744073709551616:=by rw[←hr];exact Nat.mod_lt _ (by decide)
   rw[hr,hov]at ca r2
   rw[hov]at r1
   obtain⟨c2,hc2e⟩:∃v,hi2+ov=v:=⟨_,rfl⟩
   rw[hc2e]at r1 r2
   have hwc:IntKind.wrap .u64 ((hi2:Int)+ov)=(c2:Int):=by rw[uadd,hc2e,Nat.mod_eq_of_lt r1]
   have hst:=rows_step hs he2 r2
   rw[←nv_take_succ hy]at hst
   obtain⟨o3,ho3⟩:∃v,o2.set (i+k) r=v:=⟨_,rfl⟩
   have hsn:(o2.map U).set (i+k) (.int .u64 (r:Int))=o3.map U:=by rw[setU,ho3]
   rw[ho3]at hst
   simp-implicitDefEqProofs+decide only[go_sem,tW,sW,hy]
   refine CallG.P _ Tryz.call277 (cm) ?_
   simp-implicitDefEqProofs+decide only[go_sem,ofH,hwik,hik,hs]
   refine CallG.P _ Tryz.call290 (ca) ?_
   simp-implicitDefEqProofs+decide only[go_sem,ofH,hwik,hik,hs,hsn,hwc,hwk]
   refine hJ2 (k+1,o3,c2) _ ⟨by dsimp only;omega,by rw[←ho3];simpa using hol2,by rw[←ho3];exact hok2.set hrl,r1,hst,fun j hj=>by rw[←ho3];dsimp only;rw[getD_set_ne (by omega)];exact hz2 j hj⟩ (by dsimp only;omega) (Wk.rows _ _ (fun _ _=>rfl) rfl rfl ?_ (fun l hp=>by cases l<;>first|rfl|cases hp) ?_ ?_)
   ·simp-implicitDefEqProofs+decide only[go_sem]
   ·simp-implicitDefEqProofs+decide only[go_sem,tW,sW,hwk]
   ·simp-implicitDefEqProofs+decide only[go_sem,tW,sW]
  ·have hkb:k=b.length:=by omega
   subst hkb
   have hib:i+b.length<n:=by omega
   obtain⟨s,hs⟩:=getI (show i+b.length<o2.length by omega)
   have hs0:s=0:=by
    have:=hz2 (i+b.length) (Nat.le_refl _)
    simpa [List.getD_eq_getElem?_getD,hs] using this
   subst hs0
   have hwib:IntKind.wrap .i64 ((i:Int)+b.length)=((i+b.length:Nat):Int):=by rw[w64]<;>omega
   have hset:=nv_set (d:=c) hs
   rw[Nat.mul_zero,Nat.add_zero,he2,List.take_length]at hset
   obtain⟨o3,ho3⟩:∃v,o2.set (i+b.length) c=v:=⟨_,rfl⟩
   have hsn:(o2.map U).set (i+b.length) (.int .u64 (c:Int))=o3.map U:=by rw[setU,ho3]
   rw[ho3]at hset
   have hnx:nv o3=nv (a.take (i+1))*nv b:=by rw[hset,nv_take_succ hx,Nat.add_mul,Nat.mul_assoc]
   simp-implicitDefEqProofs+decide only[go_sem,tW,sW,ofH,hwib,hib,hs,hsn,hw]
   refine hJ (i+1,o3) _ ⟨by dsimp only;omega,by rw[←ho3];simpa using hol2,by rw[←ho3];exact hok2.set hcl,hnx,fun j hj=>by rw[←ho3];dsimp only at hj⊢;rw[getD_set_ne (by omega)];exact hz2 j (by omega)⟩ (by dsimp only;omega) (Wk.rows _ _ (fun _ _=>rfl) rfl rfl ?_ (fun l hp=>by cases l<;>first|rfl|cases hp) ?_ ?_)
   ·simp-implicitDefEqProofs+decide only[go_sem]
   ·simp-implicitDefEqProofs+decide only[go_sem,tW,sW,hw]
   ·simp-implicitDefEqProofs+decide only[go_sem,tW,sW]
 ·have hin:i=a.length:=by omega
  rw[List.take_of_length_le (by omega)]at he
  have ct:=trim_ok out (by omega)
  rw[trimW_eq hok,he]at ct
  have htk:(out.map U).take n=out.map U:=List.take_of_length_le (by simp;omega)
  simp-implicitDefEqProofs+decide only[go_sem,ofH,htk,List.drop_zero]
  refine CallG.pureAd _ 72 Tryz.call245 ct (by rw[List.all_cons,noPtr_us];rfl) (by rw[List.all_cons,flat_us];rfl) (fun j size es _=>by cases j<;>rfl) ?_
  apply run_sound 200
  refine Sm ?_
  exact endF.own (lab:=.loc 72 0) (v:=0) (len:=(wordsOf (nv a*nv b)).length) (.inr rfl) (by simp-implicitDefEqProofs+decide only[go_sem]) (by simp-implicitDefEqProofs+decide only[go_sem]) (by simp) rfl (fun l hp=>by cases l<;>first|rfl|cases hp) rfl
theorem part_ok (a:List Nat) (f t:Nat) (ha:WOK a) (hla:a.length<1000000000) (hf:f<1000000000) (ht:t<1000000000) (hft:min f a.length≤min t a.length):
  Pure Tryz.prog 302 [sW a,.int .i64 f,.int .i64 t] [.own 1 ((wordsOf (nv ((a.take t).drop f))).map U)]:=by
 obtain⟨f',hf'⟩:∃x,min f a.length=x:=⟨_,rfl⟩
 obtain⟨t',ht'⟩:∃x,min t a.length=x:=⟨_,rfl⟩
 have e1:(if a.length<f then (a.length:Int) else (f:Int))=(f':Int):=by split<;>omega
 have e2:(if a.length<t then (a.length:Int) else (t:Int))=(t':Int):=by split<;>omega
 have hcut:(a.take t').drop f'=(a.take t).drop f:=by
  have h1:a.take t'=a.take t:=by
   rw[←ht']
   rcases Nat.le_total t a.length with h|h
   ·rw[Nat.min_eq_left h]
   ·rw[Nat.min_eq_right h,List.take_of_length_le h,List.take_length]
  rw[h1,←hf']
  rcases Nat.le_total f a.length with h|h
  ·rw[Nat.min_eq_left h]
  ·rw[Nat.min_eq_right h,List.drop_eq_nil_of_le (by simp;omega),List.drop_eq_nil_of_le (by simp;omega)]
 obtain⟨p,hp⟩:∃p,(a.take t).drop f=p:=⟨_,rfl⟩
 have hsl:((a.map U).take t').drop f'=p.map U:=by rw[←hp,←hcut];simp
 have hpk:WOK p:=by rw[←hp];exact(ha.take t).drop f
 have hpl:p.length≤a.length:=by rw[←hp];simp;omega
 have ct:=trim_ok p (by omega)
 rw[trimW_eq hpk]at ct
 have k1:f'≤t':=by omega
 have k2:t'≤a.length:=by omega
 rw[hp]
 refine Pure.I Tryz.func302 [6] ?_
 simp-implicitDefEqProofs+decide only[go_sem,sW,e1,e2,k1,k2,usAll,hsl]
 refine CallG.pureAd _ 19 Tryz.call245 ct (by rw[List.all_cons,noPtr_us];rfl) (by rw[List.all_cons,flat_us];rfl) (fun j size es _=>by cases j<;>rfl) ?_
 apply run_sound 200
 refine Sm ?_
 exact endF.own (lab:=.loc 19 0) (v:=0) (len:=(wordsOf (nv p)).length) (.inr rfl) (by simp-implicitDefEqProofs+decide only[go_sem]) (by simp-implicitDefEqProofs+decide only[go_sem]) (by simp) rfl (fun l hp=>by cases l<;>first|rfl|cases hp) rfl
theorem above_ok (a:List Nat) (n:Nat) (ha:WOK a) (hla:a.length<1000000000) (hn:n<1000000000):
  Pure Tryz.prog 303 [sW a,.int .i64 n] [.own 1 ((wordsOf (18446744073709551616^n*nv a)).map U)]:=by
 have hbig:n<big:=by unfold big;omega
 have hbig2:n+a.length<big:=by unfold big;omega
 obtain⟨p,hp⟩:∃p,List.replicate n 0++a=p:=⟨_,rfl⟩
 have hsn:(List.replicate n 0).map U++a.map U=p.map U:=by rw[←hp,List.map_append]
 have hpk:WOK p:=by rw[←hp];exact(WOK.repl n).append ha
 have hpl:p.length=n+a.length:=by rw[←hp];simp
 have hpv:nv p=18446744073709551616^n*nv a:=by rw[←hp,nv_append,nv_repl,List.length_replicate,Nat.zero_add]
 have ct:=trim_ok p (by omega)
 rw[trimW_eq hpk,hpv]at ct
 have htk:(p.map U).take (n+a.length)=p.map U:=List.take_of_length_le (by simp;omega)
 refine Pure.I Tryz.func303 [4] ?_
 simp-implicitDefEqProofs+decide only[go_sem,sW,hbig,replU]
 simp-implicitDefEqProofs+decide only[go_sem,sW,hbig2,usAll,List.length_replicate,hsn,htk,List.drop_zero]
 refine CallG.pureAd _ 9 Tryz.call245 ct (by rw[List.all_cons,noPtr_us];rfl) (by rw[List.all_cons,flat_us];rfl) (fun j size es _=>by cases j<;>rfl) ?_
 apply run_sound 200
 refine Sm ?_
 exact endF.own (lab:=.loc 9 0) (v:=0) (len:=(wordsOf (18446744073709551616^n*nv a)).length) (.inr rfl) (by simp-implicitDefEqProofs+decide only[go_sem]) (by simp-implicitDefEqProofs+decide only[go_sem]) (by simp) rfl (fun l hp=>by cases l<;>first|rfl|cases hp) rfl
theorem nv_split2 (a:List Nat) (n:Nat):nv a=nv (a.take n)+18446744073709551616^n*nv (a.drop n):=by
 rcases Nat.le_total n a.length with h|h
 ·exact nv_split h
 ·rw[List.take_of_length_le h,List.drop_eq_nil_of_le h];simp[nv]
theorem nv_take_lt {a:List Nat} (ha:WOK a) (n:Nat):nv (a.take n)<18446744073709551616^n:=by
 have h1:=nv_lt (ha.take n)
 exact Nat.lt_of_lt_of_le h1 (Nat.pow_le_pow_right (by decide) (by simp;omega))
theorem nv_drop_lt {a:List Nat} (ha:WOK a) {n:Nat} (h:a.length≤2*n):nv (a.drop n)<18446744073709551616^n:=by
 have h1:=nv_lt (ha.drop n)
 exact Nat.lt_of_lt_of_le h1 (Nat.pow_le_pow_right (by decide) (by simp;omega))
theorem len_above (n k:Nat):(wordsOf (18446744073709551616^n*k)).length≤n+(wordsOf k).length:=len_wordsOf (by rw[Nat.pow_add];exact Nat.mul_lt_mul_of_pos_left (nv_words_lt k) (Nat.pow_pos (by decide)))
theorem len_sum (a b:Nat):(wordsOf (a+b)).length≤max (wordsOf a).length (wordsOf b).length+1:=by
 refine len_wordsOf (len_add ?_ ?_)
 ·exact Nat.lt_of_lt_of_le (nv_words_lt a) (Nat.pow_le_pow_right (by decide) (Nat.le_max_left _ _))
 ·exact Nat.lt_of_lt_of_le (nv_words_lt b) (Nat.pow_le_pow_right (by decide) (Nat.le_max_right _ _))
set_option maxHeartbeats 1600000 in
theorem halves_ok (a b:List Nat) (ha:WOK a) (hb:WOK b) (hla:a.length<100000000) (hlb:b.length<100000000) (h8a:8≤a.length) (h8b:8≤b.length)
  (IH:∀x y:List Nat,WOK x→WOK y→x.length+y.length<a.length+b.length→x.length<100000000→y.length<100000000→Pure Tryz.prog 269 [sW x,sW y] [.own 1 ((wordsOf (nv x*nv y)).map U)]):
  Pure Tryz.prog 294 [sW a,sW b] [.own 1 ((wordsOf (nv a*nv b)).map U)]:=by
 obtain⟨m,hm⟩:∃m,max a.length b.length=m:=⟨_,rfl⟩
 obtain⟨n,hn⟩:∃n,(m+1)/2=n:=⟨_,rfl⟩
 have e1:(if a.length<b.length then (b.length:Int) else (a.length:Int))=(m:Int):=by split<;>omega
 have e2:=wS (show m<1000000000000 by omega)
 have e3:IntKind.wrap .i64 (Int.tdiv ((m+1:Nat):Int) 2)=(n:Int):=by
  rw[show(2:Int)=((2:Nat):Int) from rfl,←Int.ofNat_tdiv,hn,w64]<;>omega
 have e4:IntKind.wrap .i64 ((2:Int)*n)=((2*n:Nat):Int):=by rw[w64]<;>omega
 have p1:=part_ok a 0 n ha (by omega) (by omega) (by omega) (by omega)
 have p2:=part_ok a n a.length ha (by omega) (by omega) (by omega) (by omega)
 have p3:=part_ok b 0 n hb (by omega) (by omega) (by omega) (by omega)
 have p4:=part_ok b n b.length hb (by omega) (by omega) (by omega) (by omega)
 rw[List.drop_zero]at p1 p3
 rw[List.take_length]at p2 p4
 have va:=nv_split2 a n
 have vb:=nv_split2 b n
 have lx:=nv_take_lt ha n
 have ly:=nv_drop_lt ha (show a.length≤2*n by omega)
 have lu:=nv_take_lt hb n
 have lv:=nv_drop_lt hb (show b.length≤2*n by omega)
 generalize nv (a.take n)=x at*
 generalize nv (a.drop n)=y at*
 generalize nv (b.take n)=u at*
 generalize nv (b.drop n)=v at*
 have kx:=len_wordsOf lx
 have ky:=len_wordsOf ly
 have ku:=len_wordsOf lu
 have kv:=len_wordsOf lv
 have kxy:=len_wordsOf (len_add lx ly)
 have kuv:=len_wordsOf (len_add lu lv)
 have c1:=IH (wordsOf x) (wordsOf u) (WOK_wordsOf x) (WOK_wordsOf u) (by omega) (by omega) (by omega)
 have c2:=IH (wordsOf y) (wordsOf v) (WOK_wordsOf y) (WOK_wordsOf v) (by omega) (by omega) (by omega)
 have c3:=natAdd_ok (wordsOf x) (wordsOf y) (WOK_wordsOf x) (WOK_wordsOf y) (by omega) (by omega)
 have c4:=natAdd_ok (wordsOf u) (wordsOf v) (WOK_wordsOf u) (WOK_wordsOf v) (by omega) (by omega)
 have c5:=IH (wordsOf (x+y)) (wordsOf (u+v)) (WOK_wordsOf _) (WOK_wordsOf _) (by omega) (by omega) (by omega)
 have kxu:=len_wordsOf (len_mul lx lu)
 have kyv:=len_wordsOf (len_mul ly lv)
 have kmm:=len_wordsOf (len_mul (len_add lx ly) (len_add lu lv))
 have c6:=natAdd_ok (wordsOf (x*u)) (wordsOf (y*v)) (WOK_wordsOf _) (WOK_wordsOf _) (by omega) (by omega)
 have ksum:=len_wordsOf (len_add (len_mul lx lu) (len_mul ly lv))
 have c7:=natSub_ok (wordsOf ((x+y)*(u+v))) (wordsOf (x*u+y*v)) (WOK_wordsOf _) (WOK_wordsOf _) (by omega) (by omega) (by rw[nv_wordsOf,nv_wordsOf];exact mid_le x y u v)
 have hmid:=mid_prod x y u v
 have hml:x*v+y*u≤(x+y)*(u+v):=by rw[←hmid];exact Nat.sub_le _ _
 have kmid:=len_wordsOf (Nat.lt_of_le_of_lt hml (len_mul (len_add lx ly) (len_add lu lv)))
 have c8:=above_ok (wordsOf (x*v+y*u)) n (WOK_wordsOf _) (by omega) (by omega)
 have c9:=above_ok (wordsOf (y*v)) (2*n) (WOK_wordsOf _) (by omega) (by omega)
 simp only[nv_wordsOf]at c1 c2 c3 c4 c5 c6 c7 c8 c9
 rw[hmid]at c7
 have kA:=len_above n (x*v+y*u)
 have kB:=len_above (2*n) (y*v)
 have kC:=len_sum (18446744073709551616^n*(x*v+y*u)) (18446744073709551616^(2*n)*(y*v))
 have c10:=natAdd_ok (wordsOf (18446744073709551616^n*(x*v+y*u))) (wordsOf (18446744073709551616^(2*n)*(y*v))) (WOK_wordsOf _) (WOK_wordsOf _) (by omega) (by omega)
 have c11:=natAdd_ok (wordsOf (x*u)) (wordsOf (18446744073709551616^n*(x*v+y*u)+18446744073709551616^(2*n)*(y*v))) (WOK_wordsOf _) (WOK_wordsOf _) (by omega) (by omega)
 simp only[nv_wordsOf]at c10 c11
 have hfin:x*u+(18446744073709551616^n*(x*v+y*u)+18446744073709551616^(2*n)*(y*v))=nv a*nv b:=by
  have hk:=kara x y u v (18446744073709551616^n)
  rw[←Nat.pow_add,←Nat.two_mul]at hk
  rw[va,vb,←hk,Nat.add_assoc]
 rw[hfin]at c11
 clear va vb lx ly lu lv hmid hml hfin IH
 generalize (x+y)*(u+v)=mm at*
 generalize 18446744073709551616^n*(x*v+y*u)=aa at*
 generalize 18446744073709551616^(2*n)*(y*v)=bb at*
 generalize x*v+y*u=mid at*
 generalize x*u=xu at*
 generalize y*v=yv at*
 refine Pure.I Tryz.func294 [4] ?_
 simp-implicitDefEqProofs+decide only[go_sem,sW,e1,e2,e3]
 refine CallG.P _ Tryz.call302 (p1) ?_
 refine Sm ?_
 refine CallG.P _ Tryz.call302 (p2) ?_
 refine SmV ?_
 refine CallG.P _ Tryz.call302 (p3) ?_
 refine SmV ?_
 refine CallG.P _ Tryz.call302 (p4) ?_
 refine SmV ?_
 refine CallG.P _ Tryz.call269 (c1) ?_
 refine SmV ?_
 refine CallG.P _ Tryz.call269 (c2) ?_
 refine SmV ?_
 refine CallG.P _ Tryz.call249 (c3) ?_
 refine SmV ?_
 refine CallG.P _ Tryz.call249 (c4) ?_
 refine SmV ?_
 refine CallG.P _ Tryz.call269 (c5) ?_
 refine SmV ?_
 refine CallG.P _ Tryz.call249 (c6) ?_
 refine SmV ?_
 refine CallG.pure _ Tryz.call292 c7 (by first|rfl|(simp only[go_sem];done)|(simp only[go_sem];rfl)) (by simp only[List.all_cons,List.all_nil,flat_us,flatRC_bool,Bool.and_self]) ?_
 apply run_sound 200
 refine SmV ?_
 refine CallG.P _ Tryz.call303 (c8) ?_
 simp-implicitDefEqProofs+decide only[go_sem,sW,e4]
 refine CallG.P _ Tryz.call303 (c9) ?_
 refine SmV ?_
 refine CallG.P _ Tryz.call249 (c10) ?_
 refine SmV ?_
 refine CallG.pureAd _ 66 Tryz.call249 c11 (by first|rfl|(simp only[go_sem];done)|(simp only[go_sem];rfl)) (by first|rfl|(simp only[go_sem];done)|(simp only[go_sem];rfl)) (fun j size es _=>by cases j<;>rfl) ?_
 apply run_sound 200
 refine Sm ?_
 exact endF.own (lab:=.loc 66 0) (v:=0) (len:=(wordsOf (nv a*nv b)).length) (.inr rfl) (by simp-implicitDefEqProofs+decide only[go_sem]) (by simp-implicitDefEqProofs+decide only[go_sem]) (by simp) rfl (fun l hp=>by cases l<;>first|rfl|cases hp) rfl
theorem mul_ok:∀(f:Nat) (a b:List Nat),a.length+b.length<f→WOK a→WOK b→a.length<100000000→b.length<100000000→Pure Tryz.prog 269 [sW a,sW b] [.own 1 ((wordsOf (nv a*nv b)).map U)]
 |0,a,b,h,_,_,_,_=>absurd h (Nat.not_lt_zero _)
 | f + 1, a, b, h, ha, hb, hla, hlb => by
   by_cases h1:a.length<8
   ·have c:=rows_ok a b ha hb (by omega) (by omega)
    refine Pure.I Tryz.func269 [4] ?_
    simp-implicitDefEqProofs+decide only[go_sem,sW,eq_true (show(a.length:Int)<8 by omega)]
    refine CallG.pureAd _ 15 Tryz.call293 c (by first|rfl|(simp only[go_sem];done)|(simp only[go_sem];rfl)) (by first|rfl|(simp only[go_sem];done)|(simp only[go_sem];rfl)) (fun j size es _=>by cases j<;>rfl) ?_
    apply run_sound 200
    refine Sm ?_
    exact endF.own (lab:=.loc 15 0) (v:=0) (len:=(wordsOf (nv a*nv b)).length) (.inr rfl) (by simp-implicitDefEqProofs+decide only[go_sem]) (by simp-implicitDefEqProofs+decide only[go_sem]) (by simp) rfl (fun l hp=>by cases l<;>first|rfl|cases hp) rfl
   ·by_cases h2:b.length<8
    ·have c:=rows_ok a b ha hb (by omega) (by omega)
     refine Pure.I Tryz.func269 [4] ?_
     simp-implicitDefEqProofs+decide only[go_sem,sW,eq_false (show ¬(a.length:Int)<8 by omega),eq_true (show(b.length:Int)<8 by omega)]
     refine CallG.pureAd _ 15 Tryz.call293 c (by first|rfl|(simp only[go_sem];done)|(simp only[go_sem];rfl)) (by first|rfl|(simp only[go_sem];done)|(simp only[go_sem];rfl)) (fun j size es _=>by cases j<;>rfl) ?_
     apply run_sound 200
     refine Sm ?_
     exact endF.own (lab:=.loc 15 0) (v:=0) (len:=(wordsOf (nv a*nv b)).length) (.inr rfl) (by simp-implicitDefEqProofs+decide only[go_sem]) (by simp-implicitDefEqProofs+decide only[go_sem]) (by simp) rfl (fun l hp=>by cases l<;>first|rfl|cases hp) rfl
    ·have c:=halves_ok a b ha hb hla hlb (by omega) (by omega) (fun x y hx hy hlt hlx hly=>mul_ok f x y (by omega) hx hy hlx hly)
     refine Pure.I Tryz.func269 [4] ?_
     simp-implicitDefEqProofs+decide only[go_sem,sW,eq_false (show ¬(a.length:Int)<8 by omega),eq_false (show ¬(b.length:Int)<8 by omega)]
     refine CallG.pureAd _ 18 Tryz.call294 c (by first|rfl|(simp only[go_sem];done)|(simp only[go_sem];rfl)) (by first|rfl|(simp only[go_sem];done)|(simp only[go_sem];rfl)) (fun j size es _=>by cases j<;>rfl) ?_
     apply run_sound 200
     refine Sm ?_
     exact endF.own (lab:=.loc 18 0) (v:=0) (len:=(wordsOf (nv a*nv b)).length) (.inr rfl) (by simp-implicitDefEqProofs+decide only[go_sem]) (by simp-implicitDefEqProofs+decide only[go_sem]) (by simp) rfl (fun l hp=>by cases l<;>first|rfl|cases hp) rfl
theorem natMul_ok (a b:List Nat) (ha:WOK a) (hb:WOK b) (hla:a.length<100000000) (hlb:b.length<100000000):Pure Tryz.prog 269 [sW a,sW b] [.own 1 ((wordsOf (nv a*nv b)).map U)]:=mul_ok _ a b (Nat.lt_succ_self _) ha hb hla hlb
theorem reduce_ok (a b:List Nat) (ha:WOK a) (hb:WOK b) (hla:a.length<100000000) (hlb:b.length<100000000) (h0:nv b≠0):
  Pure Tryz.prog 270 [sW a,sW b] [.t (sW (wordsOf (nv a/Nat.gcd (nv a) (nv b)))),.t (sW (wordsOf (nv b/Nat.gcd (nv a) (nv b))))]:=by
 have c1:=gcd_ok a b ha hb hla hlb
 have hg:Nat.gcd (nv a) (nv b)≠0:=by have:=Nat.gcd_pos_of_pos_right (nv a) (Nat.pos_of_ne_zero h0);omega
 have hgl:(wordsOf (Nat.gcd (nv a) (nv b))).length≤b.length:=len_wordsOf (Nat.lt_of_le_of_lt (Nat.le_of_dvd (Nat.pos_of_ne_zero h0) (Nat.gcd_dvd_right _ _)) (nv_lt hb))
 obtain⟨g,hge⟩:∃g,Nat.gcd (nv a) (nv b)=g:=⟨_,rfl⟩
 rw[hge]at c1 hg hgl
 rw[hge]
 have c2:=div_ok a (wordsOf g) ha (WOK_wordsOf g) hla (by omega) (by rw[nv_wordsOf];exact hg)
 have c3:=div_ok b (wordsOf g) hb (WOK_wordsOf g) hlb (by omega) (by rw[nv_wordsOf];exact hg)
 rw[nv_wordsOf]at c2 c3
 have hne:(wordsOf g).length≠0:=fun e=>by
  have:=nv_wordsOf g
  rw[List.length_eq_zero_iff.1 e]at this
  exact hg this.symm
 refine Pure.I Tryz.func270 [4,5] ?_
 refine Sm ?_
 refine CallG.PS _ Tryz.call295 (c1) ?_
 simp-implicitDefEqProofs+decide only[go_sem,sW,eq_false (show ¬((wordsOf g).length:Int)=0 by omega)]
 refine CallG.PS _ Tryz.call188 (c2) ?_
 refine SmV ?_
 refine CallG.PS _ Tryz.call188 (c3) ?_
 refine SmV ?_
 exact endF.V [(4,sW (wordsOf (nv a/g))),(5,sW (wordsOf (nv b/g)))] (vals_t (by simp-implicitDefEqProofs+decide only[go_sem]<;>rfl) rfl (vals_t (by simp-implicitDefEqProofs+decide only[go_sem]<;>rfl) rfl vals_nil))
theorem one_ok:Pure Tryz.prog 239 [] [.t (sW [1])]:=by
 refine Pure.I Tryz.func239 [0] ?_
 refine Sm ?_
 exact endF.row1 (lab:=.loc 1 0) (v:=0) (len:=1) (size:=1) (frz:=0) (es:=[.int .u64 1]) (.inr rfl) rfl rfl rfl (fun l hp=>by cases l<;>first|rfl|cases hp) rfl
theorem safe_ok (d:List Nat) (hd:WOK d) (hl:d.length<1000000000) (h0:nv d≠0):Pure Tryz.prog 268 [sW d] [.t (sW d)]:=by
 have c:=natBits_ok d hd hl
 have hb:=(bitLen_bounds h0).2.2
 obtain⟨k,hk⟩:∃k,bitLen (nv d)=k:=⟨_,rfl⟩
 rw[hk]at c hb
 refine Pure.I Tryz.func268 [2] ?_
 refine Sm ?_
 refine CallG.P _ Tryz.call184 (c) ?_
 simp-implicitDefEqProofs+decide only[go_sem,eq_false (show ¬(k:Int)=0 by omega)]
 exact endF.V1 2 (sW d)
theorem same_okQ (x y:Nat) (hx:(wordsOf x).length<1000000000) (hy:(wordsOf y).length<1000000000):Pure Tryz.prog 265 [sW (wordsOf x),sW (wordsOf y)] [.t (.bool (decide (x=y)))]:=by
 have c1:=natRight_ok (wordsOf x) hx
 have c2:=natRight_ok (wordsOf y) hy
 rw[size_wordsOf,decide_eq_true rfl]at c1 c2
 have c3:=natCmp_ok (wordsOf x) (wordsOf y) (WOK_wordsOf x) (WOK_wordsOf y) hx hy
 rw[nv_wordsOf,nv_wordsOf]at c3
 have hr:decide (x=y)=decide (cmpI x y=0):=decide_eq_decide.2 (by unfold cmpI;split<;>(try split)<;>omega)
 rw[hr]
 generalize cmpI x y=r at c3⊢
 refine Pure.I Tryz.func265 [4] ?_
 refine Sm ?_
 refine CallG.P _ Tryz.call291 (c1) ?_
 refine Sm ?_
 refine CallG.P _ Tryz.call291 (c2) ?_
 refine Sm ?_
 refine CallG.P _ Tryz.call246 (c3) ?_
 refine Sm ?_
 exact endF.V1 4 (.bool (decide (r=0)))
theorem sum_okQ (an bn:Bool) (x y:Nat) (hx:(wordsOf x).length<100000000) (hy:(wordsOf y).length<100000000):
  Pure Tryz.prog 266 [.bool an,sW (wordsOf x),.bool bn,sW (wordsOf y)] [.t (.bool (sumQ an x bn y).1),.t (sW (wordsOf (sumQ an x bn y).2))]:=by
 have c1:=natAdd_ok (wordsOf x) (wordsOf y) (WOK_wordsOf x) (WOK_wordsOf y) (by omega) (by omega)
 rw[nv_wordsOf,nv_wordsOf]at c1
 by_cases he:an=bn
 ·subst he
  have hs:sumQ an x an y=(an,x+y):=if_pos rfl
  rw[hs]
  dsimp only
  obtain⟨z,hz⟩:∃z,x+y=z:=⟨_,rfl⟩
  rw[hz]at c1⊢
  cases an
  ·skip
   refine Pure.I Tryz.func266 [8,9] ?_
   refine Sm ?_
   refine CallG.P _ Tryz.call249 (c1) ?_
   refine Sm ?_
   exact endF.V [(8,.bool false),(9,sW (wordsOf z))] (vals_t (by simp-implicitDefEqProofs+decide only[go_sem]<;>rfl) rfl (vals_t (by simp-implicitDefEqProofs+decide only[go_sem]<;>rfl) rfl vals_nil))
  ·skip
   refine Pure.I Tryz.func266 [8,9] ?_
   refine Sm ?_
   refine CallG.P _ Tryz.call249 (c1) ?_
   refine Sm ?_
   exact endF.V [(8,.bool true),(9,sW (wordsOf z))] (vals_t (by simp-implicitDefEqProofs+decide only[go_sem]<;>rfl) rfl (vals_t (by simp-implicitDefEqProofs+decide only[go_sem]<;>rfl) rfl vals_nil))
 ·by_cases hle:y≤x
  ·have hs:sumQ an x bn y=(an,x-y):=by unfold sumQ;rw[if_neg he,if_pos hle]
   rw[hs]
   dsimp only
   have c2:=natSub_ok (wordsOf x) (wordsOf y) (WOK_wordsOf x) (WOK_wordsOf y) (by omega) (by omega) (by rw[nv_wordsOf,nv_wordsOf];exact hle)
   rw[nv_wordsOf,nv_wordsOf]at c2
   obtain⟨z,hz⟩:∃z,x-y=z:=⟨_,rfl⟩
   rw[hz]at c2⊢
   cases an<;>cases bn<;>first|exact absurd rfl he|skip
   ·skip
    refine Pure.I Tryz.func266 [8,9] ?_
    refine Sm ?_
    refine CallG.P _ Tryz.call292 (c2) ?_
    refine Sm ?_
    exact endF.V [(8,.bool false),(9,sW (wordsOf z))] (vals_t (by simp-implicitDefEqProofs+decide only[go_sem]<;>rfl) rfl (vals_t (by simp-implicitDefEqProofs+decide only[go_sem]<;>rfl) rfl vals_nil))
   ·skip
    refine Pure.I Tryz.func266 [8,9] ?_
    refine Sm ?_
    refine CallG.P _ Tryz.call292 (c2) ?_
    refine Sm ?_
    exact endF.V [(8,.bool true),(9,sW (wordsOf z))] (vals_t (by simp-implicitDefEqProofs+decide only[go_sem]<;>rfl) rfl (vals_t (by simp-implicitDefEqProofs+decide only[go_sem]<;>rfl) rfl vals_nil))
  ·have hs:sumQ an x bn y=(bn,y-x):=by unfold sumQ;rw[if_neg he,if_neg hle]
   rw[hs]
   dsimp only
   have c2:=natSub_no (wordsOf x) (wordsOf y) (WOK_wordsOf x) (WOK_wordsOf y) (by omega) (by omega) (by rw[nv_wordsOf,nv_wordsOf];omega)
   have c3:=natSub_ok (wordsOf y) (wordsOf x) (WOK_wordsOf y) (WOK_wordsOf x) (by omega) (by omega) (by rw[nv_wordsOf,nv_wordsOf];omega)
   rw[nv_wordsOf,nv_wordsOf]at c3
   obtain⟨z,hz⟩:∃z,y-x=z:=⟨_,rfl⟩
   rw[hz]at c3⊢
   cases an<;>cases bn<;>first|exact absurd rfl he|skip
   ·skip
    refine Pure.I Tryz.func266 [8,9] ?_
    refine Sm ?_
    refine CallG.PS _ Tryz.call292 (c2) ?_
    refine Sm ?_
    refine CallG.P _ Tryz.call292 (c3) ?_
    refine Sm ?_
    exact endF.V [(8,.bool true),(9,sW (wordsOf z))] (vals_t (by simp-implicitDefEqProofs+decide only[go_sem]<;>rfl) rfl (vals_t (by simp-implicitDefEqProofs+decide only[go_sem]<;>rfl) rfl vals_nil))
   ·skip
    refine Pure.I Tryz.func266 [8,9] ?_
    refine Sm ?_
    refine CallG.PS _ Tryz.call292 (c2) ?_
    refine Sm ?_
    refine CallG.P _ Tryz.call292 (c3) ?_
    refine Sm ?_
    exact endF.V [(8,.bool false),(9,sW (wordsOf z))] (vals_t (by simp-implicitDefEqProofs+decide only[go_sem]<;>rfl) rfl (vals_t (by simp-implicitDefEqProofs+decide only[go_sem]<;>rfl) rfl vals_nil))
theorem lowest_ok (neg:Bool) (a b:List Nat) (ha:WOK a) (hb:WOK b) (hla:a.length<100000000) (hlb:b.length<100000000) (h0:nv b≠0):
  Pure Tryz.prog 267 [.bool neg,sW a,sW b] [.t (lowQ neg (nv a) (nv b)).T]:=by
 have c:=reduce_ok a b ha hb hla hlb h0
 unfold lowQ
 generalize nv a/Nat.gcd (nv a) (nv b)=x at c⊢
 generalize nv b/Nat.gcd (nv a) (nv b)=y at c⊢
 have hlen:decide ((0:Int)<(wordsOf x).length)=decide (x≠0):=decide_eq_decide.2 (by
   constructor
   · intro h e
     subst e
     rw[wordsOf_zero]at h
     simp at h
   · intro h
     rcases Nat.eq_zero_or_pos (wordsOf x).length with e|e
     · have := nv_wordsOf x
       rw[List.length_eq_zero_iff.1 e]at this
       exact absurd this.symm h
     ·omega)
 refine Pure.J Tryz.func267 [.c 6 _] ?_
 refine Sm ?_
 refine CallG.PS _ Tryz.call270 (c) ?_
 refine SmV ?_
 cases neg
 ·refine Sm ?_
  exact endC.Q
 ·simp-implicitDefEqProofs+decide only[go_sem,hlen]
  exact endC.Q
structure QB (r:Rat) (k:Nat):Prop where
 n:(wordsOf r.num.natAbs).length≤k
 d:(wordsOf r.den).length≤k
theorem noPtr_qU (r:Rat):noPtr (.agg [.bool (neg1 r),sW (wordsOf r.num.natAbs),sW (wordsOf r.den)])=true:=noPtr_Rt (qR r)
attribute [go_sem] noPtr_qU
theorem qT (r:Rat):(qR r).T=.agg [.bool (neg1 r),sW (wordsOf r.num.natAbs),sW (wordsOf r.den)]:=rfl
theorem neg_okQ (r:Rat) (h:QB r 10000000):Pure Tryz.prog 214 [(qR r).T] [.t (qR (-r)).T]:=by
 have h1:=h.n
 have h2:=h.d
 have c1:=natBits_ok (wordsOf r.num.natAbs) (WOK_wordsOf _) (by omega)
 have c2:=trim_ok (wordsOf r.num.natAbs) (by omega)
 have c3:=trim_ok (wordsOf r.den) (by omega)
 rw[trim_wordsOf]at c2 c3
 rw[nv_wordsOf]at c1
 have hb:decide ((0:Int)<bitLen r.num.natAbs)=decide (r.num.natAbs≠0):=decide_eq_decide.2 (by
   constructor
   · intro h e
     rw[e]at h
     exact absurd h (by decide)
   · intro h
     have:=(bitLen_bounds h).2.2
     omega)
 rw[neg_qR,qT]
 generalize neg1 r=ng
 generalize wordsOf r.den=q at c3⊢
 generalize wordsOf r.num.natAbs=p at c1 c2⊢
 generalize bitLen r.num.natAbs=z at c1 hb
 generalize r.num.natAbs=nn at hb⊢
 refine Pure.J Tryz.func214 [.c 2 _] ?_
 refine Sm ?_
 cases ng
 ·refine Sm ?_
  refine Goes.drawN mixed ?_
  refine Sm ?_
  refine CallD.P _ Tryz.call184 c1 ?_
  simp-implicitDefEqProofs+decide only[go_sem,hb]
  refine CallD.P _ Tryz.call245 c2 ?_
  refine Sm ?_
  refine CallD.P _ Tryz.call245 c3 ?_
  refine Sm ?_
  refine⟨.mk (by kernel_rfl),?_⟩
  apply run_sound 200
  refine Sm ?_
  exact endC.Q
 ·refine Sm ?_
  refine Goes.drawN mixed ?_
  refine Sm ?_
  refine CallD.P _ Tryz.call245 c2 ?_
  refine Sm ?_
  refine CallD.P _ Tryz.call245 c3 ?_
  refine Sm ?_
  refine⟨.mk (by kernel_rfl),?_⟩
  apply run_sound 200
  refine Sm ?_
  exact endC.Q
theorem len_prod (a b:Nat):(wordsOf (a*b)).length≤(wordsOf a).length+(wordsOf b).length:=len_wordsOf (len_mul (nv_words_lt a) (nv_words_lt b))
theorem sumQ_le (an:Bool) (a:Nat) (bn:Bool) (b:Nat):(sumQ an a bn b).2≤a+b:=by
 unfold sumQ;split
 ·exact Nat.le_refl _
 ·split<;>dsimp only<;>omega
theorem len_mono {a b:Nat} (h:a≤b):(wordsOf a).length≤(wordsOf b).length:=len_wordsOf (Nat.lt_of_le_of_lt h (nv_words_lt b))
theorem add_okQ (r s:Rat) (hr:QB r 10000000) (hs:QB s 10000000):Pure Tryz.prog 215 [(qR r).T,(qR s).T] [.t (qR (r+s)).T]:=by
 have r1:=hr.n
 have r2:=hr.d
 have s1:=hs.n
 have s2:=hs.d
 have c1:=same_okQ r.den s.den (by omega) (by omega)
 rw[qT,qT]
 by_cases hd:r.den=s.den
 ·have c2:=sum_okQ (neg1 r) (neg1 s) r.num.natAbs s.num.natAbs (by omega) (by omega)
  have c3:=safe_ok (wordsOf r.den) (WOK_wordsOf _) (by omega) (by rw[nv_wordsOf];exact r.den_nz)
  have hlen:=Nat.le_trans (len_mono (sumQ_le (neg1 r) r.num.natAbs (neg1 s) s.num.natAbs)) (len_sum _ _)
  have c4:=lowest_ok (sumQ (neg1 r) r.num.natAbs (neg1 s) s.num.natAbs).1 (wordsOf (sumQ (neg1 r) r.num.natAbs (neg1 s) s.num.natAbs).2) (wordsOf r.den) (WOK_wordsOf _) (WOK_wordsOf _) (by omega) (by omega) (by rw[nv_wordsOf];exact r.den_nz)
  rw[nv_wordsOf,nv_wordsOf,add_low_same r s hd]at c4
  rw[decide_eq_true hd]at c1
  generalize (sumQ (neg1 r) r.num.natAbs (neg1 s) s.num.natAbs).1=sg at c2 c4
  generalize (sumQ (neg1 r) r.num.natAbs (neg1 s) s.num.natAbs).2=sv at c2 c4
  generalize r+s=t at c4⊢
  refine Pure.J Tryz.func215 [.c 4 _] ?_
  refine Sm ?_
  refine CallG.P _ Tryz.call265 (c1) ?_
  refine Sm ?_
  refine CallG.PS _ Tryz.call266 (c2) ?_
  refine Sm ?_
  refine CallG.PS _ Tryz.call268 (c3) ?_
  refine Sm ?_
  refine CallG.PS _ Tryz.call267 (c4) ?_
  simp-implicitDefEqProofs+decide only[go_sem,qT]
  exact endC.Q
 ·have m1:=natMul_ok (wordsOf r.num.natAbs) (wordsOf s.den) (WOK_wordsOf _) (WOK_wordsOf _) (by omega) (by omega)
  have m2:=natMul_ok (wordsOf s.num.natAbs) (wordsOf r.den) (WOK_wordsOf _) (WOK_wordsOf _) (by omega) (by omega)
  have m3:=natMul_ok (wordsOf r.den) (wordsOf s.den) (WOK_wordsOf _) (WOK_wordsOf _) (by omega) (by omega)
  simp only[nv_wordsOf]at m1 m2 m3
  have l1:=len_prod r.num.natAbs s.den
  have l2:=len_prod s.num.natAbs r.den
  have l3:=len_prod r.den s.den
  have c2:=sum_okQ (neg1 r) (neg1 s) (r.num.natAbs*s.den) (s.num.natAbs*r.den) (by omega) (by omega)
  have hdz:nv (wordsOf (r.den*s.den))≠0:=by rw[nv_wordsOf];exact Nat.mul_ne_zero r.den_nz s.den_nz
  have c3:=safe_ok (wordsOf (r.den*s.den)) (WOK_wordsOf _) (by omega) hdz
  have hlen:=Nat.le_trans (len_mono (sumQ_le (neg1 r) (r.num.natAbs*s.den) (neg1 s) (s.num.natAbs*r.den))) (len_sum _ _)
  have c4:=lowest_ok (sumQ (neg1 r) (r.num.natAbs*s.den) (neg1 s) (s.num.natAbs*r.den)).1 (wordsOf (sumQ (neg1 r) (r.num.natAbs*s.den) (neg1 s) (s.num.natAbs*r.den)).2) (wordsOf (r.den*s.den)) (WOK_wordsOf _) (WOK_wordsOf _) (by omega) (by omega) hdz
  rw[nv_wordsOf,nv_wordsOf,add_low r s]at c4
  rw[decide_eq_false hd]at c1
  generalize (sumQ (neg1 r) (r.num.natAbs*s.den) (neg1 s) (s.num.natAbs*r.den)).1=sg at c2 c4
  generalize (sumQ (neg1 r) (r.num.natAbs*s.den) (neg1 s) (s.num.natAbs*r.den)).2=sv at c2 c4
  generalize r+s=t at c4⊢
  refine Pure.J Tryz.func215 [.c 4 _] ?_
  refine Sm ?_
  refine CallG.P _ Tryz.call265 (c1) ?_
  refine Sm ?_
  refine Goes.drawN mixed ?_
  refine Sm ?_
  refine CallD.P _ Tryz.call269 m1 ?_
  refine Sm ?_
  refine CallD.P _ Tryz.call269 m2 ?_
  refine SmV ?_
  refine CallD.PS _ Tryz.call266 c2 ?_
  refine Sm ?_
  refine⟨.mk (by kernel_rfl),?_⟩
  apply run_sound 200
  refine Sm ?_
  refine CallG.P _ Tryz.call269 (m3) ?_
  refine SmV ?_
  refine CallG.PS _ Tryz.call268 (c3) ?_
  refine Sm ?_
  refine CallG.PS _ Tryz.call267 (c4) ?_
  simp-implicitDefEqProofs+decide only[go_sem,qT]
  exact endC.Q
theorem sub_okQ (r s:Rat) (hr:QB r 10000000) (hs:QB s 10000000):Pure Tryz.prog 216 [(qR r).T,(qR s).T] [.t (qR (r-s)).T]:=by
 have c1:=neg_okQ s hs
 have c2:=add_okQ r (-s) hr ⟨by rw[show(-s).num= -s.num from rfl,Int.natAbs_neg];exact hs.n,hs.d⟩
 rw[←Rat.sub_eq_add_neg]at c2
 generalize r-s=t at c2⊢
 rw[qT]at c1
 rw[qT,qT]at c2
 rw[qT,qT]
 generalize-s=s' at c1 c2
 refine Pure.J Tryz.func216 [.c 4 _] ?_
 refine Sm ?_
 refine Goes.drawN mixed ?_
 refine Sm ?_
 refine CallD.PS _ Tryz.call214 c1 ?_
 simp-implicitDefEqProofs+decide only[go_sem,qT]
 refine CallD.PS _ Tryz.call215 c2 ?_
 simp-implicitDefEqProofs+decide only[go_sem,qT]
 refine⟨.mk (by kernel_rfl),?_⟩
 apply run_sound 200
 refine Sm ?_
 exact endC.Q
theorem mul_okQ (r s:Rat) (hr:QB r 10000000) (hs:QB s 10000000):Pure Tryz.prog 217 [(qR r).T,(qR s).T] [.t (qR (r*s)).T]:=by
 have r1:=hr.n
 have r2:=hr.d
 have s1:=hs.n
 have s2:=hs.d
 have hrd:nv (wordsOf r.den)≠0:=by rw[nv_wordsOf];exact r.den_nz
 have hsd:nv (wordsOf s.den)≠0:=by rw[nv_wordsOf];exact s.den_nz
 have c1:=safe_ok (wordsOf s.den) (WOK_wordsOf _) (by omega) hsd
 have c2:=safe_ok (wordsOf r.den) (WOK_wordsOf _) (by omega) hrd
 have d1:=reduce_ok (wordsOf r.num.natAbs) (wordsOf s.den) (WOK_wordsOf _) (WOK_wordsOf _) (by omega) (by omega) hsd
 have d2:=reduce_ok (wordsOf s.num.natAbs) (wordsOf r.den) (WOK_wordsOf _) (WOK_wordsOf _) (by omega) (by omega) hrd
 simp only[nv_wordsOf]at d1 d2
 have hm:=mul_low r s
 have l1:=len_mono (Nat.div_le_self r.num.natAbs (Nat.gcd r.num.natAbs s.den))
 have l2:=len_mono (Nat.div_le_self s.den (Nat.gcd r.num.natAbs s.den))
 have l3:=len_mono (Nat.div_le_self s.num.natAbs (Nat.gcd s.num.natAbs r.den))
 have l4:=len_mono (Nat.div_le_self r.den (Nat.gcd s.num.natAbs r.den))
 have n1:s.den/Nat.gcd r.num.natAbs s.den≠0:=by
  have:=Nat.div_pos (Nat.le_of_dvd (Nat.pos_of_ne_zero s.den_nz) (Nat.gcd_dvd_right r.num.natAbs s.den)) (Nat.gcd_pos_of_pos_right _ (Nat.pos_of_ne_zero s.den_nz))
  omega
 have n2:r.den/Nat.gcd s.num.natAbs r.den≠0:=by
  have:=Nat.div_pos (Nat.le_of_dvd (Nat.pos_of_ne_zero r.den_nz) (Nat.gcd_dvd_right s.num.natAbs r.den)) (Nat.gcd_pos_of_pos_right _ (Nat.pos_of_ne_zero r.den_nz))
  omega
 rw[qT,qT]
 generalize r.num.natAbs/Nat.gcd r.num.natAbs s.den=an at*
 generalize s.den/Nat.gcd r.num.natAbs s.den=bd at*
 generalize s.num.natAbs/Nat.gcd s.num.natAbs r.den=bn at*
 generalize r.den/Nat.gcd s.num.natAbs r.den=ad at*
 have m1:=natMul_ok (wordsOf an) (wordsOf bn) (WOK_wordsOf _) (WOK_wordsOf _) (by omega) (by omega)
 have m2:=natMul_ok (wordsOf ad) (wordsOf bd) (WOK_wordsOf _) (WOK_wordsOf _) (by omega) (by omega)
 simp only[nv_wordsOf]at m1 m2
 have k1:=len_prod an bn
 have k2:=len_prod ad bd
 have c4:=lowest_ok (neg1 r !=neg1 s) (wordsOf (an*bn)) (wordsOf (ad*bd)) (WOK_wordsOf _) (WOK_wordsOf _) (by omega) (by omega) (by rw[nv_wordsOf];exact Nat.mul_ne_zero n2 n1)
 rw[nv_wordsOf,nv_wordsOf,hm]at c4
 generalize r*s=t at c4⊢
 have hb:∀p q:Bool,(p !=q)= !decide (p=q):=fun p q=>by cases p<;>cases q<;>rfl
 rw[hb]at c4
 generalize neg1 r=nr at c4⊢
 generalize neg1 s=ns at c4⊢
 refine Pure.J Tryz.func217 [.c 4 _] ?_
 refine Sm ?_
 refine Goes.drawN mixed ?_
 refine Sm ?_
 refine CallD.PS _ Tryz.call268 c1 ?_
 refine SmV ?_
 refine CallD.PS _ Tryz.call270 d1 ?_
 refine Sm ?_
 refine⟨.mk (by kernel_rfl),?_⟩
 apply run_sound 200
 refine Sm ?_
 refine Goes.drawN mixed ?_
 refine Sm ?_
 refine CallD.PS _ Tryz.call268 c2 ?_
 refine SmV ?_
 refine CallD.PS _ Tryz.call270 d2 ?_
 refine Sm ?_
 refine⟨.mk (by kernel_rfl),?_⟩
 apply run_sound 200
 refine Sm ?_
 refine CallG.P _ Tryz.call269 (m1) ?_
 refine Sm ?_
 refine Goes.drawN mixed ?_
 refine Sm ?_
 refine CallD.P _ Tryz.call269 m2 ?_
 refine SmV ?_
 refine CallD.PS _ Tryz.call267 c4 ?_
 simp-implicitDefEqProofs+decide only[go_sem,qT]
 refine⟨.mk (by kernel_rfl),?_⟩
 apply run_sound 200
 refine Sm ?_
 exact endC.Q
end Go.Fm
