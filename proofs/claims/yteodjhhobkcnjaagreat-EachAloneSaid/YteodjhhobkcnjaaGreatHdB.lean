/- Doubles: rounding, in plain numbers. -/
import Derived.Test.YteodjhhobkcnjaaGreatHbA
import Derived.Test.YteodjhhobkcnjaaGreatHbB
import Derived.Test.YteodjhhobkcnjaaGreatHcB
set_option linter.unusedVariables false
set_option linter.unusedSimpArgs false
namespace Go.Fm
def rne (m d:Nat):Nat:=if 2^d<2*(m%2^d)∨(2*(m%2^d)=2^d∧m/2^d%2=1) then m/2^d+1 else m/2^d
def unitD (m:Nat) (e:Int):Int:=max ((bitLen m:Int)+e-53) (-1074)
def sgnD (neg:Bool) (b:Nat):Nat:=if neg then b+9223372036854775808 else b
def encD (neg:Bool) (m:Nat) (u:Int):Nat:=sgnD neg ((u+1074).toNat*4503599627370496+m)
def infD (neg:Bool):Nat:=sgnD neg 9218868437227405312
def unitsD (m:Nat) (e:Int):Nat:=if unitD m e≤e then m*2^(e-unitD m e).toNat else rne m (unitD m e-e).toNat
def rndD (neg:Bool) (m:Nat) (e:Int):Nat:=if m=0 then sgnD neg 0 else if 971<unitD m e then infD neg else encD neg (unitsD m e) (unitD m e)
theorem bitLen_zero:bitLen 0=0:=rfl
theorem bitLen_uniq {m n:Nat} (h1:2^n≤m) (h2:m<2^(n+1)):bitLen m=n+1:=by
 apply bitLen_eq
 have hp:0<2^n:=Nat.two_pow_pos n
 have a:1≤m/2^n:=(Nat.le_div_iff_mul_le hp).2 (by rw[Nat.one_mul];exact h1)
 have b:m/2^n<2:=(Nat.div_lt_iff_lt_mul hp).2 (by rw[Nat.pow_succ]at h2;rw[Nat.mul_comm];exact h2)
 omega
theorem bitLen_lt {m k:Nat} (h:m<2^k):bitLen m≤k:=by
 by_cases h0:m=0
 ·subst h0;exact Nat.zero_le _
 ·obtain⟨h1,h2,h3⟩:=bitLen_bounds h0
  rcases Nat.lt_or_ge k (bitLen m) with g|g
  ·have:=Nat.pow_le_pow_right (show 0<2 by decide) (show k≤bitLen m-1 by omega)
   omega
  ·exact g
theorem bitLen_ge {m k:Nat} (h:2^k≤m):k<bitLen m:=by
 have h0:m≠0:=by have:=Nat.two_pow_pos k;omega
 obtain⟨h1,h2,h3⟩:=bitLen_bounds h0
 rcases Nat.lt_or_ge k (bitLen m) with g|g
 ·exact g
 ·have:=Nat.pow_le_pow_right (show 0<2 by decide) g
  omega
theorem rne_half (m d:Nat) (hd:1≤d):rne m d=if m/2^(d-1)%2=1∧(m%2^(d-1)≠0∨m/2^(d-1)/2%2=1) then m/2^(d-1)/2+1 else m/2^(d-1)/2:=by
 obtain⟨k,rfl⟩:∃k,d=k+1:=⟨d-1,by omega⟩
 rw[Nat.add_sub_cancel]
 unfold rne
 have hp:0<2^k:=Nat.two_pow_pos k
 have hq:m/2^(k+1)=m/2^k/2:=by rw[Nat.pow_succ,Nat.div_div_eq_div_mul]
 rw[hq]
 have hr:m%2^(k+1)=m%2^k+2^k*(m/2^k%2):=by rw[Nat.pow_succ,Nat.mod_mul]
 rw[hr]
 have hlt:=Nat.mod_lt m hp
 rw[Nat.pow_succ]
 generalize 2^k=P at*
 generalize m%P=r at*
 generalize m/P=a at*
 rcases Nat.mod_two_eq_zero_or_one a with h|h
 ·rw[h,Nat.mul_zero]
  rw[if_neg (by omega),if_neg (by omega)]
 ·rw[h,Nat.mul_one]
  by_cases c:r≠0∨a/2%2=1
  ·rw[if_pos (by omega),if_pos ⟨rfl,c⟩]
  ·rw[if_neg (by omega),if_neg (fun x=>c x.2)]
def stk (m k:Nat):Nat:=if m%2^k=0 then m/2^k else m/2^k/2*2+1
theorem stk_half (m k:Nat):stk m k/2=m/2^k/2:=by
 unfold stk
 split
 ·rfl
 ·omega
theorem stk_zero (m k:Nat):stk m k=0↔m=0:=by
 unfold stk
 have hp:0<2^k:=Nat.two_pow_pos k
 split
 ·rename_i h
  constructor
  ·intro h2
   have:=Nat.div_add_mod m (2^k)
   rw[h,h2]at this;omega
  ·intro h2;subst h2;exact Nat.zero_div _
 ·rename_i h
  constructor
  ·intro;omega
  ·intro h2;subst h2;exact absurd (Nat.zero_mod _) h
theorem mod_split (m a b:Nat):m%2^(a+b)=m%2^a+2^a*(m/2^a%2^b):=by rw[Nat.pow_add,Nat.mod_mul]
theorem div_split (m a b:Nat):m/2^(a+b)=m/2^a/2^b:=by rw[Nat.pow_add,Nat.div_div_eq_div_mul]
theorem stk_rne (m k d:Nat) (hd:2≤d):rne (stk m k) d=rne m (k+d):=by
 have hp:0<2^k:=Nat.two_pow_pos k
 rw[rne_half _ _ (by omega),rne_half _ _ (by omega)]
 have e1:k+d-1=k+(d-1):=by omega
 obtain⟨j,hj⟩:∃j,d-1=1+j:=⟨d-2,by omega⟩
 have a1:stk m k/2^(d-1)=m/2^(k+d-1):=by
  rw[e1,hj,div_split,div_split m k,div_split (m/2^k)]
  congr 1
  show stk m k/2=m/2^k/2
  exact stk_half m k
 have a2:(stk m k%2^(d-1)≠0)↔(m%2^(k+d-1)≠0):=by
  rw[e1,hj,mod_split m k,mod_split,mod_split (m/2^k)]
  have e2:stk m k/2^1=m/2^k/2^1:=stk_half m k
  rw[e2]
  have e3:stk m k%2^1≠0↔(m%2^k≠0∨m/2^k%2^1≠0):=by
   unfold stk
   split
   ·rename_i h;rw[h];simp
   ·rename_i h
    have:(m/2^k/2*2+1)%2^1=1:=by omega
    rw[this];simp[h]
  have hm:∀x y:Nat,x+2^k*y=0↔x=0∧y=0:=fun x y=>by
   rw[Nat.add_eq_zero_iff,Nat.mul_eq_zero]
   constructor
   ·rintro ⟨h1,h2⟩;exact⟨h1,by omega⟩
   ·rintro ⟨h1,h2⟩;exact⟨h1,.inr h2⟩
  have h1:=hm (m%2^k) (m/2^k%2^1+2^1*(m/2^k/2^1%2^j))
  generalize m/2^k/2^1%2^j=z at*
  generalize stk m k%2^1=x at*
  generalize m/2^k%2^1=y at*
  generalize m%2^k=t at*
  omega
 rw[a1]
 simp only[a2]
theorem stk_len (m k:Nat) (h:2^(k+1)≤m):bitLen (stk m k)+k=bitLen m:=by
 have hp:0<2^k:=Nat.two_pow_pos k
 have h0:m≠0:=by have:=Nat.two_pow_pos (k+1);omega
 obtain⟨b1,b2,b3⟩:=bitLen_bounds h0
 have hk:=bitLen_ge h
 obtain⟨n,hn⟩:∃n,bitLen m=k+1+n+1:=⟨bitLen m-k-2,by omega⟩
 have c:bitLen (stk m k)=1+n+1:=by
  have e:=stk_half m k
  have l1:2^n≤m/2^k/2:=by
   rw[Nat.div_div_eq_div_mul,←Nat.pow_succ]
   refine(Nat.le_div_iff_mul_le (Nat.two_pow_pos _)).2 ?_
   rw[←Nat.pow_add,show n+(k+1)=bitLen m-1 by omega];exact b1
  have l2:m/2^k/2<2^(n+1):=by
   rw[Nat.div_div_eq_div_mul,←Nat.pow_succ]
   refine(Nat.div_lt_iff_lt_mul (Nat.two_pow_pos _)).2 ?_
   rw[←Nat.pow_add,show n+1+(k+1)=bitLen m by omega];exact b2
  apply bitLen_uniq
  ·rw[Nat.pow_add];omega
  ·rw[show 1+n+1=1+(n+1) by omega,Nat.pow_add];omega
 omega
theorem rnd_stk (neg:Bool) (m k:Nat) (e:Int) (h:2^(k+54)≤m):rndD neg (stk m k) (e+k)=rndD neg m e:=by
 have hm0:m≠0:=by have:=Nat.two_pow_pos (k+54);omega
 have hl:=stk_len m k (Nat.le_trans (Nat.pow_le_pow_right (by decide) (by omega)) h)
 have hb:=bitLen_ge h
 have hu:unitD (stk m k) (e+k)=unitD m e:=by unfold unitD;omega
 have hlow:(bitLen m:Int)+e-53≤unitD m e:=by unfold unitD;omega
 unfold rndD
 rw[if_neg hm0,if_neg (fun h=>hm0 ((stk_zero m k).1 h)),hu]
 by_cases g:971<unitD m e
 ·rw[if_pos g,if_pos g]
 ·rw[if_neg g,if_neg g]
  congr 1
  unfold unitsD
  rw[hu,if_neg (by omega),if_neg (by omega)]
  rw[stk_rne _ _ _ (by omega)]
  congr 1
  omega
theorem rne_le (m d:Nat):rne m d≤m/2^d+1:=by unfold rne;split<;>omega
theorem unitsD_le {m:Nat} {e:Int} (hm:m≠0):unitsD m e≤9007199254740992:=by
 obtain⟨b1,b2,b3⟩:=bitLen_bounds hm
 have hu:(bitLen m:Int)+e-53≤unitD m e:=by unfold unitD;omega
 unfold unitsD
 split
 ·rename_i h
  obtain⟨j,hj⟩:∃j:Nat,(e-unitD m e).toNat=j:=⟨_,rfl⟩
  rw[hj]
  have:m*2^j<2^bitLen m*2^j:=Nat.mul_lt_mul_of_pos_right b2 (Nat.two_pow_pos _)
  rw[←Nat.pow_add]at this
  have h2:=Nat.pow_le_pow_right (show 0<2 by decide) (show bitLen m+j≤53 by omega)
  omega
 ·rename_i h
  obtain⟨d,hd⟩:∃d:Nat,(unitD m e-e).toNat=d:=⟨_,rfl⟩
  rw[hd]
  have h1:=rne_le m d
  have h2:m/2^d<2^53:=by
   refine(Nat.div_lt_iff_lt_mul (Nat.two_pow_pos _)).2 ?_
   rw[←Nat.pow_add]
   exact Nat.lt_of_lt_of_le b2 (Nat.pow_le_pow_right (by decide) (by omega))
  omega
theorem unitsD_ge {m:Nat} {e:Int} (hm:m≠0) (h:unitD m e≠ -1074):4503599627370496≤unitsD m e:=by
 obtain⟨b1,b2,b3⟩:=bitLen_bounds hm
 have hu:(bitLen m:Int)+e-53=unitD m e:=by unfold unitD at h⊢;omega
 unfold unitsD
 split
 ·rename_i h
  obtain⟨j,hj⟩:∃j:Nat,(e-unitD m e).toNat=j:=⟨_,rfl⟩
  rw[hj]
  have:2^(bitLen m-1)*2^j≤m*2^j:=Nat.mul_le_mul_right _ b1
  rw[←Nat.pow_add,show bitLen m-1+j=52 by omega]at this
  exact this
 ·rename_i h
  obtain⟨d,hd⟩:∃d:Nat,(unitD m e-e).toNat=d:=⟨_,rfl⟩
  rw[hd]
  have h2:2^52≤m/2^d:=by
   refine(Nat.le_div_iff_mul_le (Nat.two_pow_pos _)).2 ?_
   rw[←Nat.pow_add,show 52+d=bitLen m-1 by omega];exact b1
  have:m/2^d≤rne m d:=by unfold rne;split<;>omega
  omega
theorem stk_add {X n k:Nat} (hX:X%2=0):stk (X*2^k+n) k=X+stk n k:=by
 have hp:0<2^k:=Nat.two_pow_pos k
 have e1:(X*2^k+n)%2^k=n%2^k:=by rw[Nat.add_comm,Nat.add_mul_mod_self_right]
 have e2:(X*2^k+n)/2^k=X+n/2^k:=by rw[Nat.add_comm,Nat.add_mul_div_right _ _ hp,Nat.add_comm]
 unfold stk
 rw[e1,e2]
 split<;>omega
theorem stk_sub {X n k:Nat} (hX:X%2=0) (h:n<X*2^k):stk (X*2^k-n) k=X-stk n k:=by
 have hp:0<2^k:=Nat.two_pow_pos k
 have hn:=Nat.div_add_mod n (2^k)
 have hr:=Nat.mod_lt n hp
 have ha:n/2^k<X:=(Nat.div_lt_iff_lt_mul hp).2 h
 unfold stk
 by_cases h0:n%2^k=0
 ·rw[if_pos h0]
  have e:X*2^k-n=(X-n/2^k)*2^k:=by
   rw[Nat.sub_mul,Nat.mul_comm (n/2^k)];omega
  rw[e,Nat.mul_mod_left,if_pos rfl,Nat.mul_div_cancel _ hp]
 ·rw[if_neg h0]
  have e:X*2^k-n=(X-n/2^k-1)*2^k+(2^k-n%2^k):=by
   have:(X-n/2^k-1)*2^k+2^k=(X-n/2^k)*2^k:=by
    rw[←Nat.succ_mul];congr 1;omega
   have h2:(X-n/2^k)*2^k=X*2^k-2^k*(n/2^k):=by rw[Nat.sub_mul,Nat.mul_comm (n/2^k)]
   omega
  have hlt:2^k-n%2^k<2^k:=by omega
  have e1:((X-n/2^k-1)*2^k+(2^k-n%2^k))%2^k=2^k-n%2^k:=by rw[Nat.add_comm,Nat.add_mul_mod_self_right,Nat.mod_eq_of_lt hlt]
  have e2:((X-n/2^k-1)*2^k+(2^k-n%2^k))/2^k=X-n/2^k-1:=by rw[Nat.add_comm,Nat.add_mul_div_right _ _ hp,Nat.div_eq_of_lt hlt,Nat.zero_add]
  rw[e,e1,e2,if_neg (by omega)]
  generalize n/2^k=a at*
  omega
theorem stk_le (n k:Nat):stk n k≤n/2^k+1:=by unfold stk;split<;>omega
theorem stk_k0 (n:Nat):stk n 0=n:=by unfold stk;simp[Nat.mod_one]
def addCore (s:Bool) (m:Nat) (e:Int) (t:Bool) (n:Nat) (f:Int):Nat:=
 if s=t then rndD s (m*2^(min (e-f) 10).toNat+stk n (e-min (e-f) 10-f).toNat) (e-min (e-f) 10)
 else if stk n (e-min (e-f) 10-f).toNat<m*2^(min (e-f) 10).toNat then rndD s (m*2^(min (e-f) 10).toNat-stk n (e-min (e-f) 10-f).toNat) (e-min (e-f) 10)
 else if m*2^(min (e-f) 10).toNat<stk n (e-min (e-f) 10-f).toNat then rndD t (stk n (e-min (e-f) 10-f).toNat-m*2^(min (e-f) 10).toNat) (e-min (e-f) 10)
 else 0
def addX (s t:Bool) (x y:Nat) (low:Int):Nat:=if s=t then rndD s (x+y) low else if x=y then 0 else if y<x then rndD s (x-y) low else rndD t (y-x) low
def addE (s:Bool) (m:Nat) (e:Int) (t:Bool) (n:Nat) (f:Int):Nat:=addX s t (m*2^(e-min e f).toNat) (n*2^(f-min e f).toNat) (min e f)
theorem addX_comm (s t:Bool) (x y:Nat) (low:Int):addX s t x y low=addX t s y x low:=by
 unfold addX
 by_cases h:s=t
 ·subst h;rw[if_pos rfl,if_pos rfl,Nat.add_comm]
 ·rw[if_neg h,if_neg (Ne.symm h)]
  by_cases h2:x=y
  ·rw[if_pos h2,if_pos h2.symm]
  ·rw[if_neg h2,if_neg (Ne.symm h2)]
   by_cases h3:y<x
   ·rw[if_pos h3,if_neg (by omega)]
   ·rw[if_neg h3,if_pos (by omega)]
theorem addE_comm (s:Bool) (m:Nat) (e:Int) (t:Bool) (n:Nat) (f:Int):addE s m e t n f=addE t n f s m e:=by
 unfold addE
 rw[addX_comm,Int.min_comm]
theorem addCore_eq (s:Bool) (m:Nat) (e:Int) (t:Bool) (n:Nat) (f:Int) (hn:n<9007199254740992) (hef:f≤e) (hf: -1074≤f) (hm: -1074<e→4503599627370496≤m):addCore s m e t n f=addE s m e t n f:=by
 unfold addE addCore
 rw[Int.min_eq_right hef,show(f-f).toNat=0 by omega,Nat.pow_zero,Nat.mul_one]
 obtain⟨d,hd⟩:∃d:Nat,e-f=(d:Int):=⟨(e-f).toNat,by omega⟩
 obtain⟨u,hu⟩:∃u:Nat,min (e-f) 10=(u:Int):=⟨(min (e-f) 10).toNat,by omega⟩
 obtain⟨k,hk⟩:∃k:Nat,e-(u:Int)-f=(k:Int):=⟨(e-(u:Int)-f).toNat,by omega⟩
 have hE:e-(u:Int)=f+k:=by omega
 rw[hu,hk,hd,Int.toNat_natCast,Int.toNat_natCast,Int.toNat_natCast,hE]
 have hx:m*2^d=m*2^u*2^k:=by rw[Nat.mul_assoc,←Nat.pow_add];congr 2;omega
 rw[hx]
 unfold addX
 by_cases k0:k=0
 ·subst k0
  rw[stk_k0,Nat.pow_zero,Nat.mul_one,show f+((0:Nat):Int)=f by omega]
  by_cases h:s=t
  ·rw[if_pos h,if_pos h]
  ·rw[if_neg h,if_neg h]
   generalize m*2^u=X
   by_cases h2:X=n
   ·rw[if_pos h2,if_neg (by omega),if_neg (by omega)]
   ·rw[if_neg h2]
    by_cases h3:n<X
    ·rw[if_pos h3,if_pos h3]
    ·rw[if_neg h3,if_neg h3,if_pos (by omega)]
 ·have hu10:u=10:=by omega
  subst hu10
  have hm2:=hm (by omega)
  have hX1:4611686018427387904≤m*2^10:=by omega
  have hX2:m*2^10%2=0:=by omega
  have hp:0<2^k:=Nat.two_pow_pos k
  have hs:=stk_le n k
  have hs2:n/2^k≤n:=Nat.div_le_self _ _
  generalize m*2^10=X at*
  have hb:4611686018427387904*2^k≤X*2^k:=Nat.mul_le_mul_right _ hX1
  have hb2:2^(k+54)*256=4611686018427387904*2^k:=by
   rw[show(4611686018427387904:Nat)=2^62 from rfl,show(256:Nat)=2^8 from rfl,←Nat.pow_add,←Nat.pow_add];congr 1;omega
  have hb3:2^54≤2^(k+54):=Nat.pow_le_pow_right (by decide) (by omega)
  by_cases h:s=t
  ·rw[if_pos h,if_pos h,←stk_add hX2,rnd_stk]
   omega
  ·rw[if_neg h,if_neg h,if_pos (by omega),if_neg (by omega),if_pos (by omega),←stk_sub hX2 (by omega),rnd_stk]
   omega
def quoS (p q s:Nat):Nat:=2*(p*2^s/q)+(if p*2^s%q=0 then 0 else 1)
theorem rnd_twice {neg:Bool} {m:Nat} {e:Int} (h:18014398509481984≤m):rndD neg (2*m) (e-1)=rndD neg m e:=by
 have:=rnd_stk neg (2*m) 1 (e-1) (by omega)
 have e1:stk (2*m) 1=m:=by
  unfold stk
  rw[Nat.pow_one,if_pos (by omega)];omega
 rw[e1,show e-1+((1:Nat):Int)=e by omega]at this
 exact this.symm
end Go.Fm
namespace Go.Fm
open Go.Proofs
set_option maxRecDepth 100000
attribute [local irreducible] tiOf
theorem bvN {x:Nat} (h:x<18446744073709551616):(BitVec.ofInt 64 (x:Int)).toNat=x:=by simp[BitVec.toNat_ofInt];omega
theorem uandG {a c r:Nat} (h:a&&&c=r) (ha:a<18446744073709551616) (hc:c<18446744073709551616):IntKind.wrap .u64 ((@BitVec.toNat 64 (@HAnd.hAnd (BitVec 64) (BitVec 64) (BitVec 64) (@instHAndOfAndOp (BitVec (IntKind.bits .u64)) (@BitVec.instAndOp (IntKind.bits .u64))) (BitVec.ofInt 64 (a:Int)) (BitVec.ofInt 64 (c:Int))):Nat):Int)=(r:Int):=by
 have e:(BitVec.ofInt 64 (a:Int)&&&BitVec.ofInt 64 (c:Int)).toNat=r:=by rw[BitVec.toNat_and,bvN ha,bvN hc,h]
 have hr:r<18446744073709551616:=by rw[←h];exact Nat.lt_of_le_of_lt Nat.and_le_right hc
 rw[u64]
 show((BitVec.ofInt 64 (a:Int)&&&BitVec.ofInt 64 (c:Int)).toNat:Int)%_=_
 rw[e];omega
theorem uxorG {a c r:Nat} (h:a^^^c=r) (ha:a<18446744073709551616) (hc:c<18446744073709551616) (hr:r<18446744073709551616):IntKind.wrap .u64 ((@BitVec.toNat 64 (@HXor.hXor (BitVec 64) (BitVec 64) (BitVec 64) (@instHXorOfXorOp (BitVec (IntKind.bits .u64)) (@BitVec.instXorOp (IntKind.bits .u64))) (BitVec.ofInt 64 (a:Int)) (BitVec.ofInt 64 (c:Int))):Nat):Int)=(r:Int):=by
 have e:(BitVec.ofInt 64 (a:Int)^^^BitVec.ofInt 64 (c:Int)).toNat=r:=by rw[BitVec.toNat_xor,bvN ha,bvN hc,h]
 rw[u64]
 show((BitVec.ofInt 64 (a:Int)^^^BitVec.ofInt 64 (c:Int)).toNat:Int)%_=_
 rw[e];omega
theorem and_top {a:Nat} (ha:a<18446744073709551616):a&&&9223372036854775808=a/9223372036854775808*9223372036854775808:=by
 have h:a&&&9223372036854775808=(a/2^63&&&1)*2^63:=by
  apply Nat.eq_of_testBit_eq
  intro i
  rw[Nat.testBit_and,Nat.testBit_mul_two_pow,Nat.testBit_and,Nat.testBit_div_two_pow]
  have e:(9223372036854775808:Nat)=2^63:=rfl
  have e1:(1:Nat)=2^0:=rfl
  rw[e,Nat.testBit_two_pow,e1,Nat.testBit_two_pow]
  by_cases hi:i<63
  ·have:¬(63=i):=by omega
   have:¬(63≤i):=by omega
   simp[*]
  ·have e2:i-63+63=i:=by omega
   have e3:decide (63=i)=decide (0=i-63):=decide_eq_decide.2 ⟨fun h=>by omega,fun h=>by omega⟩
   rw[e3,e2,decide_eq_true (show 63≤i by omega),Bool.true_and]
 rw[h,Nat.and_one_is_mod]
 omega
theorem xor_top {a:Nat} (ha:a<18446744073709551616):a^^^9223372036854775808=if a<9223372036854775808 then a+9223372036854775808 else a-9223372036854775808:=by
 have key:∀x,x<9223372036854775808→x^^^9223372036854775808=x+9223372036854775808:=fun x hx=>by
  have h1:x+9223372036854775808=9223372036854775808|||x:=by
   have:=Nat.two_pow_add_eq_or_of_lt (i:=63) (b:=x) hx 1
   rw[show(9223372036854775808:Nat)=2^63*1 from rfl,←this];omega
  rw[h1]
  apply Nat.eq_of_testBit_eq
  intro i
  rw[Nat.testBit_xor,Nat.testBit_or]
  have e:(9223372036854775808:Nat)=2^63:=rfl
  rw[e,Nat.testBit_two_pow]
  by_cases hi:63=i
  ·subst hi
   have:x.testBit 63=false:=Nat.testBit_lt_two_pow hx
   simp[this]
  ·simp[hi]
 split
 ·rename_i h;exact key a h
 ·rename_i h
  have h2:=key (a-9223372036854775808) (by omega)
  have h3:a=(a-9223372036854775808)^^^9223372036854775808:=by rw[h2];omega
  conv=>lhs;rw[h3]
  rw[Nat.xor_assoc,Nat.xor_self,Nat.xor_zero]
theorem mask_eq (a k:Nat):a&&&(2^k-1)=a%2^k:=Nat.and_two_pow_sub_one_eq_mod a k
theorem uandF {a:Nat} (ha:a<18446744073709551616):IntKind.wrap .u64 ((@BitVec.toNat 64 (@HAnd.hAnd (BitVec 64) (BitVec 64) (BitVec 64) (@instHAndOfAndOp (BitVec (IntKind.bits .u64)) (@BitVec.instAndOp (IntKind.bits .u64))) (BitVec.ofInt 64 (a:Int)) (BitVec.ofInt 64 2047)):Nat):Int)=((a%2048:Nat):Int):=uandG (c:=2047) (mask_eq a 11) ha (by decide)
theorem uandR {a:Nat} (ha:a<18446744073709551616):IntKind.wrap .u64 ((@BitVec.toNat 64 (@HAnd.hAnd (BitVec 64) (BitVec 64) (BitVec 64) (@instHAndOfAndOp (BitVec (IntKind.bits .u64)) (@BitVec.instAndOp (IntKind.bits .u64))) (BitVec.ofInt 64 (a:Int)) (BitVec.ofInt 64 4503599627370495)):Nat):Int)=((a%4503599627370496:Nat):Int):=uandG (c:=4503599627370495) (mask_eq a 52) ha (by decide)
theorem uandO {a:Nat} (ha:a<18446744073709551616):IntKind.wrap .u64 ((@BitVec.toNat 64 (@HAnd.hAnd (BitVec 64) (BitVec 64) (BitVec 64) (@instHAndOfAndOp (BitVec (IntKind.bits .u64)) (@BitVec.instAndOp (IntKind.bits .u64))) (BitVec.ofInt 64 (a:Int)) (BitVec.ofInt 64 1)):Nat):Int)=((a%2:Nat):Int):=uandG (c:=1) (mask_eq a 1) ha (by decide)
theorem uandT {a:Nat} (ha:a<18446744073709551616):IntKind.wrap .u64 ((@BitVec.toNat 64 (@HAnd.hAnd (BitVec 64) (BitVec 64) (BitVec 64) (@instHAndOfAndOp (BitVec (IntKind.bits .u64)) (@BitVec.instAndOp (IntKind.bits .u64))) (BitVec.ofInt 64 (a:Int)) (BitVec.ofInt 64 9223372036854775808)):Nat):Int)=((a/9223372036854775808*9223372036854775808:Nat):Int):=uandG (c:=9223372036854775808) (and_top ha) ha (by decide)
theorem uxorT {a:Nat} (ha:a<18446744073709551616):IntKind.wrap .u64 ((@BitVec.toNat 64 (@HXor.hXor (BitVec 64) (BitVec 64) (BitVec 64) (@instHXorOfXorOp (BitVec (IntKind.bits .u64)) (@BitVec.instXorOp (IntKind.bits .u64))) (BitVec.ofInt 64 (a:Int)) (BitVec.ofInt 64 9223372036854775808)):Nat):Int)=(((if a<9223372036854775808 then a+9223372036854775808 else a-9223372036854775808):Nat):Int):=uxorG (c:=9223372036854775808) (xor_top ha) ha (by decide) (by split<;>omega)
theorem uorG {a c r:Nat} (h:a|||c=r) (ha:a<18446744073709551616) (hc:c<18446744073709551616):IntKind.wrap .u64 ((@BitVec.toNat 64 (@HOr.hOr (BitVec 64) (BitVec 64) (BitVec 64) (@instHOrOfOrOp (BitVec (IntKind.bits .u64)) (@BitVec.instOrOp (IntKind.bits .u64))) (BitVec.ofInt 64 (a:Int)) (BitVec.ofInt 64 (c:Int))):Nat):Int)=(r:Int):=by rw[←h];exact uor a c ha hc
theorem or_hi {a k P:Nat} (hP:P=2^k) (h:a<P):a|||P=a+P:=by
 subst hP
 have:=Nat.two_pow_add_eq_or_of_lt (i:=k) (b:=a) h 1
 rw[Nat.or_comm,←show 2^k*1=2^k from Nat.mul_one _,←this];omega
theorem uorT {a:Nat} (ha:a<9223372036854775808):IntKind.wrap .u64 ((@BitVec.toNat 64 (@HOr.hOr (BitVec 64) (BitVec 64) (BitVec 64) (@instHOrOfOrOp (BitVec (IntKind.bits .u64)) (@BitVec.instOrOp (IntKind.bits .u64))) (BitVec.ofInt 64 (a:Int)) (BitVec.ofInt 64 9223372036854775808)):Nat):Int)=((a+9223372036854775808:Nat):Int):=uorG (c:=9223372036854775808) (or_hi (k:=63) rfl ha) (by omega) (by decide)
theorem uorH {a:Nat} (ha:a<4503599627370496):IntKind.wrap .u64 ((@BitVec.toNat 64 (@HOr.hOr (BitVec 64) (BitVec 64) (BitVec 64) (@instHOrOfOrOp (BitVec (IntKind.bits .u64)) (@BitVec.instOrOp (IntKind.bits .u64))) (BitVec.ofInt 64 (a:Int)) (BitVec.ofInt 64 4503599627370496)):Nat):Int)=((a+4503599627370496:Nat):Int):=uorG (c:=4503599627370496) (or_hi (k:=52) rfl ha) (by omega) (by decide)
theorem uorE {a b:Nat} (ha:a*4503599627370496<18446744073709551616) (hb:b<4503599627370496):IntKind.wrap .u64 ((@BitVec.toNat 64 (@HOr.hOr (BitVec 64) (BitVec 64) (BitVec 64) (@instHOrOfOrOp (BitVec (IntKind.bits .u64)) (@BitVec.instOrOp (IntKind.bits .u64))) (BitVec.ofInt 64 ((a*4503599627370496:Nat):Int)) (BitVec.ofInt 64 (b:Int))):Nat):Int)=((a*4503599627370496+b:Nat):Int):=uorG (or_add a b 52 hb) ha (by omega)
theorem ushr52 (a:Nat):Int.fdiv (a:Int) (2^(min (Int.toNat 52) 64))=((a/4503599627370496:Nat):Int):=ushr a 52 (by decide)
theorem ushl52 (a:Nat):IntKind.wrap .u64 ((a:Int)*2^(min (Int.toNat 52) 64))=((a*4503599627370496%18446744073709551616:Nat):Int):=ushl a 52 (by decide)
theorem ushr63 (a:Nat):Int.fdiv (a:Int) (2^(min (Int.toNat 63) 64))=((a/9223372036854775808:Nat):Int):=ushr a 63 (by decide)
attribute [go_sem] ushr52 ushl52 ushr63
def fieldD (b:Nat):Nat:=b/4503599627370496%2048
def restD (b:Nat):Nat:=b%4503599627370496
def kindD (b:Nat):Int:=if fieldD b=2047 then (if restD b=0 then 3 else 4) else if fieldD b=0 then (if restD b=0 then 0 else 1) else 2
def negD (b:Nat):Bool:=decide (9223372036854775808≤b)
def partM (b:Nat):Nat:=if fieldD b=0 then restD b else restD b+4503599627370496
def partE (b:Nat):Int:=if fieldD b=0 then-1074 else (fieldD b:Int)-1075
def nanD:Nat:=9221120237041090560
def flipB (b:Nat):Nat:=if b<9223372036854775808 then b+9223372036854775808 else b-9223372036854775808
def flipD (b:Nat):Nat:=if kindD b=4 then nanD else flipB b
def cleanD (b:Nat):Nat:=if kindD b=4 then nanD else b
theorem fieldD_lt (b:Nat):fieldD b<2048:=Nat.mod_lt _ (by decide)
theorem restD_lt (b:Nat):restD b<4503599627370496:=Nat.mod_lt _ (by decide)
theorem partM_lt (b:Nat):partM b<9007199254740992:=by have:=restD_lt b;unfold partM;split<;>omega
theorem wfield (b:Nat):IntKind.wrap .i64 ((fieldD b:Nat):Int)=(fieldD b:Int):=by have:=fieldD_lt b;rw[w64]<;>omega
theorem fexp_ok (b:Nat) (hb:b<18446744073709551616):Pure Tryz.prog 296 [.int .u64 b] [.t (.int .i64 (fieldD b:Nat))]:=by
 have h1:b/4503599627370496<18446744073709551616:=by omega
 have hw:=wfield b
 unfold fieldD at hw
 refine Pure.I Tryz.func296 [2] ?_
 simp-implicitDefEqProofs+decide only[go_sem,uandF h1,hw]
 exact endF.V1 2 (.int .i64 (fieldD b:Nat))
theorem kind_ok (b:Nat) (hb:b<18446744073709551616):Pure Tryz.prog 271 [.int .u64 b] [.t (.int .i64 (kindD b))]:=by
 have c1:=fexp_ok b hb
 have hr:b%4503599627370496=restD b:=rfl
 refine Pure.I Tryz.func271 [2] ?_
 simp-implicitDefEqProofs+decide only[go_sem,uandR hb,hr]
 refine CallG.P _ Tryz.call296 (c1) ?_
 unfold kindD
 refine Sm ?_
 apply selP_dec<;>intro h1
 ·rw[if_pos (by omega)]
  refine Sm ?_
  apply selP_dec<;>intro h2
  ·rw[if_pos (by omega)]
   refine Sm ?_
   exact endF.V1 2 (.int .i64 3)
  ·rw[if_neg (by omega)]
   refine Sm ?_
   exact endF.V1 2 (.int .i64 4)
 ·rw[if_neg (by omega)]
  refine Sm ?_
  apply selP_dec<;>intro h2
  ·rw[if_pos (by omega)]
   refine Sm ?_
   apply selP_dec<;>intro h3
   ·rw[if_pos (by omega)]
    refine Sm ?_
    exact endF.V1 2 (.int .i64 0)
   ·rw[if_neg (by omega)]
    refine Sm ?_
    exact endF.V1 2 (.int .i64 1)
  ·rw[if_neg (by omega)]
   refine Sm ?_
   exact endF.V1 2 (.int .i64 2)
theorem fneg_ok (b:Nat) (hb:b<18446744073709551616):Pure Tryz.prog 275 [.int .u64 b] [.t (.bool (negD b))]:=by
 refine Pure.I Tryz.func275 [2] ?_
 have hd:decide ((↑(b/9223372036854775808*9223372036854775808):Int)≠0)=negD b:=decide_eq_decide.2 (by omega)
 simp-implicitDefEqProofs+decide only[go_sem,uandT hb,hd]
 exact endF.V1 2 (.bool (negD b))
theorem parts_ok (b:Nat) (hb:b<18446744073709551616) (hf:fieldD b≠2047):Pure Tryz.prog 276 [.int .u64 b] [.t (.bool (negD b)),.t (.int .u64 (partM b:Nat)),.t (.int .i64 (partE b)),.t (.bool true)]:=by
 have c1:=kind_ok b hb
 have c2:=fneg_ok b hb
 have c3:=fexp_ok b hb
 have hr:b%4503599627370496=restD b:=rfl
 have hl:=restD_lt b
 have hfl:=fieldD_lt b
 unfold kindD at c1
 rw[if_neg hf]at c1
 refine Pure.I Tryz.func276 [2,3,4,5] ?_
 simp-implicitDefEqProofs+decide only[go_sem,uandR hb,hr]
 by_cases h0:fieldD b=0
 ·have e:∃k:Int,(if fieldD b=0 then if restD b=0 then (0:Int) else 1 else 2)=k∧decide (k=3)=false∧decide (k=4)=false∧decide (k=2)=false:=by
   rw[if_pos h0]
   split
   ·exact⟨0,rfl,rfl,rfl,rfl⟩
   ·exact⟨1,rfl,rfl,rfl,rfl⟩
  obtain⟨k,e1,e2,e3,e4⟩:=e
  rw[e1]at c1
  refine CallG.P _ Tryz.call271 (c1) ?_
  simp-implicitDefEqProofs+decide only[go_sem,e2,e3,e4]
  refine CallG.P _ Tryz.call275 (c2) ?_
  refine Sm ?_
  have em:partM b=restD b:=if_pos h0
  have ee:partE b= -1074:=if_pos h0
  rw[em,ee]
  exact endF.V [(2,.bool (negD b)),(3,.int .u64 (restD b:Nat)),(4,.int .i64 (-1074)),(5,.bool true)] (vals_t (by simp-implicitDefEqProofs+decide only[go_sem]<;>rfl) rfl (vals_t (by simp-implicitDefEqProofs+decide only[go_sem]<;>rfl) rfl (vals_t (by simp-implicitDefEqProofs+decide only[go_sem]<;>rfl) rfl (vals_t (by simp-implicitDefEqProofs+decide only[go_sem]<;>rfl) rfl vals_nil))))
 ·rw[if_neg h0]at c1
  have hw:IntKind.wrap .i64 ((fieldD b:Int)-1075)=(fieldD b:Int)-1075:=by rw[w64]<;>omega
  refine CallG.P _ Tryz.call271 (c1) ?_
  refine Sm ?_
  refine CallG.P _ Tryz.call275 (c2) ?_
  simp-implicitDefEqProofs+decide only[go_sem,uorH hl]
  refine CallG.P _ Tryz.call296 (c3) ?_
  simp-implicitDefEqProofs+decide only[go_sem,hw]
  have em:partM b=restD b+4503599627370496:=if_neg h0
  have ee:partE b=(fieldD b:Int)-1075:=if_neg h0
  rw[em,ee]
  exact endF.V [(2,.bool (negD b)),(3,.int .u64 (restD b+4503599627370496:Nat)),(4,.int .i64 ((fieldD b:Int)-1075)),(5,.bool true)] (vals_t (by simp-implicitDefEqProofs+decide only[go_sem]<;>rfl) rfl (vals_t (by simp-implicitDefEqProofs+decide only[go_sem]<;>rfl) rfl (vals_t (by simp-implicitDefEqProofs+decide only[go_sem]<;>rfl) rfl (vals_t (by simp-implicitDefEqProofs+decide only[go_sem]<;>rfl) rfl vals_nil))))
theorem fsigned_ok (neg:Bool) (b:Nat) (hb:b<9223372036854775808):Pure Tryz.prog 244 [.bool neg,.int .u64 b] [.t (.int .u64 (sgnD neg b:Nat))]:=by
 refine Pure.I Tryz.func244 [4] ?_
 refine Sm ?_
 refine selP_bool (fun h=> ?_) (fun h=> ?_)
 ·subst h
  simp-implicitDefEqProofs+decide only[go_sem,uorT hb]
  exact endF.V1 4 (.int .u64 (sgnD true b:Nat))
 ·subst h
  refine Sm ?_
  exact endF.V1 4 (.int .u64 (sgnD false b:Nat))
theorem fnan_ok:Pure Tryz.prog 272 [] [.t (.int .u64 (nanD:Nat))]:=by
 refine Pure.I Tryz.func272 [0] ?_
 refine Sm ?_
 exact endF.V1 0 (.int .u64 (nanD:Nat))
theorem finf_ok (neg:Bool):Pure Tryz.prog 187 [.bool neg] [.t (.int .u64 (infD neg:Nat))]:=by
 have c1:=fsigned_ok neg 9218868437227405312 (by decide)
 refine Pure.I Tryz.func187 [2] ?_
 refine Sm ?_
 refine CallG.P _ Tryz.call244 (c1) ?_
 refine Sm ?_
 exact endF.V1 2 (.int .u64 (infD neg:Nat))
theorem flip_ok (b:Nat) (hb:b<18446744073709551616):Pure Tryz.prog 218 [.int .u64 b] [.t (.int .u64 (flipD b:Nat))]:=by
 have c1:=kind_ok b hb
 have c2:=fnan_ok
 unfold flipD
 refine Pure.I Tryz.func218 [2] ?_
 refine Sm ?_
 refine CallG.P _ Tryz.call271 (c1) ?_
 refine Sm ?_
 apply selP_dec<;>intro h1
 ·rw[if_pos h1]
  refine Sm ?_
  refine CallG.P _ Tryz.call272 (c2) ?_
  refine Sm ?_
  exact endF.V1 2 (.int .u64 (nanD:Nat))
 ·rw[if_neg h1]
  simp-implicitDefEqProofs+decide only[go_sem,uxorT hb]
  exact endF.V1 2 (.int .u64 (flipB b:Nat))
theorem fclean_ok (b:Nat) (hb:b<18446744073709551616):Pure Tryz.prog 299 [.int .u64 b] [.t (.int .u64 (cleanD b:Nat))]:=by
 have c1:=kind_ok b hb
 have c2:=fnan_ok
 unfold cleanD
 refine Pure.I Tryz.func299 [2] ?_
 refine Sm ?_
 refine CallG.P _ Tryz.call271 (c1) ?_
 refine Sm ?_
 apply selP_dec<;>intro h1
 ·rw[if_pos h1]
  refine Sm ?_
  refine CallG.P _ Tryz.call272 (c2) ?_
  refine Sm ?_
  exact endF.V1 2 (.int .u64 (nanD:Nat))
 ·rw[if_neg h1]
  refine Sm ?_
  exact endF.V1 2 (.int .u64 (b:Nat))
theorem encD_lt {m:Nat} {u:Int} (h1: -1074≤u) (h2:u≤971) (hm:m≤9007199254740992):(u+1074).toNat*4503599627370496+m<9223372036854775808:=by omega
theorem make0_ok (neg:Bool) (e:Int):Pure Tryz.prog 243 [.bool neg,.int .u64 0,.int .i64 e] [.t (.int .u64 (sgnD neg 0:Nat)),.t (.bool true)]:=by
 have c1:=fsigned_ok neg 0 (by decide)
 refine Pure.I Tryz.func243 [6,7] ?_
 refine Sm ?_
 refine CallG.P _ Tryz.call244 (c1) ?_
 refine Sm ?_
 exact endF.V [(6,.int .u64 (sgnD neg 0:Nat)),(7,.bool true)] (vals_t (by simp-implicitDefEqProofs+decide only[go_sem]<;>rfl) rfl (vals_t (by simp-implicitDefEqProofs+decide only[go_sem]<;>rfl) rfl vals_nil))
theorem make_ok (neg:Bool) (m:Nat) (u:Int) (h0:m≠0) (hm:m<9007199254740992) (h1: -1074≤u) (h2:u≤971) (h3:m<4503599627370496→u= -1074):
  Pure Tryz.prog 243 [.bool neg,.int .u64 m,.int .i64 u] [.t (.int .u64 (encD neg m u:Nat)),.t (.bool true)]:=by
 have c1:=limbLen_ok m (by omega)
 have hb:bitLen m≤53:=bitLen_lt (k:=53) hm
 have hb2:¬m<4503599627370496→bitLen m=53:=fun h=>by have:=bitLen_ge (k:=52) (m:=m) (by omega);omega
 obtain⟨L,hL⟩:∃L,bitLen m=L:=⟨_,rfl⟩
 rw[hL]at c1 hb hb2
 have d0:decide ((m:Int)=0)=false:=decide_eq_false (by omega)
 have d1:decide ((2000:Int)<u)=false:=decide_eq_false (by omega)
 have d2:decide (u< -2000)=false:=decide_eq_false (by omega)
 have w1:IntKind.wrap .i64 (u+(L:Int))=u+L:=by rw[w64]<;>omega
 have w2:IntKind.wrap .i64 (u+(L:Int)-53)=u+L-53:=by rw[w64]<;>omega
 have hx:(if u+(L:Int)-53< -1074 then-1074 else u+(L:Int)-53)=u:=by
  by_cases g:m<4503599627370496
  ·have:=h3 g;split<;>omega
  ·have:=hb2 g;split<;>omega
 have w3:IntKind.wrap .i64 (u-u)=0:=by rw[Int.sub_self];decide
 have d3:decide ((971:Int)<u)=false:=decide_eq_false (by omega)
 have w4:IntKind.wrap .i64 ((0:Int)-0)=0:=by decide
 have s0:IntKind.wrap .u64 ((m:Int)*2^(min 0 64))=((m:Nat):Int):=by
  have:=ushl m 0 (by decide)
  rw[Nat.pow_zero,Nat.mul_one,Nat.mod_eq_of_lt (by omega)]at this
  exact this
 refine Pure.I Tryz.func243 [6,7] ?_
 simp-implicitDefEqProofs+decide only[go_sem,d0,d1,d2]
 refine CallG.P _ Tryz.call242 (c1) ?_
 simp-implicitDefEqProofs+decide only[go_sem,w1,w2,hx,w3,d3,w4,s0]
 apply selP_dec<;>intro g
 ·have hu:=h3 (by omega)
  have c2:=fsigned_ok neg m (by omega)
  refine Sm ?_
  refine CallG.P _ Tryz.call244 (c2) ?_
  refine Sm ?_
  have e:encD neg m u=sgnD neg m:=by subst hu;unfold encD;simp
  rw[e]
  exact endF.V [(6,.int .u64 (sgnD neg m:Nat)),(7,.bool true)] (vals_t (by simp-implicitDefEqProofs+decide only[go_sem]<;>rfl) rfl (vals_t (by simp-implicitDefEqProofs+decide only[go_sem]<;>rfl) rfl vals_nil))
 ·obtain⟨k,hk⟩:∃k:Nat,u+1075=(k:Int):=⟨(u+1075).toNat,by omega⟩
  have w5:IntKind.wrap .i64 (u+1075)=(k:Int):=by rw[hk,w64]<;>omega
  have w6:IntKind.wrap .u64 (k:Int)=(k:Int):=by rw[u64];omega
  have hs:k*4503599627370496%18446744073709551616=k*4503599627370496:=Nat.mod_eq_of_lt (by omega)
  have ho:IntKind.wrap .u64 ((@BitVec.toNat 64 (@HOr.hOr (BitVec 64) (BitVec 64) (BitVec 64) (@instHOrOfOrOp (BitVec (IntKind.bits .u64)) (@BitVec.instOrOp (IntKind.bits .u64))) (BitVec.ofInt 64 ((k*4503599627370496:Nat):Int)) (BitVec.ofInt 64 ((m%4503599627370496:Nat):Int))):Nat):Int)=((k*4503599627370496+m%4503599627370496:Nat):Int):=uorE (by omega) (Nat.mod_lt _ (by decide))
  have c2:=fsigned_ok neg (k*4503599627370496+m%4503599627370496) (by omega)
  simp-implicitDefEqProofs+decide only[go_sem,w5,w6,uandR (show m<18446744073709551616 by omega),hs,ho]
  refine CallG.P _ Tryz.call244 (c2) ?_
  refine Sm ?_
  have e:encD neg m u=sgnD neg (k*4503599627370496+m%4503599627370496):=by
   have e2:(u+1074).toNat*4503599627370496+m=k*4503599627370496+m%4503599627370496:=by omega
   unfold encD;rw[e2]
  rw[e]
  exact endF.V [(6,.int .u64 (sgnD neg (k*4503599627370496+m%4503599627370496):Nat)),(7,.bool true)] (vals_t (by simp-implicitDefEqProofs+decide only[go_sem]<;>rfl) rfl (vals_t (by simp-implicitDefEqProofs+decide only[go_sem]<;>rfl) rfl vals_nil))
theorem makeC_ok (neg:Bool) (u:Int) (h1: -1074≤u) (h2:u≤971):
  Pure Tryz.prog 243 [.bool neg,.int .u64 9007199254740992,.int .i64 u] [.t (.int .u64 (if u=971 then 0 else encD neg 9007199254740992 u:Nat)),.t (.bool (decide (u≠971)))]:=by
 have c1:=limbLen_ok 9007199254740992 (by omega)
 have hb:bitLen 9007199254740992=54:=bitLen_uniq (n:=53) (by decide) (by decide)
 rw[hb]at c1
 have d1:decide ((2000:Int)<u)=false:=decide_eq_false (by omega)
 have d2:decide (u< -2000)=false:=decide_eq_false (by omega)
 have w1:IntKind.wrap .i64 (u+((54:Nat):Int))=u+54:=by rw[w64]<;>omega
 have w2:IntKind.wrap .i64 (u+54-53)=u+1:=by rw[w64]<;>omega
 have hx:(if u+1< -1074 then-1074 else u+1)=u+1:=if_neg (by omega)
 have w3:IntKind.wrap .i64 (u+1-u)=1:=by rw[w64]<;>omega
 have s1:IntKind.wrap .u64 ((4503599627370496:Int)*2^(min (Int.toNat 1) 64))=9007199254740992:=by decide
 have s2:Int.fdiv (9007199254740992:Int) (2^(min (Int.toNat 1) 64))=4503599627370496:=by decide
 refine Pure.I Tryz.func243 [6,7] ?_
 simp-implicitDefEqProofs+decide only[go_sem,d1,d2]
 refine CallG.P _ Tryz.call242 (c1) ?_
 simp-implicitDefEqProofs+decide only[go_sem,w1,w2,hx,w3]
 by_cases g:u=971
 ·have d3:decide ((971:Int)<u+1)=true:=decide_eq_true (by omega)
  rw[if_pos g,decide_eq_false (show ¬(u≠971) by omega)]
  simp-implicitDefEqProofs+decide only[go_sem,d3]
  exact endF.V [(6,.int .u64 (0:Nat)),(7,.bool false)] (vals_t (by simp-implicitDefEqProofs+decide only[go_sem]<;>rfl) rfl (vals_t (by simp-implicitDefEqProofs+decide only[go_sem]<;>rfl) rfl vals_nil))
 ·have d3:decide ((971:Int)<u+1)=false:=decide_eq_false (by omega)
  rw[if_neg g,decide_eq_true g]
  obtain⟨k,hk⟩:∃k:Nat,u+1075=(k:Int):=⟨(u+1075).toNat,by omega⟩
  have w5:IntKind.wrap .i64 (u+1+1075)=((k+1:Nat):Int):=by rw[show u+1+1075=((k+1:Nat):Int) by omega,w64]<;>omega
  have hka:k+1≤2046:=by omega
  have hkb:(u+1074).toNat+1=k:=by omega
  have hku:(u+1074).toNat=k-1∧1≤k:=by omega
  generalize hA:k+1=A at*
  have w6:IntKind.wrap .u64 (A:Int)=(A:Int):=by rw[u64];omega
  have hs:A*4503599627370496%18446744073709551616=A*4503599627370496:=Nat.mod_eq_of_lt (by omega)
  have ha:IntKind.wrap .u64 ((@BitVec.toNat 64 (@HAnd.hAnd (BitVec 64) (BitVec 64) (BitVec 64) (@instHAndOfAndOp (BitVec (IntKind.bits .u64)) (@BitVec.instAndOp (IntKind.bits .u64))) (BitVec.ofInt 64 4503599627370496) (BitVec.ofInt 64 4503599627370495)):Nat):Int)=0:=by decide
  have ho:IntKind.wrap .u64 ((@BitVec.toNat 64 (@HOr.hOr (BitVec 64) (BitVec 64) (BitVec 64) (@instHOrOfOrOp (BitVec (IntKind.bits .u64)) (@BitVec.instOrOp (IntKind.bits .u64))) (BitVec.ofInt 64 ((A*4503599627370496:Nat):Int)) (BitVec.ofInt 64 0)):Nat):Int)=((A*4503599627370496:Nat):Int):=by
   have ho0:=uorE (a:=A) (b:=0) (by omega) (by decide)
   rw[Nat.add_zero,nat0]at ho0
   exact ho0
  have c2:=fsigned_ok neg (A*4503599627370496) (by omega)
  have e:encD neg 9007199254740992 u=sgnD neg (A*4503599627370496):=by
   have e2:(u+1074).toNat*4503599627370496+9007199254740992=A*4503599627370496:=by omega
   unfold encD;rw[e2]
  rw[e]
  simp-implicitDefEqProofs+decide only[go_sem,d3,s1,s2,w5,w6,hs,ha,ho]
  refine CallG.P _ Tryz.call244 (c2) ?_
  refine Sm ?_
  exact endF.V [(6,.int .u64 (sgnD neg (A*4503599627370496):Nat)),(7,.bool true)] (vals_t (by simp-implicitDefEqProofs+decide only[go_sem]<;>rfl) rfl (vals_t (by simp-implicitDefEqProofs+decide only[go_sem]<;>rfl) rfl vals_nil))
theorem made0_ok (neg:Bool) (e:Int):Pure Tryz.prog 186 [.bool neg,.int .u64 0,.int .i64 e] [.t (.int .u64 (sgnD neg 0:Nat))]:=by
 have c1:=make0_ok neg e
 refine Pure.I Tryz.func186 [6] ?_
 refine Sm ?_
 refine CallG.P _ Tryz.call243 (c1) ?_
 refine Sm ?_
 exact endF.V1 6 (.int .u64 (sgnD neg 0:Nat))
theorem made_ok (neg:Bool) (m:Nat) (u:Int) (hm:m≤9007199254740992) (h1: -1074≤u) (h2:u≤971) (h3:m<4503599627370496→u= -1074):
  Pure Tryz.prog 186 [.bool neg,.int .u64 m,.int .i64 u] [.t (.int .u64 (encD neg m u:Nat))]:=by
 by_cases h0:m=0
 ·subst h0
  have:=made0_ok neg u
  have hu:=h3 (by decide)
  have e:encD neg 0 u=sgnD neg 0:=by subst hu;rfl
  rw[e];exact this
 rcases Nat.lt_or_ge m 9007199254740992 with g|g
 ·have c1:=make_ok neg m u h0 g h1 h2 h3
  refine Pure.I Tryz.func186 [6] ?_
  refine Sm ?_
  refine CallG.P _ Tryz.call243 (c1) ?_
  refine Sm ?_
  exact endF.V1 6 (.int .u64 (encD neg m u:Nat))
 ·obtain rfl:m=9007199254740992:=by omega
  have c1:=makeC_ok neg u h1 h2
  have c2:=finf_ok neg
  by_cases g2:u=971
  ·rw[if_pos g2,decide_eq_false (show ¬(u≠971) by omega)]at c1
   refine Pure.I Tryz.func186 [6] ?_
   refine Sm ?_
   refine CallG.P _ Tryz.call243 (c1) ?_
   refine Sm ?_
   refine CallG.P _ Tryz.call187 (c2) ?_
   refine Sm ?_
   have e:encD neg 9007199254740992 u=infD neg:=by subst g2;rfl
   rw[e]
   exact endF.V1 6 (.int .u64 (infD neg:Nat))
  ·rw[if_neg g2,decide_eq_true g2]at c1
   refine Pure.I Tryz.func186 [6] ?_
   refine Sm ?_
   refine CallG.P _ Tryz.call243 (c1) ?_
   refine Sm ?_
   exact endF.V1 6 (.int .u64 (encD neg 9007199254740992 u:Nat))
theorem even_ok (m:Nat) (half more:Bool) (hm:m<9223372036854775808):Pure Tryz.prog 253 [.int .u64 m,.bool half,.bool more] [.t (.int .u64 ((if half=true∧(more=true∨m%2=1) then m+1 else m:Nat)))]:=by
 have hw:IntKind.wrap .u64 ((m:Int)+1)=((m+1:Nat):Int):=by rw[u64];omega
 obtain⟨r,hr⟩:∃r,(if half=true∧(more=true∨m%2=1) then m+1 else m)=r:=⟨_,rfl⟩
 rw[hr]
 refine Pure.I Tryz.func253 [6] ?_
 cases half
 ·obtain rfl:m=r:=by rw[if_neg (by simp)]at hr;exact hr
  refine Sm ?_
  exact endF.V1 6 (.int .u64 (m:Nat))
 cases more
 ·simp-implicitDefEqProofs+decide only[go_sem,uandO (show m<18446744073709551616 by omega)]
  apply selP_dec<;>intro g
  ·have g2:m%2=1:=by omega
   obtain rfl:m+1=r:=by rw[if_pos (by simp[g2])]at hr;exact hr
   simp-implicitDefEqProofs+decide only[go_sem,hw]
   exact endF.V [(6,.int .u64 (m+1:Nat))] (vals_t (by simp-implicitDefEqProofs+decide only[go_sem,hw]<;>rfl) rfl vals_nil)
  ·have g2:¬m%2=1:=by omega
   obtain rfl:m=r:=by rw[if_neg (by simp[g2])]at hr;exact hr
   refine Sm ?_
   exact endF.V1 6 (.int .u64 (m:Nat))
 ·obtain rfl:m+1=r:=by rw[if_pos (by simp)]at hr;exact hr
  simp-implicitDefEqProofs+decide only[go_sem,hw]
  exact endF.V [(6,.int .u64 (m+1:Nat))] (vals_t (by simp-implicitDefEqProofs+decide only[go_sem,hw]<;>rfl) rfl vals_nil)
theorem rne_zero {m d:Nat} (hm:m<18446744073709551616) (hd:64<d):rne m d=0:=by
 have h1:2^65≤2^d:=Nat.pow_le_pow_right (by decide) hd
 have h2:m/2^d=0:=Nat.div_eq_of_lt (by omega)
 have h3:m%2^d=m:=Nat.mod_eq_of_lt (by omega)
 unfold rne
 rw[h2,h3,if_neg (by omega)]
theorem below_eq {m d:Nat} (hd:d≤64):m*2^(64-d)%18446744073709551616=m%2^d*2^(64-d):=by
 have:(18446744073709551616:Nat)=2^d*2^(64-d):=by rw[←Nat.pow_add,show d+(64-d)=64 by omega]
 rw[this,Nat.mul_mod_mul_right]
theorem rne_word {m d:Nat} (h1:1≤d) (hd:d≤64):
  (if m*2^(64-d)%18446744073709551616/9223372036854775808=1∧(m*2^(64-d)%18446744073709551616*2%18446744073709551616≠0∨m/2^d%2=1) then m/2^d+1 else m/2^d)=rne m d:=by
 rw[below_eq hd]
 have hW:(18446744073709551616:Nat)=2^d*2^(64-d):=by rw[←Nat.pow_add,show d+(64-d)=64 by omega]
 have hR:0<2^(64-d):=Nat.two_pow_pos _
 have hP:0<2^d:=Nat.two_pow_pos _
 have hr:=Nat.mod_lt m hP
 unfold rne
 generalize m/2^d=q
 generalize m%2^d=r at*
 generalize 2^d=P at*
 generalize 2^(64-d)=R at*
 have a1:r*R/9223372036854775808=1↔P≤2*r:=by
  have lt:r*R<P*R:=Nat.mul_lt_mul_of_pos_right hr hR
  constructor
  ·intro h
   rcases Nat.lt_or_ge (2*r) P with g|g
   ·have:2*r*R<P*R:=Nat.mul_lt_mul_of_pos_right g hR
    rw[Nat.mul_assoc]at this;omega
   ·exact g
  ·intro h
   have:P*R≤2*r*R:=Nat.mul_le_mul_right R h
   rw[Nat.mul_assoc]at this;omega
 have a2:r*R*2%18446744073709551616≠0↔2*r%P≠0:=by
  rw[show r*R*2=2*r*R by rw[Nat.mul_comm,Nat.mul_assoc],hW,Nat.mul_mod_mul_right]
  rw[Ne,Nat.mul_eq_zero]
  constructor
  ·exact fun h h2=>h (.inl h2)
  ·exact fun h h2=>h2.elim h (by omega)
 simp only[a1,a2]
 by_cases c:P≤2*r
 ·have e:2*r%P=2*r-P:=by
   rw[Nat.mod_eq_sub_mod c,Nat.mod_eq_of_lt (by omega)]
  rw[e]
  by_cases c2:P<2*r
  ·rw[if_pos ⟨c,.inl (by omega)⟩,if_pos (.inl c2)]
  ·have:P=2*r:=by omega
   by_cases c3:q%2=1
   ·rw[if_pos ⟨c,.inr c3⟩,if_pos (.inr ⟨by omega,c3⟩)]
   ·rw[if_neg (by omega),if_neg (by omega)]
 ·rw[if_neg (fun h=>c h.1),if_neg (by omega)]
set_option maxHeartbeats 4000000 in
theorem word_ok (neg:Bool) (m:Nat) (e:Int) (hm:m<18446744073709551616) (he1: -1000000≤e) (he2:e≤1000000):
  Pure Tryz.prog 251 [.bool neg,.int .u64 m,.int .i64 e] [.t (.int .u64 (rndD neg m e:Nat))]:=by
 have c1:=limbLen_ok m hm
 have c2:=made0_ok neg 0
 have c3:=finf_ok neg
 have hL64:=bitLen_le hm
 have x1:(if e< -1099511627776 then-1099511627776 else e)=e:=if_neg (by omega)
 have x2:(if (1099511627776:Int)<e then 1099511627776 else e)=e:=if_neg (by omega)
 have x3:(if e<(1099511627776:Int) then e else 1099511627776)=e:=if_pos (by omega)
 have w1:IntKind.wrap .i64 ((bitLen m:Int)+e)=(bitLen m:Int)+e:=by rw[w64]<;>omega
 have w2:IntKind.wrap .i64 ((bitLen m:Int)+e-53)=(bitLen m:Int)+e-53:=by rw[w64]<;>omega
 have hx:(if (bitLen m:Int)+e-53< -1074 then-1074 else (bitLen m:Int)+e-53)=unitD m e:=by unfold unitD;split<;>omega
 refine Pure.I Tryz.func251 [6] ?_
 simp-implicitDefEqProofs+decide only[go_sem,x1,x2,x3]
 apply selP_dec<;>intro h0
 ·obtain rfl:m=0:=by omega
  refine Sm ?_
  refine CallG.P _ Tryz.call186 (c2) ?_
  refine Sm ?_
  exact endF.V1 6 (.int .u64 (sgnD neg 0:Nat))
 have h0:m≠0:=by omega
 have hr:rndD neg m e=if 971<unitD m e then infD neg else encD neg (unitsD m e) (unitD m e):=if_neg h0
 have hu1: -1074≤unitD m e:=by unfold unitD;omega
 have hu2:unitD m e≤2000000:=by unfold unitD;omega
 have hul:=unitsD_le (e:=e) h0
 have hug:=unitsD_ge (e:=e) h0
 rw[hr]
 clear hr
 refine Sm ?_
 refine CallG.P _ Tryz.call242 (c1) ?_
 simp-implicitDefEqProofs+decide only[go_sem,w1,w2,hx]
 apply selP_dec<;>intro h1
 ·rw[if_pos h1]
  refine Sm ?_
  refine CallG.P _ Tryz.call187 (c3) ?_
  refine Sm ?_
  exact endF.V1 6 (.int .u64 (infD neg:Nat))
 rw[if_neg h1]
 have w3:IntKind.wrap .i64 (unitD m e-e)=unitD m e-e:=by rw[w64]<;>omega
 have c4:=made_ok neg (unitsD m e) (unitD m e) hul hu1 (by omega) (fun h=>by
   rcases Classical.em (unitD m e= -1074) with g|g
   ·exact g
   ·have:=hug g;omega)
 simp-implicitDefEqProofs+decide only[go_sem,w3]
 apply selP_dec<;>intro h2
 ·have hun:unitsD m e=m*2^(e-unitD m e).toNat:=if_pos (by omega)
  obtain⟨j,hj⟩:∃j:Nat,e-unitD m e=(j:Int):=⟨(e-unitD m e).toNat,by omega⟩
  rw[hj,Int.toNat_natCast]at hun
  have hL1:1≤bitLen m:=(bitLen_bounds h0).2.2
  have hj53:j≤53:=by have:(bitLen m:Int)+e-53≤unitD m e:=by{unfold unitD;omega};omega
  have w4:IntKind.wrap .i64 (0-(unitD m e-e))=(j:Int):=by rw[show 0-(unitD m e-e)=(j:Int) by omega,w64]<;>omega
  have hs:m*2^j%18446744073709551616=unitsD m e:=by rw[←hun];exact Nat.mod_eq_of_lt (by omega)
  simp-implicitDefEqProofs+decide only[go_sem,w4,ushlN m j (by omega),hs]
  refine CallG.P _ Tryz.call186 (c4) ?_
  refine Sm ?_
  exact endF.V1 6 (.int .u64 (encD neg (unitsD m e) (unitD m e):Nat))
 have hun:unitsD m e=rne m (unitD m e-e).toNat:=if_neg (by omega)
 obtain⟨d,hd⟩:∃d:Nat,unitD m e-e=(d:Int):=⟨(unitD m e-e).toNat,by omega⟩
 rw[hd,Int.toNat_natCast]at hun
 rw[hd]at h2⊢
 refine Sm ?_
 apply selP_dec<;>intro h3
 ·have hz:=rne_zero hm (show 64<d by omega)
  have hue:unitD m e= -1074:=by unfold unitD at hd⊢;omega
  rw[hun,hz,hue]
  refine Sm ?_
  refine CallG.P _ Tryz.call186 (c2) ?_
  refine Sm ?_
  exact endF.V1 6 (.int .u64 (sgnD neg 0:Nat))
 have w5:IntKind.wrap .i64 (64-(d:Int))=((64-d:Nat):Int):=by rw[show 64-(d:Int)=((64-d:Nat):Int) by omega,w64]<;>omega
 have w6:IntKind.wrap .i64 ((d:Int)-1)=((d-1:Nat):Int):=by rw[show(d:Int)-1=((d-1:Nat):Int) by omega,w64]<;>omega
 have hq:m/2/2^(d-1)=m/2^d:=by
  rw[Nat.div_div_eq_div_mul]
  have:2*2^(d-1)=2^d:=by rw[Nat.mul_comm,←Nat.pow_succ];congr 1;omega
  rw[this]
 have hrw:=rne_word (m:=m) (show 1≤d by omega) (show d≤64 by omega)
 have hql:m/2^d<9223372036854775808:=by
  refine(Nat.div_lt_iff_lt_mul (Nat.two_pow_pos _)).2 ?_
  have:2^1≤2^d:=Nat.pow_le_pow_right (by decide) (by omega)
  omega
 generalize hB:m*2^(64-d)%18446744073709551616=B at hrw
 have c5:=even_ok (m/2^d) (decide (B/9223372036854775808=1)) (decide (B*2%18446744073709551616≠0)) hql
 simp only[decide_eq_true_eq]at c5
 rw[hrw,←hun]at c5
 have d1:decide (((B/9223372036854775808:Nat):Int)=1)=decide (B/9223372036854775808=1):=decide_eq_decide.2 (by omega)
 have d2:decide (((B*2%18446744073709551616:Nat):Int)≠0)=decide (B*2%18446744073709551616≠0):=decide_eq_decide.2 (by omega)
 simp-implicitDefEqProofs+decide only[go_sem,w5,w6,d1,d2,ushlN m (64-d) (by omega),hB,i64half,ushrN (m/2) (d-1) (by omega),hq]
 refine CallG.P _ Tryz.call253 (c5) ?_
 refine Sm ?_
 refine CallG.P _ Tryz.call186 (c4) ?_
 refine Sm ?_
 exact endF.V1 6 (.int .u64 (encD neg (unitsD m e) (unitD m e):Nat))
theorem uorO {a:Nat} (ha:a<18446744073709551616):IntKind.wrap .u64 ((@BitVec.toNat 64 (@HOr.hOr (BitVec 64) (BitVec 64) (BitVec 64) (@instHOrOfOrOp (BitVec (IntKind.bits .u64)) (@BitVec.instOrOp (IntKind.bits .u64))) (BitVec.ofInt 64 (a:Int)) (BitVec.ofInt 64 1)):Nat):Int)=((a/2*2+1:Nat):Int):=by
 refine uorG (c:=1) ?_ ha (by decide)
 have h:a=a/2*2^1+a%2:=by omega
 have h2:=or_add (a/2) (a%2) 1 (Nat.mod_lt _ (by decide))
 have h3:(a%2|||1)=1:=by
  rcases Nat.mod_two_eq_zero_or_one a with e|e<;>rw[e]<;>rfl
 have h4:=or_add (a/2) 1 1 (by decide)
 conv=>lhs;rw[h,←h2,Nat.or_assoc,h3,h4]
theorem odd_ok (m k:Nat) (hm:m<9007199254740992) (hk:k<1000000):Pure Tryz.prog 297 [.int .u64 m,.int .i64 k] [.t (.int .u64 (stk m k:Nat))]:=by
 have hp:0<2^k:=Nat.two_pow_pos k
 have hdm:=Nat.div_add_mod m (2^k)
 have hmn:(if (m:Int)<1 then (m:Int) else 1)=((min m 1:Nat):Int):=by split<;>omega
 have hmn2:(if (1:Int)<(m:Int) then (1:Int) else m)=((min m 1:Nat):Int):=by split<;>omega
 refine Pure.I Tryz.func297 [4] ?_
 refine Sm ?_
 apply selP_dec<;>intro h1
 ·have e:stk m k=min m 1:=by
   have h2:2^64≤2^k:=Nat.pow_le_pow_right (by decide) (by omega)
   unfold stk
   rw[Nat.mod_eq_of_lt (by omega),Nat.div_eq_of_lt (by omega)]
   split<;>omega
  rw[e]
  simp-implicitDefEqProofs+decide only[go_sem,hmn,hmn2]
  exact endF.V [(4,.int .u64 (min m 1:Nat))] (vals_t (by simp-implicitDefEqProofs+decide only[go_sem,hmn]<;>rfl) rfl vals_nil)
 have hq:m/2^k≤m:=Nat.div_le_self _ _
 have hs:m/2^k*2^k%18446744073709551616=m/2^k*2^k:=Nat.mod_eq_of_lt (by rw[Nat.mul_comm];omega)
 simp-implicitDefEqProofs+decide only[go_sem,ushrN m k (by omega),ushlN (m/2^k) k (by omega),hs]
 apply selP_dec<;>intro h2
 ·have e:stk m k=m/2^k/2*2+1:=if_neg (fun h=>h2 (by rw[Nat.mul_comm];omega))
  rw[e]
  simp-implicitDefEqProofs+decide only[go_sem,ushrN m k (by omega),uorO (show m/2^k<18446744073709551616 by omega)]
  exact endF.V1 4 (.int .u64 (m/2^k/2*2+1:Nat))
 ·have h3:m/2^k*2^k=m:=by omega
  have e:stk m k=m/2^k:=if_pos (by rw[Nat.mul_comm]at h3;omega)
  rw[e]
  simp-implicitDefEqProofs+decide only[go_sem,ushrN m k (by omega)]
  exact endF.V1 4 (.int .u64 (m/2^k:Nat))
theorem retVal4 (a b c d:T):retVal none [.t a,.t b,.t c,.t d]=.tup [.t a,.t b,.t c,.t d]:=rfl
attribute [go_sem] retVal4
def partT (s:Bool) (m:Nat) (e:Int):T:=.agg [.bool s,.int .u64 m,.int .i64 e]
theorem fof_ok (b:Nat) (hb:b<18446744073709551616) (hf:fieldD b≠2047):Pure Tryz.prog 274 [.int .u64 b] [.t (partT (negD b) (partM b) (partE b))]:=by
 have c1:=parts_ok b hb hf
 refine Pure.J Tryz.func274 [.c 2 _] ?_
 refine Sm ?_
 refine CallG.P _ Tryz.call276 (c1) ?_
 simp-implicitDefEqProofs+decide only[go_sem,partT]
 exact endC.one (.inr rfl) (by first|rfl|(simp-implicitDefEqProofs+decide only[go_sem,valC,partT];done)|(simp-implicitDefEqProofs+decide only[go_sem,valC,partT];rfl)) (by first|rfl|(simp-implicitDefEqProofs+decide only[go_sem,partT];done)|(simp-implicitDefEqProofs+decide only[go_sem,partT];rfl)) (fun l hp=>by cases l<;>first|rfl|cases hp) rfl
theorem addCore_ok (s:Bool) (m:Nat) (e:Int) (t:Bool) (n:Nat) (f:Int) (hm:m<9007199254740992) (hn:n<9007199254740992) (hef:f≤e) (hf: -2000≤f) (he:e≤2000):
  Pure Tryz.prog 273 [partT s m e,partT t n f] [.t (.int .u64 (addCore s m e t n f:Nat))]:=by
 obtain⟨u,hu⟩:∃u:Nat,min (e-f) 10=(u:Int):=⟨(min (e-f) 10).toNat,by omega⟩
 obtain⟨k,hk⟩:∃k:Nat,e-(u:Int)-f=(k:Int):=⟨(e-(u:Int)-f).toNat,by omega⟩
 have hu10:u≤10:=by omega
 have hp:2^u≤2^10:=Nat.pow_le_pow_right (by decide) hu10
 have hX:m*2^u≤9223372036854774784:=Nat.le_trans (Nat.mul_le_mul (show m≤9007199254740991 by omega) hp) (by decide)
 have hy:=stk_le n k
 have hy2:n/2^k≤n:=Nat.div_le_self _ _
 have hmod:m*2^u%18446744073709551616=m*2^u:=Nat.mod_eq_of_lt (by omega)
 have c1:=odd_ok n k hn (by omega)
 unfold addCore
 rw[hu,hk,Int.toNat_natCast,Int.toNat_natCast]
 have w1:IntKind.wrap .i64 (e-f)=e-f:=by rw[w64]<;>omega
 have w2:IntKind.wrap .i64 (e-(u:Int))=e-(u:Int):=by rw[w64]<;>omega
 have w3:IntKind.wrap .i64 (e-(u:Int)-f)=(k:Int):=by rw[hk,w64]<;>omega
 have hmn:(if e-f<10 then e-f else 10)=(u:Int):=by split<;>omega
 have hmn2:(if (10:Int)<e-f then 10 else e-f)=(u:Int):=by split<;>omega
 have hsl:=ushlN m u (by omega)
 have cw:=fun(neg:Bool) (x:Nat) (hx:x<18446744073709551616)=>word_ok neg x (e-(u:Int)) hx (by omega) (by omega)
 generalize stk n k=y at*
 generalize hXe:m*2^u=X at*
 have wa:(X+y)%18446744073709551616=X+y:=Nat.mod_eq_of_lt (by omega)
 have ws1:y≤X→IntKind.wrap .u64 ((X:Int)-(y:Int))=((X-y:Nat):Int):=fun h=>by rw[u64];omega
 have ws2:X≤y→IntKind.wrap .u64 ((y:Int)-(X:Int))=((y-X:Nat):Int):=fun h=>by rw[u64];omega
 have d0:decide (e<f)=false:=decide_eq_false (by omega)
 unfold partT
 refine Pure.I Tryz.func273 [4] ?_
 simp-implicitDefEqProofs+decide only[go_sem,d0,w1,hmn,hmn2,hsl,hmod,w2,w3]
 refine CallG.P _ Tryz.call297 (c1) ?_
 refine Sm ?_
 apply selP_dec<;>intro h1
 ·rw[if_pos h1]
  simp-implicitDefEqProofs+decide only[go_sem,wa]
  refine CallG.P _ Tryz.call251 (cw s (X+y) (by omega)) ?_
  refine Sm ?_
  exact endF.V1 4 (.int .u64 (rndD s (X+y) (e-(u:Int)):Nat))
 rw[if_neg h1]
 refine Sm ?_
 apply selP_dec<;>intro h2
 ·rw[if_pos h2]
  simp-implicitDefEqProofs+decide only[go_sem,ws1 (Nat.le_of_lt h2)]
  refine CallG.P _ Tryz.call251 (cw s (X-y) (by omega)) ?_
  refine Sm ?_
  exact endF.V1 4 (.int .u64 (rndD s (X-y) (e-(u:Int)):Nat))
 rw[if_neg h2]
 refine Sm ?_
 apply selP_dec<;>intro h3
 ·rw[if_pos h3]
  simp-implicitDefEqProofs+decide only[go_sem,ws2 (Nat.le_of_lt h3)]
  refine CallG.P _ Tryz.call251 (cw t (y-X) (by omega)) ?_
  refine Sm ?_
  exact endF.V1 4 (.int .u64 (rndD t (y-X) (e-(u:Int)):Nat))
 ·rw[if_neg h3]
  refine Sm ?_
  exact endF.V1 4 (.int .u64 (0:Nat))
theorem addSwap_ok (s:Bool) (m:Nat) (e:Int) (t:Bool) (n:Nat) (f:Int) (hm:m<9007199254740992) (hn:n<9007199254740992) (hef:f<e) (hf: -2000≤f) (he:e≤2000):
  Pure Tryz.prog 273 [partT t n f,partT s m e] [.t (.int .u64 (addCore s m e t n f:Nat))]:=by
 obtain⟨u,hu⟩:∃u:Nat,min (e-f) 10=(u:Int):=⟨(min (e-f) 10).toNat,by omega⟩
 obtain⟨k,hk⟩:∃k:Nat,e-(u:Int)-f=(k:Int):=⟨(e-(u:Int)-f).toNat,by omega⟩
 have hu10:u≤10:=by omega
 have hp:2^u≤2^10:=Nat.pow_le_pow_right (by decide) hu10
 have hX:m*2^u≤9223372036854774784:=Nat.le_trans (Nat.mul_le_mul (show m≤9007199254740991 by omega) hp) (by decide)
 have hy:=stk_le n k
 have hy2:n/2^k≤n:=Nat.div_le_self _ _
 have hmod:m*2^u%18446744073709551616=m*2^u:=Nat.mod_eq_of_lt (by omega)
 have c1:=odd_ok n k hn (by omega)
 unfold addCore
 rw[hu,hk,Int.toNat_natCast,Int.toNat_natCast]
 have w1:IntKind.wrap .i64 (e-f)=e-f:=by rw[w64]<;>omega
 have w2:IntKind.wrap .i64 (e-(u:Int))=e-(u:Int):=by rw[w64]<;>omega
 have w3:IntKind.wrap .i64 (e-(u:Int)-f)=(k:Int):=by rw[hk,w64]<;>omega
 have hmn:(if e-f<10 then e-f else 10)=(u:Int):=by split<;>omega
 have hmn2:(if (10:Int)<e-f then 10 else e-f)=(u:Int):=by split<;>omega
 have hsl:=ushlN m u (by omega)
 have cw:=fun(neg:Bool) (x:Nat) (hx:x<18446744073709551616)=>word_ok neg x (e-(u:Int)) hx (by omega) (by omega)
 generalize stk n k=y at*
 generalize hXe:m*2^u=X at*
 have wa:(X+y)%18446744073709551616=X+y:=Nat.mod_eq_of_lt (by omega)
 have ws1:y≤X→IntKind.wrap .u64 ((X:Int)-(y:Int))=((X-y:Nat):Int):=fun h=>by rw[u64];omega
 have ws2:X≤y→IntKind.wrap .u64 ((y:Int)-(X:Int))=((y-X:Nat):Int):=fun h=>by rw[u64];omega
 have d1:decide (f<e)=true:=decide_eq_true (by omega)
 unfold partT
 refine Pure.I Tryz.func273 [4] ?_
 simp-implicitDefEqProofs+decide only[go_sem,d1,w1,hmn,hmn2,hsl,hmod,w2,w3]
 refine CallG.P _ Tryz.call297 (c1) ?_
 refine Sm ?_
 apply selP_dec<;>intro h1
 ·rw[if_pos h1]
  simp-implicitDefEqProofs+decide only[go_sem,wa]
  refine CallG.P _ Tryz.call251 (cw s (X+y) (by omega)) ?_
  refine Sm ?_
  exact endF.V1 4 (.int .u64 (rndD s (X+y) (e-(u:Int)):Nat))
 rw[if_neg h1]
 refine Sm ?_
 apply selP_dec<;>intro h2
 ·rw[if_pos h2]
  simp-implicitDefEqProofs+decide only[go_sem,ws1 (Nat.le_of_lt h2)]
  refine CallG.P _ Tryz.call251 (cw s (X-y) (by omega)) ?_
  refine Sm ?_
  exact endF.V1 4 (.int .u64 (rndD s (X-y) (e-(u:Int)):Nat))
 rw[if_neg h2]
 refine Sm ?_
 apply selP_dec<;>intro h3
 ·rw[if_pos h3]
  simp-implicitDefEqProofs+decide only[go_sem,ws2 (Nat.le_of_lt h3)]
  refine CallG.P _ Tryz.call251 (cw t (y-X) (by omega)) ?_
  refine Sm ?_
  exact endF.V1 4 (.int .u64 (rndD t (y-X) (e-(u:Int)):Nat))
 ·rw[if_neg h3]
  refine Sm ?_
  exact endF.V1 4 (.int .u64 (0:Nat))
theorem finite_ok (s:Bool) (m:Nat) (e:Int) (t:Bool) (n:Nat) (f:Int) (hm:m<9007199254740992) (hn:n<9007199254740992) (he: -1074≤e) (hf: -1074≤f) (he2:e≤2000) (hf2:f≤2000) (hm2: -1074<e→4503599627370496≤m) (hn2: -1074<f→4503599627370496≤n):
  Pure Tryz.prog 273 [partT s m e,partT t n f] [.t (.int .u64 (addE s m e t n f:Nat))]:=by
 rcases Int.lt_or_le e f with g|g
 ·have:=addSwap_ok t n f s m e hn hm g (by omega) hf2
  rw[addCore_eq t n f s m e hm (by omega) he hn2,addE_comm]at this
  exact this
 ·have:=addCore_ok s m e t n f hm hn g (by omega) he2
  rw[addCore_eq s m e t n f hn g hf hm2]at this
  exact this
def numsD (a b:Nat):Nat:=addE (negD a) (partM a) (partE a) (negD b) (partM b) (partE b)
def addD (a b:Nat):Nat:=
 if kindD a=4∨kindD b=4 then nanD else if kindD a=3∧kindD b=3∧a≠b then nanD else if kindD a=3 then a else if kindD b=3 then b else numsD a b
theorem kind_fin {b:Nat} (h3:kindD b≠3) (h4:kindD b≠4):fieldD b≠2047:=fun h=>by
 unfold kindD at h3 h4
 rw[if_pos h]at h3 h4
 by_cases g:restD b=0
 ·exact h3 (if_pos g)
 ·exact h4 (if_neg g)
theorem partE_bnd {b:Nat} (h:fieldD b≠2047): -1074≤partE b∧partE b≤971∧(-1074<partE b→4503599627370496≤partM b):=by
 have:=fieldD_lt b
 unfold partE partM
 split<;>omega
set_option maxHeartbeats 1000000 in
theorem fadd_ok (a b:Nat) (ha:a<18446744073709551616) (hb:b<18446744073709551616):Pure Tryz.prog 219 [.int .u64 a,.int .u64 b] [.t (.int .u64 (addD a b:Nat))]:=by
 have c1:=kind_ok a ha
 have c2:=kind_ok b hb
 have c3:=fnan_ok
 have ka:kindD a≠3→kindD a≠4→fieldD a≠2047:=fun h3 h4=>kind_fin h3 h4
 have kb:kindD b≠3→kindD b≠4→fieldD b≠2047:=fun h3 h4=>kind_fin h3 h4
 have d4:decide ((a:Int)≠(b:Int))=decide (a≠b):=decide_eq_decide.2 (by omega)
 obtain⟨r,hr⟩:∃r,addD a b=r:=⟨_,rfl⟩
 rw[hr]
 unfold addD at hr
 generalize kindD a=k at*
 generalize kindD b=l at*
 refine Pure.I Tryz.func219 [4] ?_
 refine Sm ?_
 refine CallG.P _ Tryz.call271 (c1) ?_
 refine Sm ?_
 refine CallG.P _ Tryz.call271 (c2) ?_
 refine Sm ?_
 apply selP_dec<;>intro h1
 ·rw[if_pos (.inl h1)]at hr
  subst hr
  refine Sm ?_
  refine CallG.P _ Tryz.call272 (c3) ?_
  refine Sm ?_
  exact endF.V1 4 (.int .u64 (nanD:Nat))
 refine Sm ?_
 apply selP_dec<;>intro h2
 ·rw[if_pos (.inr h2)]at hr
  subst hr
  refine Sm ?_
  refine CallG.P _ Tryz.call272 (c3) ?_
  refine Sm ?_
  exact endF.V1 4 (.int .u64 (nanD:Nat))
 rw[if_neg (fun h=>h.elim h1 h2)]at hr
 refine Sm ?_
 apply selP_dec<;>intro h3
 ·simp-implicitDefEqProofs+decide only[go_sem,h3]
  apply selP_dec<;>intro h4
  ·simp-implicitDefEqProofs+decide only[go_sem,h4,d4]
   apply selP_dec<;>intro h5
   ·rw[if_pos ⟨h3,h4,by omega⟩]at hr
    subst hr
    refine Sm ?_
    refine CallG.P _ Tryz.call272 (c3) ?_
    refine Sm ?_
    exact endF.V1 4 (.int .u64 (nanD:Nat))
   ·rw[if_neg (fun h=>by omega),if_pos h3]at hr
    subst hr
    simp-implicitDefEqProofs+decide only[go_sem,h3]
    exact endF.V1 4 (.int .u64 (a:Nat))
  ·rw[if_neg (fun h=>by omega),if_pos h3]at hr
   subst hr
   simp-implicitDefEqProofs+decide only[go_sem,h3]
   exact endF.V1 4 (.int .u64 (a:Nat))
 rw[if_neg (fun h=>h3 h.1),if_neg h3]at hr
 simp-implicitDefEqProofs+decide only[go_sem,h3]
 have fa:=ka h3 h1
 apply selP_dec<;>intro h4
 ·rw[if_pos h4]at hr
  subst hr
  refine Sm ?_
  exact endF.V1 4 (.int .u64 (b:Nat))
 rw[if_neg h4]at hr
 have fb:=kb h4 h2
 have c4:=fof_ok a ha fa
 have c5:=fof_ok b hb fb
 have ba:=partE_bnd fa
 have bb:=partE_bnd fb
 have c6:=finite_ok (negD a) (partM a) (partE a) (negD b) (partM b) (partE b) (partM_lt a) (partM_lt b) ba.1 bb.1 (by omega) (by omega) ba.2.2 bb.2.2
 unfold numsD at hr
 rw[hr]at c6
 refine Sm ?_
 refine CallG.PS _ Tryz.call274 (c4) ?_
 simp-implicitDefEqProofs+decide only[go_sem,partT]
 refine CallG.PS _ Tryz.call274 (c5) ?_
 simp-implicitDefEqProofs+decide only[go_sem,partT]
 refine CallG.P _ Tryz.call273 (c6) ?_
 refine Sm ?_
 exact endF.V1 4 (.int .u64 (r:Nat))
theorem fsub_ok (a b:Nat) (ha:a<18446744073709551616) (hb:b<18446744073709551616):Pure Tryz.prog 220 [.int .u64 a,.int .u64 b] [.t (.int .u64 (addD a (flipD b):Nat))]:=by
 have hf:flipD b<18446744073709551616:=by
  unfold flipD
  split
  ·decide
  ·unfold flipB;split<;>omega
 have c1:=flip_ok b hb
 have c2:=fadd_ok a (flipD b) ha hf
 refine Pure.I Tryz.func220 [4] ?_
 refine Sm ?_
 refine CallG.P _ Tryz.call218 (c1) ?_
 refine Sm ?_
 refine CallG.P _ Tryz.call219 (c2) ?_
 refine Sm ?_
 exact endF.V1 4 (.int .u64 (addD a (flipD b):Nat))
def mulD (a b:Nat):Nat:=
 if kindD a=4∨kindD b=4 then nanD else if kindD a=3∨kindD b=3 then (if kindD a=0∨kindD b=0 then nanD else infD (!decide (negD a=negD b))) else rndD (!decide (negD a=negD b)) (partM a*partM b) (partE a+partE b)
theorem high_word {p s:Nat} (hs:s≤64):p/18446744073709551616*2^(64-s)+p%18446744073709551616/2^s=p/2^s:=by
 have hW:(18446744073709551616:Nat)=2^(64-s)*2^s:=by rw[←Nat.pow_add,show 64-s+s=64 by omega]
 have hp:0<2^s:=Nat.two_pow_pos s
 conv=>rhs;rw[←Nat.div_add_mod p 18446744073709551616]
 generalize p/18446744073709551616=hi
 generalize p%18446744073709551616=lo
 rw[hW,show 2^(64-s)*2^s*hi+lo=lo+hi*2^(64-s)*2^s by rw[Nat.add_comm,Nat.mul_comm (2^(64-s)*2^s),Nat.mul_assoc],Nat.add_mul_div_right _ _ hp,Nat.add_comm]
theorem low_word {p s:Nat} (hs:s≤64):p%18446744073709551616*2^(64-s)%18446744073709551616=0↔p%2^s=0:=by
 rw[below_eq hs]
 have hW:(18446744073709551616:Nat)=2^s*2^(64-s):=by rw[←Nat.pow_add,show s+(64-s)=64 by omega]
 have e:p%18446744073709551616%2^s=p%2^s:=by rw[hW,Nat.mod_mul_right_mod]
 rw[e,Nat.mul_eq_zero]
 have:=Nat.two_pow_pos (64-s)
 omega
set_option maxHeartbeats 2000000 in
theorem fmul_ok (a b:Nat) (ha:a<18446744073709551616) (hb:b<18446744073709551616):Pure Tryz.prog 221 [.int .u64 a,.int .u64 b] [.t (.int .u64 (mulD a b:Nat))]:=by
 have c1:=kind_ok a ha
 have c2:=kind_ok b hb
 have c3:=fnan_ok
 have n1:=fneg_ok a ha
 have n2:=fneg_ok b hb
 have p1:=parts_ok a ha
 have p2:=parts_ok b hb
 have b1:=@partE_bnd a
 have b2:=@partE_bnd b
 have m1:=partM_lt a
 have m2:=partM_lt b
 have ka:kindD a≠3→kindD a≠4→fieldD a≠2047:=fun h3 h4=>kind_fin h3 h4
 have kb:kindD b≠3→kindD b≠4→fieldD b≠2047:=fun h3 h4=>kind_fin h3 h4
 obtain⟨r,hr⟩:∃r,mulD a b=r:=⟨_,rfl⟩
 rw[hr]
 unfold mulD at hr
 have ci:=finf_ok (!decide (negD a=negD b))
 generalize kindD a=k at*
 generalize kindD b=l at*
 generalize negD a=s at*
 generalize negD b=t at*
 generalize partM a=m at*
 generalize partM b=n at*
 generalize partE a=e at*
 generalize partE b=f at*
 refine Pure.I Tryz.func221 [4] ?_
 refine Sm ?_
 refine CallG.P _ Tryz.call271 (c1) ?_
 refine Sm ?_
 refine CallG.P _ Tryz.call271 (c2) ?_
 refine Sm ?_
 refine CallG.P _ Tryz.call275 (n1) ?_
 refine Sm ?_
 refine CallG.P _ Tryz.call275 (n2) ?_
 refine Sm ?_
 apply selP_dec<;>intro h1
 ·rw[if_pos (.inl h1)]at hr
  subst hr
  refine Sm ?_
  refine CallG.P _ Tryz.call272 (c3) ?_
  refine Sm ?_
  exact endF.V1 4 (.int .u64 (nanD:Nat))
 refine Sm ?_
 apply selP_dec<;>intro h2
 ·rw[if_pos (.inr h2)]at hr
  subst hr
  refine Sm ?_
  refine CallG.P _ Tryz.call272 (c3) ?_
  refine Sm ?_
  exact endF.V1 4 (.int .u64 (nanD:Nat))
 rw[if_neg (fun h=>h.elim h1 h2)]at hr
 by_cases h3:k=3∨l=3
 ·rw[if_pos h3]at hr
  have hcase:∀(c:Bool),c=true→c=true:=fun _ h=>h
  by_cases h4:k=0∨l=0
  ·rw[if_pos h4]at hr
   subst hr
   by_cases g1:k=3
   ·have g3:l=0:=by omega
    subst g1;subst g3
    refine Sm ?_
    refine CallG.P _ Tryz.call272 (c3) ?_
    refine Sm ?_
    exact endF.V1 4 (.int .u64 (nanD:Nat))
   ·have g2:l=3:=by omega
    have g3:k=0:=by omega
    subst g2;subst g3
    refine Sm ?_
    refine CallG.P _ Tryz.call272 (c3) ?_
    refine Sm ?_
    exact endF.V1 4 (.int .u64 (nanD:Nat))
  ·rw[if_neg h4]at hr
   subst hr
   have d1:decide (k=0)=false:=decide_eq_false (by omega)
   have d2:decide (l=0)=false:=decide_eq_false (by omega)
   by_cases g1:k=3
   ·have e1:decide (k=3)=true:=decide_eq_true g1
    simp-implicitDefEqProofs+decide only[go_sem,e1,d1,d2]
    refine CallG.P _ Tryz.call187 (ci) ?_
    refine Sm ?_
    exact endF.V1 4 (.int .u64 (infD (!decide (s=t)):Nat))
   ·have e1:decide (k=3)=false:=decide_eq_false g1
    have e2:decide (l=3)=true:=decide_eq_true (by omega)
    simp-implicitDefEqProofs+decide only[go_sem,e1,e2,d1,d2]
    refine CallG.P _ Tryz.call187 (ci) ?_
    refine Sm ?_
    exact endF.V1 4 (.int .u64 (infD (!decide (s=t)):Nat))
 rw[if_neg h3]at hr
 have e1:decide (k=3)=false:=decide_eq_false (by omega)
 have e2:decide (l=3)=false:=decide_eq_false (by omega)
 have fa:=ka (by omega) h1
 have fb:=kb (by omega) h2
 have p1:=p1 fa
 have p2:=p2 fb
 have b1:=b1 fa
 have b2:=b2 fb
 have cm:=limbMul_ok m n (by omega) (by omega)
 have hp:m*n<81129638414606681695789005144064:=by
  have:=Nat.mul_lt_mul'' m1 m2
  exact this
 obtain⟨p,hpe⟩:∃p,m*n=p:=⟨_,rfl⟩
 rw[hpe]at cm hr hp
 have cl:=limbLen_ok (p/18446744073709551616) (by omega)
 have w1:IntKind.wrap .i64 (e+f)=e+f:=by rw[w64]<;>omega
 simp-implicitDefEqProofs+decide only[go_sem,e1,e2]
 refine CallG.P _ Tryz.call276 (p1) ?_
 refine Sm ?_
 refine CallG.P _ Tryz.call276 (p2) ?_
 refine Sm ?_
 refine CallG.P _ Tryz.call277 (cm) ?_
 refine Sm ?_
 refine CallG.P _ Tryz.call242 (cl) ?_
 have hlo:p%18446744073709551616<18446744073709551616:=Nat.mod_lt _ (by decide)
 simp-implicitDefEqProofs+decide only[go_sem,w1]
 apply selP_dec<;>intro h5
 ·have hz:p/18446744073709551616=0:=by
   rcases Nat.eq_zero_or_pos (p/18446744073709551616) with g|g
   ·exact g
   ·have:=(bitLen_bounds (show p/18446744073709551616≠0 by omega)).2.2;omega
  have hpp:p%18446744073709551616=p:=by omega
  have cw:=word_ok (!decide (s=t)) p (e+f) (by omega) (by omega) (by omega)
  rw[hr]at cw
  simp-implicitDefEqProofs+decide only[go_sem,hpp,w1]
  refine CallG.P _ Tryz.call251 (cw) ?_
  refine Sm ?_
  exact endF.V1 4 (.int .u64 (r:Nat))
 have hz:p/18446744073709551616≠0:=fun h=>h5 (by rw[h];rfl)
 have hb3:=bitLen_bounds hz
 have hs64:bitLen (p/18446744073709551616)≤64:=bitLen_le (by omega)
 obtain⟨q,hq⟩:∃q,bitLen (p/18446744073709551616)=q:=⟨_,rfl⟩
 rw[hq]at hb3 hs64 cl h5⊢
 have hh:=high_word (p:=p) hs64
 have hl:=low_word (p:=p) hs64
 have hbig:2^(q+54)≤p:=by
  have h6:2^(q-1)*18446744073709551616≤p/18446744073709551616*18446744073709551616:=Nat.mul_le_mul_right _ hb3.1
  have h7:2^(q+54)≤2^(q-1)*18446744073709551616:=by
   rw[show(18446744073709551616:Nat)=2^64 from rfl,←Nat.pow_add];exact Nat.pow_le_pow_right (by decide) (by omega)
  omega
 have hw64:p/2^q<18446744073709551616:=by
  refine(Nat.div_lt_iff_lt_mul (Nat.two_pow_pos _)).2 ?_
  have h6:(p/18446744073709551616+1)*18446744073709551616≤2^q*18446744073709551616:=Nat.mul_le_mul_right _ hb3.2.1
  rw[Nat.mul_comm (2^q)]at h6
  omega
 have hhl:p/18446744073709551616*2^(64-q)<18446744073709551616:=Nat.lt_of_le_of_lt (Nat.le_add_right _ (p%18446744073709551616/2^q)) (by rw[hh];exact hw64)
 have hmod:p/18446744073709551616*2^(64-q)%18446744073709551616=p/18446744073709551616*2^(64-q):=Nat.mod_eq_of_lt hhl
 have hlt:p%18446744073709551616/2^q<2^(64-q):=by
  refine(Nat.div_lt_iff_lt_mul (Nat.two_pow_pos _)).2 ?_
  rw[←Nat.pow_add,show 64-q+q=64 by omega];exact hlo
 have hor:=(or_add (p/18446744073709551616) (p%18446744073709551616/2^q) (64-q) hlt).trans hh
 have w2:IntKind.wrap .i64 (64-(q:Int))=((64-q:Nat):Int):=by rw[show 64-(q:Int)=((64-q:Nat):Int) by omega,w64]<;>omega
 have w3:IntKind.wrap .i64 (e+f+(q:Int))=e+f+(q:Int):=by rw[w64]<;>omega
 have hodd:∀y,y<18446744073709551616→y/2*2+1<18446744073709551616:=fun y hy=>by omega
 have hstk:stk p q<18446744073709551616:=by
  unfold stk
  split
  ·exact hw64
  ·exact hodd _ hw64
 have cw:=word_ok (!decide (s=t)) (stk p q) (e+f+(q:Int)) hstk (by omega) (by omega)
 rw[rnd_stk _ _ _ _ hbig,hr]at cw
 have huor:=uorG hor hhl (Nat.lt_of_le_of_lt (Nat.div_le_self _ _) hlo)
 refine Sm ?_
 refine Goes.drawN mixed ?_
 simp-implicitDefEqProofs+decide only[go_sem,w2,ushlN (p/18446744073709551616) (64-q) (by omega),hmod,ushrN (p%18446744073709551616) q (by omega),huor]
 refine⟨.mk (by kernel_rfl),?_⟩
 apply run_sound 200
 have d5:decide (((p%18446744073709551616*2^(64-q)%18446744073709551616:Nat):Int)≠0)=decide (¬p%2^q=0):=decide_eq_decide.2 (by rw[←hl];omega)
 simp-implicitDefEqProofs+decide only[go_sem,w2,ushlN (p%18446744073709551616) (64-q) (by omega),d5]
 apply selP_dec<;>intro h6
 ·have est:stk p q=p/2^q/2*2+1:=if_neg h6
  rw[est]at cw
  simp-implicitDefEqProofs+decide only[go_sem,uorO hw64,w1,w3]
  refine CallG.P _ Tryz.call251 (cw) ?_
  refine Sm ?_
  exact endF.V1 4 (.int .u64 (r:Nat))
 ·have est:stk p q=p/2^q:=if_pos (Classical.not_not.1 h6)
  rw[est]at cw
  simp-implicitDefEqProofs+decide only[go_sem,w1,w3]
  refine CallG.P _ Tryz.call251 (cw) ?_
  refine Sm ?_
  exact endF.V1 4 (.int .u64 (r:Nat))
def keyD (b:Nat):Int:=if 9223372036854775808≤b then-((b%9223372036854775808:Nat):Int) else (b%9223372036854775808:Nat)
def lessD (a b:Nat):Bool:=decide (kindD a≠4)&&decide (kindD b≠4)&&decide (keyD a<keyD b)
theorem fkey_ok (b:Nat) (hb:b<18446744073709551616):Pure Tryz.prog 257 [.int .u64 b] [.t (.int .i64 (keyD b))]:=by
 have c1:=fneg_ok b hb
 have h1:b*2%18446744073709551616/2=b%9223372036854775808:=by omega
 have w1:IntKind.wrap .i64 ((b%9223372036854775808:Nat):Int)=((b%9223372036854775808:Nat):Int):=by rw[w64]<;>omega
 have w2:IntKind.wrap .i64 (0-((b%9223372036854775808:Nat):Int))= -((b%9223372036854775808:Nat):Int):=by rw[w64]<;>omega
 unfold keyD
 refine Pure.I Tryz.func257 [2] ?_
 simp-implicitDefEqProofs+decide only[go_sem,i64half,h1,w1]
 refine CallG.P _ Tryz.call275 (c1) ?_
 unfold negD
 refine Sm ?_
 apply selP_dec<;>intro h
 ·rw[if_pos h]
  simp-implicitDefEqProofs+decide only[go_sem,w2]
  exact endF.V1 2 (.int .i64 (-((b%9223372036854775808:Nat):Int)))
 ·rw[if_neg h]
  refine Sm ?_
  exact endF.V1 2 (.int .i64 ((b%9223372036854775808:Nat):Int))
theorem fknown_ok (a b:Nat) (ha:a<18446744073709551616) (hb:b<18446744073709551616):Pure Tryz.prog 256 [.int .u64 a,.int .u64 b] [.t (.bool (decide (kindD a≠4)&&decide (kindD b≠4)))]:=by
 have c1:=kind_ok a ha
 have c2:=kind_ok b hb
 refine Pure.I Tryz.func256 [4] ?_
 refine Sm ?_
 refine CallG.P _ Tryz.call271 (c1) ?_
 refine Sm ?_
 by_cases h:kindD a=4
 ·have e1:decide (kindD a≠4)=false:=decide_eq_false (fun g=>g h)
  rw[e1]
  simp-implicitDefEqProofs+decide only[go_sem,e1]
  exact endF.V1 4 (.bool false)
 ·have e1:decide (kindD a≠4)=true:=decide_eq_true h
  rw[e1]
  simp-implicitDefEqProofs+decide only[go_sem,e1]
  refine CallG.P _ Tryz.call271 (c2) ?_
  refine Sm ?_
  exact endF.V1 4 (.bool (decide (kindD b≠4)))
theorem fless_ok (a b:Nat) (ha:a<18446744073709551616) (hb:b<18446744073709551616):Pure Tryz.prog 196 [.int .u64 a,.int .u64 b] [.t (.bool (lessD a b))]:=by
 have c1:=fknown_ok a b ha hb
 have c2:=fkey_ok a ha
 have c3:=fkey_ok b hb
 unfold lessD
 generalize (decide (kindD a≠4)&&decide (kindD b≠4))=c at*
 refine Pure.I Tryz.func196 [4] ?_
 refine Sm ?_
 refine CallG.P _ Tryz.call256 (c1) ?_
 cases c
 ·refine Sm ?_
  exact endF.V1 4 (.bool false)
 ·refine Sm ?_
  refine CallG.P _ Tryz.call257 (c2) ?_
  refine Sm ?_
  refine CallG.P _ Tryz.call257 (c3) ?_
  refine Sm ?_
  exact endF.V1 4 (.bool (decide (keyD a<keyD b)))
end Go.Fm
