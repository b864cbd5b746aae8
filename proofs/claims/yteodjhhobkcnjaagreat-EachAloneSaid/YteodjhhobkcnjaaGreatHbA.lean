/- Words of 64 bits: rules. -/
import Derived.Test.YteodjhhobkcnjaaGreatHaB
import Derived.Test.YteodjhhobkcnjaaGreatChecked
set_option linter.unusedVariables false
set_option linter.unusedSimpArgs false
namespace Go.Fm
theorem u64 (n:Int):IntKind.wrap .u64 n=n%18446744073709551616:=by simp[IntKind.wrap,IntKind.bits,IntKind.signed]
theorem uadd (a b:Nat):IntKind.wrap .u64 ((a:Int)+b)=(((a+b)%18446744073709551616:Nat):Int):=by rw[u64];omega
theorem umul (a b:Nat):IntKind.wrap .u64 ((a:Int)*b)=(((a*b)%18446744073709551616:Nat):Int):=by rw[u64,←Int.natCast_mul];generalize a*b=c;omega
theorem usub (a b:Nat) (h:b≤18446744073709551616):IntKind.wrap .u64 ((a:Int)-b)=(((a+(18446744073709551616-b))%18446744073709551616:Nat):Int):=by rw[u64];omega
theorem u01:IntKind.wrap .u64 ((0:Int)+1)=1:=by rw[u64];rfl
theorem u11:IntKind.wrap .u64 ((1:Int)+1)=2:=by rw[u64];rfl
theorem uand32 (a:Nat):IntKind.wrap .u64 ((BitVec.ofInt (IntKind.bits .u64) (a:Int)&&&BitVec.ofInt (IntKind.bits .u64) 4294967295).toNat:Int)=((a%4294967296:Nat):Int):=by
 rw[u64]
 have e:(BitVec.ofInt 64 (a:Int)&&&BitVec.ofInt 64 4294967295).toNat=a%4294967296:=by
  rw[BitVec.toNat_and]
  have h1:(BitVec.ofInt 64 (a:Int)).toNat=a%18446744073709551616:=by simp[BitVec.toNat_ofInt]
  have h2:(BitVec.ofInt 64 4294967295).toNat=2^32-1:=by decide
  rw[h1,h2,Nat.and_two_pow_sub_one_eq_mod]
  omega
 show((BitVec.ofInt 64 (a:Int)&&&BitVec.ofInt 64 4294967295).toNat:Int)%_=_
 rw[e];omega
theorem uor (a b:Nat) (ha:a<18446744073709551616) (hb:b<18446744073709551616):IntKind.wrap .u64 ((BitVec.ofInt (IntKind.bits .u64) (a:Int)|||BitVec.ofInt (IntKind.bits .u64) (b:Int)).toNat:Int)=((a|||b:Nat):Int):=by
 rw[u64]
 have e:(BitVec.ofInt 64 (a:Int)|||BitVec.ofInt 64 (b:Int)).toNat=a|||b:=by
  rw[BitVec.toNat_or]
  have h1:∀x:Nat,x<18446744073709551616→(BitVec.ofInt 64 (x:Int)).toNat=x:=fun x hx=>by simp[BitVec.toNat_ofInt];omega
  rw[h1 a ha,h1 b hb]
 have hlt:a|||b<2^64:=Nat.or_lt_two_pow (by omega) (by omega)
 show((BitVec.ofInt 64 (a:Int)|||BitVec.ofInt 64 (b:Int)).toNat:Int)%_=_
 rw[e];omega
theorem or_add (a b k:Nat) (hb:b<2^k):(a*2^k)|||b=a*2^k+b:=by
 rw[Nat.mul_comm];exact(Nat.two_pow_add_eq_or_of_lt hb a).symm
theorem ushl (a s:Nat) (h:s≤64):IntKind.wrap .u64 ((a:Int)*2^(min s (IntKind.bits .u64)))=((a*2^s%18446744073709551616:Nat):Int):=by
 rw[u64,show min s (IntKind.bits .u64)=s from Nat.min_eq_left h]
 have:(a:Int)*2^s=((a*2^s:Nat):Int):=by rw[Int.natCast_mul,Int.natCast_pow];rfl
 rw[this];generalize a*2^s=c;omega
theorem ushr (a s:Nat) (h:s≤64):Int.fdiv (a:Int) (2^(min s (IntKind.bits .u64)))=((a/2^s:Nat):Int):=by
 rw[show min s (IntKind.bits .u64)=s from Nat.min_eq_left h]
 have:(2:Int)^s=((2^s:Nat):Int):=by rw[Int.natCast_pow];rfl
 rw[this,Int.fdiv_eq_ediv_of_nonneg _ (Int.natCast_nonneg _)]
 exact(Int.natCast_ediv _ _).symm
theorem uquo (a b:Nat):IntKind.wrap .u64 (Int.tdiv (a:Int) b)=((a/b%18446744073709551616:Nat):Int):=by
 rw[u64,←Int.ofNat_tdiv];generalize a/b=c;omega
theorem urem (a b:Nat):Int.tmod (a:Int) b=((a%b:Nat):Int):=by rw[←Int.ofNat_tmod]
theorem uandM (a:Nat):IntKind.wrap .u64 ((@BitVec.toNat 64 (@HAnd.hAnd (BitVec 64) (BitVec 64) (BitVec 64) (@instHAndOfAndOp (BitVec (IntKind.bits .u64)) (@BitVec.instAndOp (IntKind.bits .u64))) (BitVec.ofInt 64 (a:Int)) (BitVec.ofInt 64 4294967295)):Nat):Int)=((a%4294967296:Nat):Int):=uand32 a
theorem uorM (a b:Nat) (ha:a<18446744073709551616) (hb:b<18446744073709551616):IntKind.wrap .u64 ((@BitVec.toNat 64 (@HOr.hOr (BitVec 64) (BitVec 64) (BitVec 64) (@instHOrOfOrOp (BitVec (IntKind.bits .u64)) (@BitVec.instOrOp (IntKind.bits .u64))) (BitVec.ofInt 64 (a:Int)) (BitVec.ofInt 64 (b:Int))):Nat):Int)=((a|||b:Nat):Int):=uor a b ha hb
theorem uor32 (a b:Nat) (hb:b<4294967296):IntKind.wrap .u64 ((@BitVec.toNat 64 (@HOr.hOr (BitVec 64) (BitVec 64) (BitVec 64) (@instHOrOfOrOp (BitVec (IntKind.bits .u64)) (@BitVec.instOrOp (IntKind.bits .u64))) (BitVec.ofInt 64 ((a*4294967296%18446744073709551616:Nat):Int)) (BitVec.ofInt 64 (b:Int))):Nat):Int)=((a*4294967296%18446744073709551616+b:Nat):Int):=by
 refine(uor _ b (Nat.mod_lt _ (by decide)) (by omega)).trans ?_
 rw[show a*4294967296%18446744073709551616=a%4294967296*2^32 by omega,or_add _ b 32 hb]
theorem ushrM (a:Nat):Int.fdiv (a:Int) (2^(min (Int.toNat 32) 64))=((a/4294967296:Nat):Int):=ushr a 32 (by decide)
theorem ushlM (a:Nat):IntKind.wrap .u64 ((a:Int)*2^(min (Int.toNat 32) 64))=((a*4294967296%18446744073709551616:Nat):Int):=ushl a 32 (by decide)
theorem ushrN (a s:Nat) (h:s≤64):Int.fdiv (a:Int) (2^(min s 64))=((a/2^s:Nat):Int):=ushr a s h
theorem ushlN (a s:Nat) (h:s≤64):IntKind.wrap .u64 ((a:Int)*2^(min s 64))=((a*2^s%18446744073709551616:Nat):Int):=ushl a s h
attribute [go_sem] uadd umul uandM ushrM ushlM uquo urem Int.toNat_natCast u01 u11
theorem SmW {a b:Prop} (h:b) (e:a=b:=by simp-implicitDefEqProofs+decide only[go_sem,tW,sW];rfl):a:=Eq.mpr e h
theorem SmV {a b:Prop} (h:b) (e:a=b:=by simp-implicitDefEqProofs+decide only[go_sem,sW];rfl):a:=Eq.mpr e h
theorem endF.twoI {t u:Nat} {k k':IntKind} {x y x' y':Int} {m':Nat} {e:Exit} {s:St} (he:e=.normal∨e=.ret) (hx:s.f t=.t (.int k x)) (hy:s.f u=.t (.int k' y)) (ex:x=x') (ey:y=y') (hh:∀l,Lab.pool l=true→s.h l=none) (hn:s.nxt=m'):
  endF [t,u] [.t (.int k x'),.t (.int k' y')] (fun _=>none) m' e s:=by
 subst ex;subst ey
 exact endF.two he hx rfl hy rfl (fun l hl=>(hh l hl).symm) hn
theorem endF.oneI {t:Nat} {k:IntKind} {x x':Int} {m':Nat} {e:Exit} {s:St} (he:e=.normal∨e=.ret) (hx:s.f t=.t (.int k x)) (ex:x=x') (hh:∀l,Lab.pool l=true→s.h l=none) (hn:s.nxt=m'):
  endF [t] [.t (.int k x')] (fun _=>none) m' e s:=by
 subst ex
 exact endF.one he hx rfl hh hn
def bitLen (x:Nat):Nat:=if x=0 then 0 else x.log2+1
theorem bitLen_eq {x n:Nat} (h:x/2^n=1):bitLen x=n+1:=by
 have hp:0<2^n:=Nat.two_pow_pos n
 have h1:2^n≤x:=by
  rcases Nat.lt_or_ge x (2^n) with h'|h'
  ·rw[Nat.div_eq_of_lt h']at h;omega
  ·exact h'
 have h2:x<2^(n+1):=by
  have:=Nat.div_add_mod x (2^n)
  have:=Nat.mod_lt x hp
  rw[h]at*
  rw[Nat.pow_succ];omega
 have h0:x≠0:=by omega
 unfold bitLen
 rw[if_neg h0,(Nat.log2_eq_iff h0).2 ⟨h1,h2⟩]
theorem i64half (a:Nat):Int.fdiv (a:Int) (2^(min (Int.toNat 1) 64))=((a/2:Nat):Int):=by
 rw[show min (Int.toNat 1) 64=1 from rfl,Int.fdiv_eq_ediv_of_nonneg _ (by decide)]
 exact(Int.natCast_ediv _ _).symm
attribute [go_sem] i64half
theorem endF.threeI {t u q:Nat} {k k':IntKind} {x y x' y':Int} {b:Bool} {m':Nat} {e:Exit} {s:St} (he:e=.normal∨e=.ret) (hx:s.f t=.t (.int k x)) (hy:s.f u=.t (.int k' y)) (hz:s.f q=.t (.bool b)) (ex:x=x') (ey:y=y') (hh:∀l,Lab.pool l=true→s.h l=none) (hn:s.nxt=m'):
  endF [t,u,q] [.t (.int k x'),.t (.int k' y'),.t (.bool b)] (fun _=>none) m' e s:=by
 subst ex;subst ey
 refine endF.mk (ws:=[]) (os:=[none,none,none]) (acc:=[]) [false,false,false] he rfl ?_ rfl (fun l hl=>(hh l hl).symm) hn
 have:finL (([t,u,q].map s.f).zip [false,false,false])=finL [(.t (.int k x),false),(.t (.int k' y),false),(.t (.bool b),false)]:=by rw[List.map_cons,List.map_cons,List.map_cons,hx,hy,hz];rfl
 rw[this];rfl
theorem bitLen_bounds {d:Nat} (h:d≠0):2^(bitLen d-1)≤d∧d<2^bitLen d∧0<bitLen d:=by
 unfold bitLen
 rw[if_neg h]
 exact⟨by simpa using Nat.log2_self_le h,Nat.lt_log2_self,Nat.succ_pos _⟩
theorem bitLen_le {d:Nat} (h:d<18446744073709551616):bitLen d≤64:=by
 by_cases h0:d=0
 ·subst h0;decide
 ·obtain⟨h1,h2,h3⟩:=bitLen_bounds h0
  rcases Nat.lt_or_ge 64 (bitLen d) with h'|h'
  ·have:2^64≤2^(bitLen d-1):=Nat.pow_le_pow_right (by decide) (by omega)
   omega
  ·exact h'
theorem div_norm (hi lo d s:Nat) (hd0:d≠0) (hhi:hi<d) (hlo:lo<18446744073709551616) (hd:d<18446744073709551616) (hs:s=64-bitLen d):
  s≤63∧9223372036854775808≤d*2^s∧d*2^s<18446744073709551616∧hi*2^s<18446744073709551616∧lo/2/2^(63-s)<2^s∧
   hi*2^s+lo/2/2^(63-s)<d*2^s∧(hi*2^s+lo/2/2^(63-s))*18446744073709551616+lo*2^s%18446744073709551616=(hi*18446744073709551616+lo)*2^s:=by
 obtain⟨h1,h2,h3⟩:=bitLen_bounds hd0
 have h4:=bitLen_le hd
 have hs63:s≤63:=by omega
 have e1:bitLen d=64-s:=by omega
 rw[e1]at h1 h2
 have hPR:2^(64-s)*2^s=18446744073709551616:=by rw[←Nat.pow_add,show 64-s+s=64 by omega]
 have hPR':2^(64-s-1)*2^s=9223372036854775808:=by rw[←Nat.pow_add,show 64-s-1+s=63 by omega]
 have hdd:lo/2/2^(63-s)=lo/2^(64-s):=by
  rw[Nat.div_div_eq_div_mul,show 2*2^(63-s)=2^(64-s) by rw[Nat.mul_comm,←Nat.pow_succ];congr 1;omega]
 rw[hdd]
 have hP:0<2^s:=Nat.two_pow_pos s
 have hR:0<2^(64-s):=Nat.two_pow_pos _
 have g1:9223372036854775808≤d*2^s:=by rw[←hPR'];exact Nat.mul_le_mul_right _ h1
 have g2:d*2^s<18446744073709551616:=by rw[←hPR];exact Nat.mul_lt_mul_of_pos_right h2 hP
 have g3:lo/2^(64-s)<2^s:=by rw[Nat.div_lt_iff_lt_mul hR,Nat.mul_comm,hPR];exact hlo
 have g4:(hi+1)*2^s≤d*2^s:=Nat.mul_le_mul_right _ hhi
 rw[Nat.add_mul,Nat.one_mul]at g4
 have g5:lo*2^s=lo/2^(64-s)*18446744073709551616+lo%2^(64-s)*2^s:=by
  conv=>lhs;rw[←Nat.div_add_mod lo (2^(64-s))]
  rw[Nat.add_mul,Nat.mul_comm (2^(64-s)),Nat.mul_assoc,hPR]
 have g6:lo%2^(64-s)*2^s<18446744073709551616:=by
  rw[←hPR];exact Nat.mul_lt_mul_of_pos_right (Nat.mod_lt _ hR) hP
 have g7:lo*2^s%18446744073709551616=lo%2^(64-s)*2^s:=by
  rw[g5,Nat.add_comm,Nat.add_mul_mod_self_right,Nat.mod_eq_of_lt g6]
 refine⟨hs63,g1,g2,Nat.lt_of_lt_of_le (Nat.lt_of_lt_of_le (Nat.lt_add_of_pos_right hP) g4) (Nat.le_of_lt g2),g3,Nat.lt_of_lt_of_le (Nat.add_lt_add_left g3 _) g4,?_⟩
 rw[g7,Nat.add_mul,Nat.add_mul,g5,Nat.add_assoc,Nat.mul_right_comm]
theorem div_join (N' d' a b q1 r1:Nat) (hd:0<d') (hN:N'=a*18446744073709551616+b) (h1:q1=(a*4294967296+b/4294967296)/d') (h2:r1=(a*4294967296+b/4294967296)%d'):
  q1*4294967296+(r1*4294967296+b%4294967296)/d'=N'/d'∧(r1*4294967296+b%4294967296)%d'=N'%d':=by
 have e1:=Nat.div_add_mod (a*4294967296+b/4294967296) d'
 rw[←h1,←h2]at e1
 have e2:N'=(r1*4294967296+b%4294967296)+q1*4294967296*d':=by
  have h3:(d'*q1+r1)*4294967296+b%4294967296=a*18446744073709551616+b:=by rw[e1];omega
  rw[hN,←h3,Nat.add_mul,Nat.mul_right_comm q1,Nat.mul_comm q1 d',Nat.add_assoc,Nat.add_comm]
 rw[e2,Nat.add_mul_div_right _ _ hd,Nat.add_mul_mod_self_right,Nat.add_comm]
 exact⟨rfl,rfl⟩
theorem div_back (N d s:Nat):N*2^s/(d*2^s)=N/d∧N*2^s%(d*2^s)/2^s=N%d:=by
 have hP:0<2^s:=Nat.two_pow_pos s
 exact⟨Nat.mul_div_mul_right _ _ hP,by rw[Nat.mul_mod_mul_right,Nat.mul_div_cancel _ hP]⟩
theorem ushl1 (a:Nat):IntKind.wrap .u64 ((a:Int)*2^(min (Int.toNat 1) 64))=((a*2%18446744073709551616:Nat):Int):=ushl a 1 (by decide)
attribute [go_sem] ushl1
def U (n:Nat):T:=.int .u64 n
def sW (l:List Nat):T:=.slice (l.map U)
def tW (l:List Nat):AV:=.t (sW l)
def WOK (l:List Nat):Prop:=∀x∈l,x<18446744073709551616
def nv:List Nat→Nat
 |[]=>0
 |x::r=>x+18446744073709551616*nv r
def sizeW:List Nat→Nat
 |[]=>0
 |x::r=>if sizeW r=0 then (if x=0 then 0 else 1) else sizeW r+1
def trimW (l:List Nat):List Nat:=l.take (sizeW l)
def wordsOf (n:Nat):List Nat:=if h:n=0 then [] else n%18446744073709551616::wordsOf (n/18446744073709551616)
termination_by n
decreasing_by omega
theorem getI {α:Type} {l:List α} {i:Nat} (h:i<l.length):∃x,l[i]?=some x:=⟨_,List.getElem?_eq_getElem h⟩
theorem take_map_r {α β:Type} (f:α→β) (l:List α) (k:Nat):(l.map f).take k=(l.take k).map f:=List.map_take.symm
theorem usAll (l:List Nat):((l.map U).all fun e=>e.cells.length==1)=true:=by simp[U,T.cells]
theorem noPtr_us (l:List Nat):noPtr (.slice (l.map U))=true:=by
 simp only[noPtr]
 rw[noPtrL_iff]
 intro t ht
 obtain⟨x,_,rfl⟩:=List.mem_map.1 ht
 rfl
theorem noPtr_sW (l:List Nat):noPtr (sW l)=true:=noPtr_us l
theorem flat_us (l:List Nat):flatRC (.own 1 (l.map U))=true:=by simp[flatRC,U,T.cells,flatT]
attribute [go_sem] usAll U Option.getD_some Option.getD_none Int.toNat_zero
theorem sizeW_le:∀l:List Nat,sizeW l≤l.length
 |[]=>Nat.le_refl _
 | x :: r => by
   have:=sizeW_le r
   unfold sizeW
   simp only[List.length_cons]
   split
   ·split<;>omega
   ·omega
theorem sizeW_above:∀(l:List Nat) (i x:Nat),sizeW l≤i→l[i]?=some x→x=0
 |[],i,x,_,h=>by simp at h
 | y :: r, i, x, hs, h => by
   unfold sizeW at hs
   cases i with
   | zero =>
     simp at h;subst h
     split at hs
     ·split at hs
      ·assumption
      ·omega
     ·omega
   | succ i =>
     simp at h
     refine sizeW_above r i x ?_ h
     split at hs<;>omega
theorem sizeW_top:∀l:List Nat,0<sizeW l→∃x,l[sizeW l-1]?=some x∧x≠0
 |[],h=>by simp[sizeW]at h
 | y :: r, h => by
   unfold sizeW at h⊢
   split
   ·rename_i h0
    rw[if_pos h0]at h
    split
    ·rename_i hy;rw[if_pos hy]at h;omega
    ·rename_i hy;exact⟨y,rfl,hy⟩
   ·rename_i h0
    obtain⟨x,h1,h2⟩:=sizeW_top r (by omega)
    exact⟨x,by rw[show sizeW r+1-1=(sizeW r-1)+1 by omega,List.getElem?_cons_succ];exact h1,h2⟩
theorem sizeW_unique {l:List Nat} {n:Nat} (hn:n≤l.length) (h0:∀i x,n≤i→l[i]?=some x→x=0) (h1:n=0∨∃x,l[n-1]?=some x∧x≠0):n=sizeW l:=by
 rcases Nat.lt_trichotomy n (sizeW l) with h|h|h
 ·obtain⟨x,k1,k2⟩:=sizeW_top l (by omega)
  exact absurd (h0 _ x (by omega) k1) k2
 ·exact h
 ·rcases h1 with rfl|⟨x,k1,k2⟩
  ·omega
  ·exact absurd (sizeW_above l _ x (by omega) k1) k2
theorem sizeW_cons (x:Nat) (r:List Nat):sizeW (x::r)=if sizeW r=0 then (if x=0 then 0 else 1) else sizeW r+1:=rfl
theorem trimW_cons (x:Nat) (r:List Nat):trimW (x::r)=if sizeW (x::r)=0 then [] else x::trimW r:=by
 unfold trimW
 split
 ·rename_i h;rw[h];rfl
 ·rename_i h
  have:sizeW (x::r)=sizeW r+1:=by
   rw[sizeW_cons]at h⊢
   split
   ·rename_i h0;rw[if_pos h0]at h;split
    ·rename_i hx;rw[if_pos hx]at h;exact absurd rfl h
    ·omega
   ·rfl
  rw[this,List.take_succ_cons]
theorem nv_zero:∀l:List Nat,sizeW l=0↔nv l=0
 |[]=>by simp[sizeW,nv]
 | x :: r => by
   have:=nv_zero r
   unfold sizeW nv
   by_cases h:sizeW r=0
   ·rw[if_pos h]
    have:=this.1 h
    by_cases hx:x=0
    ·simp[hx,this]
    ·simp[hx]
   ·rw[if_neg h]
    have:nv r≠0:=fun e=>h (this.2 e)
    omega
theorem trimW_eq:∀{l:List Nat},WOK l→trimW l=wordsOf (nv l)
 |[],_=>by rw[wordsOf];rfl
 | x :: r, h => by
   have hx:x<18446744073709551616:=h x (by simp)
   have ih:=trimW_eq (l:=r) fun y hy=>h y (by simp[hy])
   rw[trimW_cons,wordsOf]
   have hz:=nv_zero (x::r)
   by_cases h0:sizeW (x::r)=0
   ·rw[if_pos h0,dif_pos (hz.1 h0)]
   ·rw[if_neg h0,dif_neg fun e=>h0 (hz.2 e),ih]
    show _=(x+18446744073709551616*nv r)%18446744073709551616::wordsOf ((x+18446744073709551616*nv r)/18446744073709551616)
    rw[show(x+18446744073709551616*nv r)%18446744073709551616=x by omega,show(x+18446744073709551616*nv r)/18446744073709551616=nv r by omega]
theorem nv_wordsOf (n:Nat):nv (wordsOf n)=n:=by
 induction n using Nat.strongRecOn with
 | _ n ih =>
   rw[wordsOf]
   split
   ·rename_i h;rw[h];rfl
   ·rename_i h
    rw[nv,ih _ (by omega)]
    omega
theorem WOK_wordsOf (n:Nat):WOK (wordsOf n):=by
 induction n using Nat.strongRecOn with
 | _ n ih =>
   rw[wordsOf]
   split
   ·intro x hx;cases hx
   ·rename_i h
    intro x hx
    rcases List.mem_cons.1 hx with rfl|hx
    ·exact Nat.mod_lt _ (by decide)
    ·exact ih _ (by omega) x hx
theorem trim_wordsOf (n:Nat):trimW (wordsOf n)=wordsOf n:=by rw[trimW_eq (WOK_wordsOf n),nv_wordsOf]
theorem sizeW_len {l:List Nat} (h:WOK l):sizeW l=(wordsOf (nv l)).length:=by
 rw[←trimW_eq h,trimW,List.length_take,Nat.min_eq_left (sizeW_le l)]
theorem size_wordsOf (n:Nat):sizeW (wordsOf n)=(wordsOf n).length:=by rw[sizeW_len (WOK_wordsOf n),nv_wordsOf]
theorem nv_trim {l:List Nat} (h:WOK l):nv (trimW l)=nv l:=by rw[trimW_eq h,nv_wordsOf]
theorem nv_lt:∀{l:List Nat},WOK l→nv l<18446744073709551616^l.length
 |[],_=>by simp[nv]
 | x :: r, h => by
   have hx:x<18446744073709551616:=h x (by simp)
   have ih:=nv_lt (l:=r) fun y hy=>h y (by simp[hy])
   rw[nv,List.length_cons,Nat.pow_succ]
   have:(nv r+1)*18446744073709551616≤18446744073709551616^r.length*18446744073709551616:=Nat.mul_le_mul_right _ ih
   omega
theorem nv_append:∀(a b:List Nat),nv (a++b)=nv a+18446744073709551616^a.length*nv b
 |[],b=>by simp[nv]
 | x :: a, b => by
   rw[List.cons_append,nv,nv,nv_append a b,List.length_cons,Nat.pow_succ,Nat.mul_add,←Nat.mul_assoc,Nat.mul_comm 18446744073709551616 (18446744073709551616^a.length)]
   omega
theorem len_wordsOf {n k:Nat} (h:n<18446744073709551616^k):(wordsOf n).length≤k:=by
 induction k generalizing n with
 | zero => rw [Nat.pow_zero] at h; have : n = 0 := by omega
           subst this;rw[wordsOf];simp
 | succ k ih =>
   rw[wordsOf]
   split
   ·simp
   ·rw[List.length_cons]
    have:n/18446744073709551616<18446744073709551616^k:=by
     rw[Nat.div_lt_iff_lt_mul (by decide),←Nat.pow_succ];exact h
    have:=ih this
    omega
theorem endF.own {t:Nat} {lab:Lab} {v len size:Nat} {es:List T} {h':Heap} {m':Nat} {e:Exit} {s:St} (he:e=.normal∨e=.ret) (hx:s.f t=.sl lab v 0 len) (hl:s.h lab=some (.arr size es v 0)) (hlen:len=es.length) (hp:Lab.pool lab=false)
  (hh:∀l,Lab.pool l=true→h' l=s.h l) (hn:s.nxt=m'):endF [t] [.own size es] h' m' e s:=by
 subst hlen
 refine endF.mk (ws:=[]) (os:=[some lab]) (acc:=[lab]) [true] he rfl ?_ rfl hh hn
 have:finL (([t].map s.f).zip [true])=finL [(.sl lab v 0 es.length,true)]:=by rw[List.map_cons,hx];rfl
 rw[this]
 simp[finL,fin1,Rd.bind,Rd.run,hl,hp]
theorem flatRC_bool (b:Bool):flatRC (.t (.bool b))=true:=rfl
theorem selP_ndec {c:Prop} [Decidable c] {p q:HP} (h1:¬c→p.p) (h2:c→q.p):@selP (!decide c) p q:=⟨fun h=>h1 (by simpa using h),fun h=>h2 (by simpa using h)⟩
attribute [go_sem] List.all_cons List.all_nil noPtr_us noPtr_sW flat_us flatRC_bool Bool.and_self Bool.and_true Bool.true_and Bool.and_false Bool.false_and
def cmpI (a b:Nat):Int:=if a<b then-1 else if b<a then 1 else 0
theorem nv_split {l:List Nat} {i:Nat} (h:i≤l.length):nv l=nv (l.take i)+18446744073709551616^i*nv (l.drop i):=by
 conv=>lhs;rw[←List.take_append_drop i l]
 rw[nv_append,List.length_take,Nat.min_eq_left h]
theorem WOK.take {l:List Nat} (h:WOK l) (i:Nat):WOK (l.take i):=fun x hx=>h x (List.mem_of_mem_take hx)
theorem WOK.drop {l:List Nat} (h:WOK l) (i:Nat):WOK (l.drop i):=fun x hx=>h x (List.mem_of_mem_drop hx)
theorem WOK.get {l:List Nat} (h:WOK l) {i x:Nat} (hx:l[i]?=some x):x<18446744073709551616:=h x (List.mem_of_getElem? hx)
theorem dropC {α:Type} {l:List α} {j:Nat} {x:α} (h:l[j]?=some x):l.drop j=x::l.drop (j+1):=by
 have hlt:=(List.getElem?_eq_some_iff.1 h).1
 rw[List.drop_eq_getElem_cons hlt]
 rw[List.getElem?_eq_getElem hlt]at h
 rw[Option.some.inj h]
theorem nv_top_lt {a b:List Nat} {i x y:Nat} (ha:WOK a) (hx:a[i]?=some x) (hy:b[i]?=some y) (he:nv (a.drop (i+1))=nv (b.drop (i+1))) (h:x<y):nv a<nv b:=by
 have h1:=(List.getElem?_eq_some_iff.1 hx).1
 have h2:=(List.getElem?_eq_some_iff.1 hy).1
 rw[nv_split (Nat.le_of_lt h1),nv_split (Nat.le_of_lt h2),dropC hx,dropC hy,nv,nv,he]
 have h3:nv (a.take i)<18446744073709551616^i:=by
  have:=nv_lt (ha.take i)
  rwa [List.length_take,Nat.min_eq_left (Nat.le_of_lt h1)]at this
 have h4:18446744073709551616^i*(x+18446744073709551616*nv (b.drop (i+1))+1)≤18446744073709551616^i*(y+18446744073709551616*nv (b.drop (i+1))):=Nat.mul_le_mul_left _ (by omega)
 rw[Nat.mul_add,Nat.mul_one]at h4
 omega
theorem nv_size_lt {l:List Nat} (h:WOK l):nv l<18446744073709551616^sizeW l:=by
 have:=nv_lt (WOK.take h (sizeW l))
 rw[List.length_take,Nat.min_eq_left (sizeW_le l)]at this
 rwa [show l.take (sizeW l)=trimW l from rfl,nv_trim h]at this
theorem nv_size_ge {l:List Nat} (h:0<sizeW l):18446744073709551616^(sizeW l-1)≤nv l:=by
 obtain⟨x,h1,h2⟩:=sizeW_top l h
 have h3:=(List.getElem?_eq_some_iff.1 h1).1
 rw[nv_split (Nat.le_of_lt h3),dropC h1,nv]
 have:18446744073709551616^(sizeW l-1)*1≤18446744073709551616^(sizeW l-1)*(x+18446744073709551616*nv (l.drop (sizeW l-1+1))):=Nat.mul_le_mul_left _ (by omega)
 omega
theorem nv_size_cmp {a b:List Nat} (ha:WOK a) (h:sizeW a<sizeW b):nv a<nv b:=by
 have h1:=nv_size_lt ha
 have h2:=nv_size_ge (l:=b) (by omega)
 have h3:18446744073709551616^sizeW a≤18446744073709551616^(sizeW b-1):=Nat.pow_le_pow_right (by decide) (by omega)
 omega
theorem nv_drop_size {l:List Nat} {i:Nat} (h:sizeW l≤i):nv (l.drop i)=0:=by
 have key:∀m:List Nat,(∀x∈m,x=0)→nv m=0:=by
  intro m
  induction m with
  |nil=>intro _;rfl
  |cons x r ih=>intro h;rw[nv,h x (by simp),ih fun y hy=>h y (by simp[hy])]
 refine key _ fun x hx=> ?_
 obtain⟨j,hj⟩:=List.mem_iff_getElem?.1 hx
 rw[List.getElem?_drop]at hj
 exact sizeW_above l _ x (by omega) hj
theorem nv_drop_eq {a b:List Nat} {i x:Nat} (hx:a[i]?=some x) (hy:b[i]?=some x) (he:nv (a.drop (i+1))=nv (b.drop (i+1))):nv (a.drop i)=nv (b.drop i):=by
 rw[dropC hx,dropC hy,nv,nv,he]
end Go.Fm
namespace Go.Fm
theorem setU (l:List Nat) (i q:Nat):(l.map U).set i (T.int .u64 (q:Int))=(l.set i q).map U:=(List.map_set (f:=U)).symm
theorem replU (n:Nat):List.replicate n (T.int .u64 0)=(List.replicate n 0).map U:=by simp[U]
theorem drop_set_gt {α:Type} (l:List α) (i:Nat) (q:α):(l.set i q).drop (i+1)=l.drop (i+1):=by
 rw[List.drop_set_of_lt (Nat.lt_succ_self i)]
theorem WOK.set {l:List Nat} (h:WOK l) {i q:Nat} (hq:q<18446744073709551616):WOK (l.set i q):=fun x hx=>by
 rcases List.mem_or_eq_of_mem_set hx with h'|h'
 ·exact h x h'
 ·omega
theorem WOK.repl (n:Nat):WOK (List.replicate n 0):=fun x hx=>by rw[List.eq_of_mem_replicate hx];decide
theorem WOK.append {a b:List Nat} (ha:WOK a) (hb:WOK b):WOK (a++b):=fun x hx=>by
 rcases List.mem_append.1 hx with h|h
 ·exact ha x h
 ·exact hb x h
theorem nv_repl:∀n:Nat,nv (List.replicate n 0)=0
 |0=>rfl
 |n+1=>by rw[List.replicate_succ,nv,nv_repl n]
theorem bits_top {a:List Nat} (ha:WOK a) {x:Nat} (h0:0<sizeW a) (hx:a[sizeW a-1]?=some x):bitLen (nv a)=64*(sizeW a-1)+bitLen x:=by
 have hlt:=(List.getElem?_eq_some_iff.1 hx).1
 have hx0:x≠0:=by
  obtain⟨y,h1,h2⟩:=sizeW_top a h0
  rw[hx]at h1;cases h1;exact h2
 obtain⟨b1,b2,b3⟩:=bitLen_bounds hx0
 have hT:nv (a.take (sizeW a-1))<18446744073709551616^(sizeW a-1):=by
  have:=nv_lt (ha.take (sizeW a-1))
  rwa [List.length_take,Nat.min_eq_left (Nat.le_of_lt hlt)]at this
 have hP:0<18446744073709551616^(sizeW a-1):=Nat.pow_pos (by decide)
 have e:nv a/18446744073709551616^(sizeW a-1)=x:=by
  rw[nv_split (Nat.le_of_lt hlt),dropC hx,nv,nv_drop_size (show sizeW a≤sizeW a-1+1 by omega),Nat.mul_zero,Nat.add_zero,Nat.add_mul_div_left _ _ hP,Nat.div_eq_of_lt hT,Nat.zero_add]
 have e2:(18446744073709551616:Nat)^(sizeW a-1)=2^(64*(sizeW a-1)):=by rw[Nat.pow_mul]
 have:=bitLen_eq (x:=nv a) (n:=64*(sizeW a-1)+(bitLen x-1)) (by
   rw[Nat.pow_add,←Nat.div_div_eq_div_mul,←e2,e]
   have h1:x/2^(bitLen x-1)<2:=by
     rw[Nat.div_lt_iff_lt_mul (Nat.two_pow_pos _),Nat.mul_comm,←Nat.pow_succ,show(bitLen x-1).succ=bitLen x by omega]
     exact b2
   have h2:1≤x/2^(bitLen x-1):=by
     rw[Nat.le_div_iff_mul_le (Nat.two_pow_pos _),Nat.one_mul];exact b1
   omega)
 omega
theorem div_word {a out:List Nat} {i x d rest:Nat} (hx:a[i]?=some x) (hi:i<out.length) (he:nv (a.drop (i+1))=nv (out.drop (i+1))*d+rest):
  nv (a.drop i)=nv ((out.set i ((rest*18446744073709551616+x)/d)).drop i)*d+(rest*18446744073709551616+x)%d:=by
 have h1:(out.set i ((rest*18446744073709551616+x)/d))[i]?=some ((rest*18446744073709551616+x)/d):=by simp[hi]
 rw[dropC hx,dropC h1,drop_set_gt,nv,nv,he]
 have h2:=Nat.div_add_mod (rest*18446744073709551616+x) d
 generalize (rest*18446744073709551616+x)/d=q at h2⊢
 generalize (rest*18446744073709551616+x)%d=r at h2⊢
 rw[Nat.add_mul,Nat.mul_add,Nat.mul_assoc,Nat.mul_comm q d]
 generalize nv (out.drop (i+1))*d=z
 generalize d*q=y at h2⊢
 omega
theorem endF.ownTT {t u q:Nat} {lab:Lab} {v len size:Nat} {es:List T} {y z:T} {h':Heap} {m':Nat} {e:Exit} {s:St} (he:e=.normal∨e=.ret) (hx:s.f t=.sl lab v 0 len) (hl:s.h lab=some (.arr size es v 0)) (hlen:len=es.length) (hp:Lab.pool lab=false)
  (hy:s.f u=.t y) (hya:y.isAgg=false) (hz:s.f q=.t z) (hza:z.isAgg=false) (hh:∀l,Lab.pool l=true→h' l=s.h l) (hn:s.nxt=m'):endF [t,u,q] [.own size es,.t y,.t z] h' m' e s:=by
 subst hlen
 refine endF.mk (ws:=[]) (os:=[some lab,none,none]) (acc:=[lab]) [true,false,false] he rfl ?_ rfl hh hn
 have:finL (([t,u,q].map s.f).zip [true,false,false])=finL [(.sl lab v 0 es.length,true),(.t y,false),(.t z,false)]:=by rw[List.map_cons,List.map_cons,List.map_cons,hx,hy,hz];rfl
 rw[this]
 have e1:reify (.t y)=.ret (y,[]):=by cases y<;>first|rfl|cases hya
 have e2:reify (.t z)=.ret (z,[]):=by cases z<;>first|rfl|cases hza
 simp[finL,fin1,e1,e2,Rd.bind,Rd.run,hl,hp]
theorem nv_take_succ {a:List Nat} {i x:Nat} (hx:a[i]?=some x):nv (a.take (i+1))=nv (a.take i)+18446744073709551616^i*x:=by
 have hlt:=(List.getElem?_eq_some_iff.1 hx).1
 rw[List.take_add_one,hx]
 simp only[Option.toList_some]
 rw[nv_append,List.length_take,Nat.min_eq_left (Nat.le_of_lt hlt)]
 simp[nv]
theorem shl_word (x b:Nat) (hb:b≤63) (hx:x<18446744073709551616):x*2^b%18446744073709551616=x%2^(64-b)*2^b∧x/2/2^(63-b)=x/2^(64-b)∧x/2^(64-b)<2^b∧
  x%2^(64-b)*2^b+18446744073709551616*(x/2^(64-b))=x*2^b∧x%2^(64-b)*2^b+2^b≤18446744073709551616:=by
 have hPR:2^(64-b)*2^b=18446744073709551616:=by rw[←Nat.pow_add,show 64-b+b=64 by omega]
 have hP:0<2^b:=Nat.two_pow_pos b
 have hR:0<2^(64-b):=Nat.two_pow_pos _
 have g5:x*2^b=x/2^(64-b)*18446744073709551616+x%2^(64-b)*2^b:=by
  conv=>lhs;rw[←Nat.div_add_mod x (2^(64-b))]
  rw[Nat.add_mul,Nat.mul_comm (2^(64-b)),Nat.mul_assoc,hPR]
 have g7:(x%2^(64-b)+1)*2^b≤2^(64-b)*2^b:=Nat.mul_le_mul_right _ (Nat.mod_lt _ hR)
 rw[hPR,Nat.add_mul,Nat.one_mul]at g7
 refine⟨?_,?_,?_,?_,g7⟩
 ·rw[g5,Nat.add_comm,Nat.add_mul_mod_self_right,Nat.mod_eq_of_lt (by omega)]
 ·rw[Nat.div_div_eq_div_mul,show 2*2^(63-b)=2^(64-b) by rw[Nat.mul_comm,←Nat.pow_succ];congr 1;omega]
 ·rw[Nat.div_lt_iff_lt_mul hR,Nat.mul_comm,hPR];exact hx
 ·rw[g5,Nat.mul_comm 18446744073709551616];omega
theorem shl_step {a out:List Nat} {i x c w b:Nat} (hx:a[i]?=some x) (hb:b≤63) (hxl:x<18446744073709551616) (ho:out.length=w+i) (he:nv out+18446744073709551616^(w+i)*c=nv (a.take i)*(18446744073709551616^w*2^b)):
  nv (out++[x%2^(64-b)*2^b+c])+18446744073709551616^(w+(i+1))*(x/2^(64-b))=nv (a.take (i+1))*(18446744073709551616^w*2^b):=by
 obtain⟨_,_,_,h4,_⟩:=shl_word x b hb hxl
 rw[nv_append,ho,nv_take_succ hx,Nat.add_mul,←he]
 simp only[nv,Nat.mul_zero,Nat.add_zero]
 have e1:18446744073709551616^i*x*(18446744073709551616^w*2^b)=18446744073709551616^(w+i)*(x*2^b):=by
  rw[Nat.pow_add];ac_rfl
 have e2:18446744073709551616^(w+(i+1))*(x/2^(64-b))=18446744073709551616^(w+i)*(18446744073709551616*(x/2^(64-b))):=by
  rw[←Nat.add_assoc,Nat.pow_succ,Nat.mul_assoc]
 rw[e1,e2,←h4,Nat.mul_add,Nat.mul_add]
 omega
theorem shr_step {a out:List Nat} {i x y w b:Nat} (hx:a[i]?=some x) (hy:y=(a[i+1]?).getD 0) (hb:b≤63) (hxl:x<18446744073709551616) (hyl:y<18446744073709551616) (ho:out.length=i-w) (hw:w≤i)
  (he:nv out+18446744073709551616^(i-w)*(nv (a.drop i)/2^b)=nv (a.drop w)/2^b):
  nv (out++[x/2^b+y%2^b*2^(64-b)%18446744073709551616])+18446744073709551616^(i+1-w)*(nv (a.drop (i+1))/2^b)=nv (a.drop w)/2^b:=by
 rw[←he,nv_append,ho,show i+1-w=(i-w)+1 by omega,Nat.pow_succ,Nat.mul_assoc,Nat.add_assoc,←Nat.mul_add]
 congr 2
 rw[dropC hx,nv]
 simp only[nv,Nat.mul_zero,Nat.add_zero]
 have hP:0<2^b:=Nat.two_pow_pos b
 have hPR:2^(64-b)*2^b=18446744073709551616:=by rw[←Nat.pow_add,show 64-b+b=64 by omega]
 -- the next words
 have hD:∃D,nv (a.drop (i+1))=y+18446744073709551616*D:=by
  cases h:a[i+1]? with
  | none =>
    rw[h]at hy;subst hy
    rw[List.drop_of_length_le (by simpa using h)]
    exact⟨0,rfl⟩
  | some z =>
    rw[h]at hy;subst hy
    rw[dropC h]
    exact⟨_,rfl⟩
 obtain⟨D,hD⟩:=hD
 have hym:y%2^b*2^(64-b)<18446744073709551616:=by
  rw[←hPR,Nat.mul_comm (2^(64-b))]
  exact Nat.mul_lt_mul_of_pos_right (Nat.mod_lt _ hP) (Nat.two_pow_pos _)
 rw[Nat.mod_eq_of_lt hym,hD]
 have hmod:(y+18446744073709551616*D)%2^b=y%2^b:=by
  rw[←hPR,Nat.mul_comm (2^(64-b)),Nat.mul_assoc,Nat.add_mul_mod_self_left]
 have hM:=Nat.div_add_mod (y+18446744073709551616*D) (2^b)
 rw[hmod]at hM
 rw[←hM]
 generalize (y+18446744073709551616*D)/2^b=q
 have e1:x+18446744073709551616*(2^b*q+y%2^b)=x+2^b*(y%2^b*2^(64-b)+18446744073709551616*q):=by
  rw[Nat.mul_add,Nat.mul_add]
  have a1:18446744073709551616*(2^b*q)=2^b*(18446744073709551616*q):=by ac_rfl
  have a2:18446744073709551616*(y%2^b)=2^b*(y%2^b*2^(64-b)):=by rw[←hPR];ac_rfl
  rw[a1,a2];omega
 rw[e1,Nat.add_mul_div_left _ _ hP,Nat.mul_add_div hP,Nat.div_eq_of_lt (Nat.mod_lt _ hP),Nat.add_zero]
 omega
theorem two_sub (hi mid P:Nat) (h:P≤hi*18446744073709551616+mid) (hm:mid<18446744073709551616) (hh:hi<18446744073709551616):
  (mid+(18446744073709551616+18446744073709551616-P%18446744073709551616-0))%18446744073709551616=(hi*18446744073709551616+mid-P)%18446744073709551616∧
  2-(mid+(18446744073709551616+18446744073709551616-P%18446744073709551616-0))/18446744073709551616<18446744073709551616∧
  (hi+(18446744073709551616+18446744073709551616-P/18446744073709551616-(2-(mid+(18446744073709551616+18446744073709551616-P%18446744073709551616-0))/18446744073709551616)))%18446744073709551616=(hi*18446744073709551616+mid-P)/18446744073709551616∧
  (hi*18446744073709551616+mid-P)/18446744073709551616<18446744073709551616:=by omega
theorem correct_le {q hi mid lo top next D:Nat} (hD:q*top+D=hi*18446744073709551616+mid) (h:q*next≤D*18446744073709551616+lo):
  q*(top*18446744073709551616+next)≤hi*18446744073709551616*18446744073709551616+mid*18446744073709551616+lo:=by
 rw[Nat.mul_add,←Nat.mul_assoc,←Nat.add_mul,←hD,Nat.add_mul,Nat.add_assoc]
 exact Nat.add_le_add_left h _
theorem correct_gt {q hi mid lo top next D:Nat} (hD:q*top+D=hi*18446744073709551616+mid) (h:D*18446744073709551616+lo<q*next):
  hi*18446744073709551616*18446744073709551616+mid*18446744073709551616+lo<q*(top*18446744073709551616+next):=by
 rw[Nat.mul_add,←Nat.mul_assoc,←Nat.add_mul,←hD,Nat.add_mul,Nat.add_assoc]
 exact Nat.add_lt_add_left h _
def corr (q hi mid lo top next:Nat):Nat:=min q ((hi*18446744073709551616*18446744073709551616+mid*18446744073709551616+lo)/(top*18446744073709551616+next))
def guessN (hi mid lo top next:Nat):Nat:=if top≤hi then corr 18446744073709551615 hi mid lo top next else corr ((hi*18446744073709551616+mid)/top) hi mid lo top next
theorem corr_lt {q hi mid lo top next:Nat} (h:q<18446744073709551616):corr q hi mid lo top next<18446744073709551616:=Nat.lt_of_le_of_lt (Nat.min_le_left _ _) h
theorem guess_q {hi mid top:Nat} (h:hi<top) (hm:mid<18446744073709551616):(hi*18446744073709551616+mid)/top<18446744073709551616:=by
 rw[Nat.div_lt_iff_lt_mul (by omega)]
 have:(hi+1)*18446744073709551616≤top*18446744073709551616:=Nat.mul_le_mul_right _ h
 omega
theorem guessN_lt {hi mid lo top next:Nat} (hm:mid<18446744073709551616):guessN hi mid lo top next<18446744073709551616:=by
 unfold guessN
 split
 ·exact corr_lt (by decide)
 ·exact corr_lt (guess_q (by omega) hm)
end Go.Fm
namespace Go.Fm
theorem pool_arg (i:Nat):Lab.pool (.arg i)=true:=rfl
attribute [go_sem] pool_arg Bool.true_or
theorem upd_self {α β:Type} [DecidableEq α] {f:α→β} {a:α} {b:β} (h:f a=b):upd f a b=f:=by
 funext x;unfold upd;split
 ·rename_i e;rw[e,h]
 ·rfl
theorem Keeps.row {h:Heap} {k sz v frz frz':Nat} {es es':List T} (h1:h (.arg k)=some (.arr sz es v frz)) (hl:es.length≤es'.length):Keeps h (upd h (.arg k) (some (.arr sz es' v frz'))):=by
 refine⟨fun id cs hc=>⟨cs,by rw[upd_ne _ _ _ _ (by simp)];exact hc⟩,fun i o ho=> ?_⟩
 by_cases e:i=k
 ·subst e
  rw[h1]at ho;cases ho
  exact⟨_,upd_same _ _ _,_,_,rfl,hl⟩
 ·exact⟨o,by rw[upd_ne _ _ _ _ (by simpa using e)];exact ho,ArgStep.refl _⟩
theorem upd_pool {h:Heap} {k:Nat} {o:Option Obj} (hb:∀l,Lab.pool l=false→h l=none):∀l,Lab.pool l=false→upd h (.arg k) o l=none:=fun l hl=>by
 rw[upd_ne _ _ _ _ (fun e=>by subst e;cases hl)];exact hb l hl
def takeGo:List Nat→List Nat→Nat→Nat→Nat→Nat→List Nat×Nat×Nat
 |[],u,_,_,c,un=>(u,c,un)
 | y :: r, u, j, q, c, un => takeGo r (u.set j ((u.getD j 0 + (18446744073709551616 + 18446744073709551616 - (y * q % 18446744073709551616 + c + 0) % 18446744073709551616 - un)) % 18446744073709551616)) (j + 1) q
   ((y*q/18446744073709551616+(y*q%18446744073709551616+c+0)/18446744073709551616)%18446744073709551616)
   (2-(u.getD j 0+(18446744073709551616+18446744073709551616-(y*q%18446744073709551616+c+0)%18446744073709551616-un))/18446744073709551616)
def lastTake (t:List Nat×Nat×Nat) (j:Nat):List Nat×Nat:=
 (t.1.set j ((t.1.getD j 0+(18446744073709551616+18446744073709551616-t.2.1-t.2.2))%18446744073709551616),2-(t.1.getD j 0+(18446744073709551616+18446744073709551616-t.2.1-t.2.2))/18446744073709551616)
def takeN (v u:List Nat) (j q:Nat):List Nat×Nat:=lastTake (takeGo v u j q 0 0) (j+v.length)
def backGo:List Nat→List Nat→Nat→Nat→List Nat×Nat
 |[],u,_,o=>(u,o)
 |y::r,u,j,o=>backGo r (u.set j ((u.getD j 0+y+o)%18446744073709551616)) (j+1) ((u.getD j 0+y+o)/18446744073709551616)
def backN (v u:List Nat) (j:Nat):List Nat:=(backGo v u j 0).1.set (j+v.length) (((backGo v u j 0).1.getD (j+v.length) 0+(backGo v u j 0).2)%18446744073709551616)
theorem takeGo_length:∀(v u:List Nat) (j q c un:Nat),(takeGo v u j q c un).1.length=u.length
 |[],_,_,_,_,_=>rfl
 |y::r,u,j,q,c,un=>by rw[takeGo,takeGo_length];simp
theorem takeN_length (v u:List Nat) (j q:Nat):(takeN v u j q).1.length=u.length:=by
 unfold takeN lastTake;simp[takeGo_length]
theorem backGo_length:∀(v u:List Nat) (j o:Nat),(backGo v u j o).1.length=u.length
 |[],_,_,_=>rfl
 |y::r,u,j,o=>by rw[backGo,backGo_length];simp
theorem backN_length (v u:List Nat) (j:Nat):(backN v u j).length=u.length:=by
 unfold backN;simp[backGo_length]
theorem nv_set {u:List Nat} {i a d:Nat} (h:u[i]?=some a):nv (u.set i d)+18446744073709551616^i*a=nv u+18446744073709551616^i*d:=by
 have hlt:=(List.getElem?_eq_some_iff.1 h).1
 have h1:(u.set i d)[i]?=some d:=by simp[hlt]
 rw[nv_split (l:=u.set i d) (i:=i) (by simp;omega),nv_split (l:=u) (i:=i) (by omega),dropC h1,dropC h,drop_set_gt,nv,nv,List.take_set_of_le (Nat.le_refl _),Nat.mul_add,Nat.mul_add]
 omega
theorem take_word (a y q c un:Nat) (ha:a<18446744073709551616) (hy:y<18446744073709551616) (hq:q<18446744073709551616) (hc:c<18446744073709551616) (hun:un≤1):
  ∃d b c',(a+(18446744073709551616+18446744073709551616-(y*q%18446744073709551616+c+0)%18446744073709551616-un))%18446744073709551616=d∧
   2-(a+(18446744073709551616+18446744073709551616-(y*q%18446744073709551616+c+0)%18446744073709551616-un))/18446744073709551616=b∧
   (y*q/18446744073709551616+(y*q%18446744073709551616+c+0)/18446744073709551616)%18446744073709551616=c'∧d<18446744073709551616∧b≤1∧c'<18446744073709551616∧d+q*y+c+un=a+18446744073709551616*(c'+b):=by
 have hp:y*q≤18446744073709551615*18446744073709551615:=Nat.mul_le_mul (by omega) (by omega)
 rw[Nat.mul_comm q y]
 generalize y*q=p at hp⊢
 exact⟨_,_,_,rfl,rfl,rfl,by omega,by omega,by omega,by omega⟩
theorem takeGo_spec:∀(v u:List Nat) (j q c un:Nat),WOK v→WOK u→j+v.length≤u.length→q<18446744073709551616→c<18446744073709551616→un≤1→
  nv (takeGo v u j q c un).1+18446744073709551616^j*(q*nv v+c+un)=nv u+18446744073709551616^(j+v.length)*((takeGo v u j q c un).2.1+(takeGo v u j q c un).2.2)∧WOK (takeGo v u j q c un).1∧(takeGo v u j q c un).2.1<18446744073709551616∧(takeGo v u j q c un).2.2≤1∧
   (takeGo v u j q c un).1.drop (j+v.length)=u.drop (j+v.length)∧(takeGo v u j q c un).1.take j=u.take j
 |[],u,j,q,c,un,_,hu,_,_,hc,hun=>by simp[takeGo,nv,hu,hc,hun,Nat.add_assoc]
 | y :: r, u, j, q, c, un, hv, hu, hj, hq, hc, hun => by
   rw[List.length_cons]at hj
   obtain⟨a,ha⟩:=getI (show j<u.length by omega)
   have hgd:u.getD j 0=a:=by simp[List.getD,ha]
   obtain⟨d,b,c',e1,e2,e3,e4,e5,e6,e7⟩:=take_word a y q c un (hu.get ha) (hv y (by simp)) hq hc hun
   rw[takeGo,hgd,e1,e2,e3]
   obtain⟨i1,i2,i3,i4,i5,i6⟩:=takeGo_spec r (u.set j d) (j+1) q c' b (fun x hx=>hv x (by simp[hx])) (hu.set e4) (by simp;omega) hq e6 e5
   have hs:=nv_set (d:=d) ha
   rw[List.length_cons,show j+(r.length+1)=j+1+r.length by omega]
   refine⟨?_,i2,i3,i4,?_,?_⟩
   ·generalize (takeGo r (u.set j d) (j+1) q c' b).1=t1 at*
    generalize (takeGo r (u.set j d) (j+1) q c' b).2.1+(takeGo r (u.set j d) (j+1) q c' b).2.2=t2 at*
    generalize nv (u.set j d)=us at*
    have hP:18446744073709551616^(j+1)=18446744073709551616^j*18446744073709551616:=Nat.pow_succ _ _
    rw[hP]at i1
    generalize 18446744073709551616^j=P at*
    generalize 18446744073709551616^(j+1+r.length)=R at*
    have h1:=congrArg (P* ·) e7
    simp only[Nat.mul_add]at h1
    rw[nv]
    simp only[Nat.mul_add]at i1⊢
    have a1:P*(q*(18446744073709551616*nv r))=P*18446744073709551616*(q*nv r):=by ac_rfl
    have a2:P*(18446744073709551616*c')=P*18446744073709551616*c':=by ac_rfl
    have a3:P*(18446744073709551616*b)=P*18446744073709551616*b:=by ac_rfl
    rw[a1]
    rw[a2,a3]at h1
    omega
   ·rw[i5,List.drop_set_of_lt (by omega)]
   ·have:=congrArg (List.take j) i6
    rw[List.take_take,List.take_take,Nat.min_eq_left (by omega),List.take_set_of_le (Nat.le_refl _)]at this
    exact this
theorem takeN_spec {v u:List Nat} {j q:Nat} (hv:WOK v) (hu:WOK u) (hj:j+v.length<u.length) (hq:q<18446744073709551616):
  nv (takeN v u j q).1+18446744073709551616^j*(q*nv v)=nv u+18446744073709551616^(j+v.length+1)*(takeN v u j q).2∧WOK (takeN v u j q).1∧(takeN v u j q).2≤1∧
   (takeN v u j q).1.drop (j+v.length+1)=u.drop (j+v.length+1)∧(takeN v u j q).1.take j=u.take j:=by
 obtain⟨i1,i2,i3,i4,i5,i6⟩:=takeGo_spec v u j q 0 0 hv hu (by omega) hq (by decide) (by decide)
 have hlen:=takeGo_length v u j q 0 0
 unfold takeN lastTake
 generalize takeGo v u j q 0 0=t at*
 obtain⟨t1,c,un⟩:=t
 dsimp only at*
 obtain⟨a,ha⟩:=getI (show j+v.length<t1.length by omega)
 have hgd:t1.getD (j+v.length) 0=a:=by simp[List.getD,ha]
 have hal:=i2.get ha
 rw[hgd]
 obtain⟨d,hd⟩:∃d,(a+(18446744073709551616+18446744073709551616-c-un))%18446744073709551616=d:=⟨_,rfl⟩
 obtain⟨b,hb⟩:∃b,2-(a+(18446744073709551616+18446744073709551616-c-un))/18446744073709551616=b:=⟨_,rfl⟩
 rw[hd,hb]
 have e:d+c+un=a+18446744073709551616*b:=by omega
 have hs:=nv_set (d:=d) ha
 refine⟨?_,i2.set (by omega),by omega,?_,?_⟩
 ·have hP:18446744073709551616^(j+v.length+1)=18446744073709551616^(j+v.length)*18446744073709551616:=Nat.pow_succ _ _
  rw[hP]
  generalize 18446744073709551616^(j+v.length)=P at*
  have h1:=congrArg (P* ·) e
  simp only[Nat.mul_add]at h1 i1
  have a3:P*(18446744073709551616*b)=P*18446744073709551616*b:=by ac_rfl
  rw[a3]at h1
  simp only[Nat.mul_zero,Nat.add_zero]at i1
  omega
 ·rw[drop_set_gt]
  have:=congrArg (List.drop 1) i5
  rwa [List.drop_drop,List.drop_drop]at this
 ·rw[List.take_set_of_le (by omega)];exact i6
theorem backGo_spec:∀(v u:List Nat) (j o:Nat),WOK v→WOK u→j+v.length≤u.length→o≤1→
  nv (backGo v u j o).1+18446744073709551616^(j+v.length)*(backGo v u j o).2=nv u+18446744073709551616^j*(nv v+o)∧WOK (backGo v u j o).1∧(backGo v u j o).2≤1∧
   (backGo v u j o).1.drop (j+v.length)=u.drop (j+v.length)∧(backGo v u j o).1.take j=u.take j
 |[],u,j,o,_,hu,_,ho=>by simp[backGo,nv,hu,ho]
 | y :: r, u, j, o, hv, hu, hj, ho => by
   rw[List.length_cons]at hj
   obtain⟨a,ha⟩:=getI (show j<u.length by omega)
   have hgd:u.getD j 0=a:=by simp[List.getD,ha]
   have hal:=hu.get ha
   have hyl:=hv y (by simp)
   rw[backGo,hgd]
   obtain⟨d,hd⟩:∃d,(a+y+o)%18446744073709551616=d:=⟨_,rfl⟩
   obtain⟨b,hb⟩:∃b,(a+y+o)/18446744073709551616=b:=⟨_,rfl⟩
   rw[hd,hb]
   have e:d+18446744073709551616*b=a+y+o:=by omega
   obtain⟨i1,i2,i3,i4,i5⟩:=backGo_spec r (u.set j d) (j+1) b (fun x hx=>hv x (by simp[hx])) (hu.set (by omega)) (by simp;omega) (by omega)
   have hs:=nv_set (d:=d) ha
   rw[List.length_cons,show j+(r.length+1)=j+1+r.length by omega]
   refine⟨?_,i2,i3,?_,?_⟩
   ·generalize (backGo r (u.set j d) (j+1) b).1=t1 at*
    generalize (backGo r (u.set j d) (j+1) b).2=t2 at*
    generalize nv (u.set j d)=us at*
    have hP:18446744073709551616^(j+1)=18446744073709551616^j*18446744073709551616:=Nat.pow_succ _ _
    rw[hP]at i1
    generalize 18446744073709551616^j=P at*
    generalize 18446744073709551616^(j+1+r.length)=R at*
    have h1:=congrArg (P* ·) e
    simp only[Nat.mul_add]at h1
    rw[nv]
    simp only[Nat.mul_add]at i1⊢
    have a1:P*(18446744073709551616*nv r)=P*18446744073709551616*nv r:=by ac_rfl
    have a3:P*(18446744073709551616*b)=P*18446744073709551616*b:=by ac_rfl
    rw[a1]
    rw[a3]at h1
    omega
   ·rw[i4,List.drop_set_of_lt (by omega)]
   ·have:=congrArg (List.take j) i5
    rw[List.take_take,List.take_take,Nat.min_eq_left (by omega),List.take_set_of_le (Nat.le_refl _)]at this
    exact this
theorem backN_spec {v u:List Nat} {j:Nat} (hv:WOK v) (hu:WOK u) (hj:j+v.length<u.length):
  ∃o,o≤1∧nv (backN v u j)+18446744073709551616^(j+v.length+1)*o=nv u+18446744073709551616^j*nv v∧WOK (backN v u j)∧(backN v u j).drop (j+v.length+1)=u.drop (j+v.length+1)∧(backN v u j).take j=u.take j:=by
 obtain⟨i1,i2,i3,i4,i5⟩:=backGo_spec v u j 0 hv hu (by omega) (by decide)
 have hlen:=backGo_length v u j 0
 unfold backN
 generalize backGo v u j 0=t at*
 obtain⟨t1,c⟩:=t
 dsimp only at*
 obtain⟨a,ha⟩:=getI (show j+v.length<t1.length by omega)
 have hgd:t1.getD (j+v.length) 0=a:=by simp[List.getD,ha]
 have hal:=i2.get ha
 rw[hgd]
 obtain⟨d,hd⟩:∃d,(a+c)%18446744073709551616=d:=⟨_,rfl⟩
 obtain⟨b,hb⟩:∃b,(a+c)/18446744073709551616=b:=⟨_,rfl⟩
 rw[hd]
 have e:d+18446744073709551616*b=a+c:=by omega
 have hs:=nv_set (d:=d) ha
 refine⟨b,by omega,?_,i2.set (by omega),?_,?_⟩
 ·have hP:18446744073709551616^(j+v.length+1)=18446744073709551616^(j+v.length)*18446744073709551616:=Nat.pow_succ _ _
  rw[hP]
  generalize 18446744073709551616^(j+v.length)=P at*
  have h1:=congrArg (P* ·) e
  simp only[Nat.mul_add]at h1
  have a3:P*(18446744073709551616*b)=P*18446744073709551616*b:=by ac_rfl
  rw[a3]at h1
  rw[Nat.add_zero]at i1
  omega
 ·rw[drop_set_gt]
  have:=congrArg (List.drop 1) i4
  rwa [List.drop_drop,List.drop_drop]at this
 ·rw[List.take_set_of_le (by omega)];exact i5
theorem guess_lin (V2 V' M U3 X' top next hi mid lo:Nat) (hM:0<M) (hV':V'<M) (hX':X'<M) (eV:V2=top*18446744073709551616+next) (eU:U3=hi*18446744073709551616*18446744073709551616+mid*18446744073709551616+lo)
  (htop:top<18446744073709551616) (hnext:next<18446744073709551616) (h0:0<top) (hhi:hi<18446744073709551616) (hmid:mid<18446744073709551616) (hlo:lo<18446744073709551616)
  (hX:U3*M+X'<18446744073709551616*(V2*M+V')):
  hi≤top∧(U3*M+X')/(V2*M+V')≤guessN hi mid lo top next∧guessN hi mid lo top next≤(U3*M+X')/(V2*M+V')+1:=by
 have hV2:0<V2:=by omega
 have hVpos:0<V2*M+V':=Nat.lt_of_lt_of_le (Nat.mul_pos hV2 hM) (Nat.le_add_right _ _)
 -- the window's first three words against the divisor's first two
 have k1:∀Q:Nat,Q*(V2*M+V')≤U3*M+X'→Q*V2≤U3:=fun Q hQ=>by
  have h1:Q*V2*M≤U3*M+X':=Nat.le_trans (by rw[Nat.mul_add,Nat.mul_assoc];exact Nat.le_add_right _ _) hQ
  have h2:Q*V2*M<(U3+1)*M:=by rw[Nat.add_mul,Nat.one_mul];omega
  have:=Nat.lt_of_mul_lt_mul_right h2
  omega
 have hQle:=Nat.div_mul_le_self (U3*M+X') (V2*M+V')
 have hQlt:(U3*M+X')/(V2*M+V')<18446744073709551616:=by rw[Nat.div_lt_iff_lt_mul hVpos];exact hX
 obtain⟨Q,hQ⟩:∃Q,(U3*M+X')/(V2*M+V')=Q:=⟨_,rfl⟩
 rw[hQ]at hQle hQlt⊢
 have hQU:=k1 Q hQle
 -- the first word
 have hhit:hi≤top:=by
  have h1:U3*M<18446744073709551616*(V2+1)*M:=by
   have h2:18446744073709551616*(V2*M+V')≤18446744073709551616*((V2+1)*M):=Nat.mul_le_mul_left _ (by rw[Nat.add_mul,Nat.one_mul];omega)
   rw[←Nat.mul_assoc]at h2
   omega
  have h3:=Nat.lt_of_mul_lt_mul_right h1
  subst eU;subst eV
  omega
 have hT:Q≤U3/V2:=(Nat.le_div_iff_mul_le hV2).2 hQU
 have hq0:∀q0,Q≤q0→Q≤corr q0 hi mid lo top next:=fun q0 h=>by
  unfold corr
  rw[←eU,←eV]
  exact Nat.le_min.2 ⟨h,hT⟩
 have hge:Q≤guessN hi mid lo top next:=by
  unfold guessN
  split
  ·exact hq0 _ (by omega)
  ·refine hq0 _ ((Nat.le_div_iff_mul_le h0).2 ?_)
   have h1:Q*top*18446744073709551616≤U3:=Nat.le_trans (by rw[Nat.mul_assoc];exact Nat.mul_le_mul_left _ (by omega)) hQU
   generalize Q*top=z at*
   subst eU
   omega
 have hle:guessN hi mid lo top next≤U3/V2:=by
  unfold guessN corr
  rw[←eU,←eV]
  split<;>exact Nat.min_le_right _ _
 have hlt:guessN hi mid lo top next<18446744073709551616:=guessN_lt hmid
 refine⟨hhit,hge,?_⟩
 obtain⟨g,hg⟩:∃g,guessN hi mid lo top next=g:=⟨_,rfl⟩
 rw[hg]at hle hlt⊢
 have h1:g*V2≤U3:=(Nat.le_div_iff_mul_le hV2).1 hle
 have h2:g*V'≤18446744073709551616*M:=Nat.mul_le_mul (by omega) (by omega)
 have h3:18446744073709551616*M≤V2*M:=Nat.mul_le_mul_right _ (by omega)
 have h4:g*V2*M≤U3*M:=Nat.mul_le_mul_right _ h1
 have h5:g*(V2*M+V')≤(U3*M+X')+(V2*M+V'):=by
  rw[Nat.mul_add,←Nat.mul_assoc];omega
 have h6:U3*M+X'<(Q+1)*(V2*M+V'):=by
  have:=Nat.lt_succ_self ((U3*M+X')/(V2*M+V'))
  rw[hQ]at this
  have:=(Nat.div_lt_iff_lt_mul hVpos (x:=U3*M+X') (y:=Q+1)).1 (by rw[hQ];omega)
  exact this
 have h7:g*(V2*M+V')<(Q+2)*(V2*M+V'):=by
  rw[show Q+2=Q+1+1 from rfl,Nat.add_mul (Q+1),Nat.one_mul];omega
 have:=Nat.lt_of_mul_lt_mul_right h7
 omega
theorem guess_bounds {v u:List Nat} {j n hi mid lo top next:Nat} (hv:WOK v) (hu:WOK u) (hn:v.length=n+2) (htop:v[n+1]?=some top) (hnext:v[n]?=some next) (h0:0<top)
  (hhi:u[j+n+2]?=some hi) (hmid:u[j+n+1]?=some mid) (hlo:u[j+n]?=some lo) (hX:nv (u.drop j)<18446744073709551616*nv v):
  hi≤top∧nv (u.drop j)/nv v≤guessN hi mid lo top next∧guessN hi mid lo top next≤nv (u.drop j)/nv v+1:=by
 have hM:0<18446744073709551616^n:=Nat.pow_pos (by decide)
 have hvl:nv (v.take n)<18446744073709551616^n:=by
  have:=nv_lt (hv.take n)
  rwa [List.length_take,Nat.min_eq_left (by omega)]at this
 have eV:nv v=(top*18446744073709551616+next)*18446744073709551616^n+nv (v.take n):=by
  rw[nv_split (l:=v) (i:=n) (by omega),dropC hnext,dropC htop,List.drop_of_length_le (by omega),nv,nv,nv,Nat.mul_comm]
  simp only[Nat.mul_zero,Nat.add_zero]
  rw[show next+18446744073709551616*top=top*18446744073709551616+next by omega,Nat.add_comm]
 have hjl:=(List.getElem?_eq_some_iff.1 hhi).1
 have hxl:nv ((u.drop j).take n)<18446744073709551616^n:=by
  have:=nv_lt ((hu.drop j).take n)
  rwa [List.length_take,List.length_drop,Nat.min_eq_left (by omega)]at this
 obtain⟨Z,hZ⟩:∃Z,nv (u.drop (j+n+2+1))=Z:=⟨_,rfl⟩
 have eX:nv (u.drop j)=(lo+18446744073709551616*(mid+18446744073709551616*(hi+18446744073709551616*Z)))*18446744073709551616^n+nv ((u.drop j).take n):=by
  rw[nv_split (l:=u.drop j) (i:=n) (by simp;omega),List.drop_drop,dropC hlo,dropC hmid,dropC hhi,nv,nv,nv,hZ,Nat.mul_comm,Nat.add_comm]
 have htl:=hv.get htop
 have hnl:=hv.get hnext
 have hhl:=hu.get hhi
 have hml:=hu.get hmid
 have hll:=hu.get hlo
 have hZ0:Z=0:=by
  rcases Nat.eq_zero_or_pos Z with h|h
  ·exact h
  ·exfalso
   have h1:(18446744073709551616*18446744073709551616*18446744073709551616)*18446744073709551616^n≤(lo+18446744073709551616*(mid+18446744073709551616*(hi+18446744073709551616*Z)))*18446744073709551616^n:=Nat.mul_le_mul_right _ (by omega)
   have h2:18446744073709551616*nv v≤18446744073709551616*((18446744073709551616*18446744073709551616)*18446744073709551616^n):=Nat.mul_le_mul_left _ (by
     rw[eV]
     have:(top*18446744073709551616+next+1)*18446744073709551616^n≤(18446744073709551616*18446744073709551616)*18446744073709551616^n:=Nat.mul_le_mul_right _ (by omega)
     rw[Nat.add_mul,Nat.one_mul]at this
     omega)
   rw[←Nat.mul_assoc,←Nat.mul_assoc]at h2
   omega
 subst hZ0
 have eX':nv (u.drop j)=(hi*18446744073709551616*18446744073709551616+mid*18446744073709551616+lo)*18446744073709551616^n+nv ((u.drop j).take n):=by
  rw[eX];congr 2;omega
 rw[eX',eV]at hX⊢
 exact guess_lin _ _ _ _ _ top next hi mid lo hM hvl hxl rfl rfl htl hnl h0 hhl hml hll hX
theorem digit_step {v u:List Nat} {j q:Nat} (hv:WOK v) (hu:WOK u) (hj:j+v.length<u.length) (hq:q<18446744073709551616) (hV:0<nv v) (hX:nv (u.drop j)<18446744073709551616*nv v)
  (h1:nv (u.drop j)/nv v≤q) (h2:q≤nv (u.drop j)/nv v+1):
  ((takeN v u j q).2=0→q=nv (u.drop j)/nv v∧nv ((takeN v u j q).1.drop j)=nv (u.drop j)%nv v)∧
  ((takeN v u j q).2≠0→q=nv (u.drop j)/nv v+1∧nv ((backN v (takeN v u j q).1 j).drop j)=nv (u.drop j)%nv v∧WOK (backN v (takeN v u j q).1 j)∧(backN v (takeN v u j q).1 j).take j=u.take j):=by
 obtain⟨t1,t2,t3,t4,t5⟩:=takeN_spec hv hu hj hq
 have tl:=takeN_length v u j q
 generalize takeN v u j q=tk at*
 obtain⟨T,b⟩:=tk
 dsimp only at*
 have hP:0<18446744073709551616^j:=Nat.pow_pos (by decide)
 have hR:18446744073709551616^(j+v.length+1)=18446744073709551616^j*18446744073709551616^(v.length+1):=by rw[Nat.add_assoc,Nat.pow_add]
 have hVl:=nv_lt hv
 have hW:18446744073709551616*nv v≤18446744073709551616^(v.length+1):=by
  rw[Nat.pow_succ,Nat.mul_comm];exact Nat.mul_le_mul_right _ (Nat.le_of_lt hVl)
 -- above the window there is nothing
 have top0:∀l:List Nat,j+v.length<l.length→nv (l.drop j)=nv ((l.drop j).take (v.length+1))+18446744073709551616^(v.length+1)*nv (l.drop (j+v.length+1)):=fun l hl=>by
  rw[nv_split (l:=l.drop j) (i:=v.length+1) (by simp;omega),List.drop_drop];rfl
 have hu0:nv (u.drop (j+v.length+1))=0:=by
  have:=top0 u hj
  rcases Nat.eq_zero_or_pos (nv (u.drop (j+v.length+1))) with h|h
  ·exact h
  ·have:18446744073709551616^(v.length+1)*1≤18446744073709551616^(v.length+1)*nv (u.drop (j+v.length+1)):=Nat.mul_le_mul_left _ h
   omega
 have win:∀l:List Nat,WOK l→j+v.length<l.length→l.drop (j+v.length+1)=u.drop (j+v.length+1)→nv (l.drop j)<18446744073709551616^(v.length+1):=fun l hl hll hd=>by
  rw[top0 l hll,hd,hu0,Nat.mul_zero,Nat.add_zero]
  have:=nv_lt ((hl.drop j).take (v.length+1))
  rwa [List.length_take,List.length_drop,Nat.min_eq_left (by omega)]at this
 have hX1:=win T t2 (by omega) t4
 have splitT:nv T=nv (u.take j)+18446744073709551616^j*nv (T.drop j):=by rw[nv_split (l:=T) (i:=j) (by omega),t5]
 have splitU:nv u=nv (u.take j)+18446744073709551616^j*nv (u.drop j):=nv_split (by omega)
 have e1:nv (T.drop j)+q*nv v=nv (u.drop j)+18446744073709551616^(v.length+1)*b:=by
  rw[splitT,splitU,hR,Nat.mul_assoc]at t1
  have:18446744073709551616^j*(nv (T.drop j)+q*nv v)=18446744073709551616^j*(nv (u.drop j)+18446744073709551616^(v.length+1)*b):=by
   rw[Nat.mul_add,Nat.mul_add];omega
  exact Nat.eq_of_mul_eq_mul_left hP this
 have hdm:=Nat.div_add_mod (nv (u.drop j)) (nv v)
 have hml:=Nat.mod_lt (nv (u.drop j)) hV
 rw[Nat.mul_comm]at hdm
 obtain⟨Q,hQ⟩:∃Q,nv (u.drop j)/nv v=Q:=⟨_,rfl⟩
 obtain⟨r,hr⟩:∃r,nv (u.drop j)%nv v=r:=⟨_,rfl⟩
 rw[hQ]at h1 h2 hdm⊢
 rw[hr]at hml hdm⊢
 constructor
 ·intro hb0
  subst hb0
  have hqQ:q=Q:=by
   rcases Nat.lt_or_ge Q q with h|h
   ·have:(Q+1)*nv v≤q*nv v:=Nat.mul_le_mul_right _ h
    rw[Nat.add_mul,Nat.one_mul]at this
    omega
   ·omega
  subst hqQ
  exact⟨rfl,by omega⟩
 ·intro hb0
  have hb1:b=1:=by omega
  subst hb1
  have hqQ:q=Q+1:=by
   rcases Nat.lt_or_ge Q q with h|h
   ·omega
   ·have:q*nv v≤Q*nv v:=Nat.mul_le_mul_right _ h
    omega
  subst hqQ
  obtain⟨o,o1,o2,o3,o4,o5⟩:=backN_spec (j:=j) hv t2 (by omega)
  have bl:=backN_length v T j
  have hX2:=win (backN v T j) o3 (by omega) (o4.trans t4)
  have splitB:nv (backN v T j)=nv (u.take j)+18446744073709551616^j*nv ((backN v T j).drop j):=by rw[nv_split (l:=backN v T j) (i:=j) (by omega),o5,t5]
  have e2:nv ((backN v T j).drop j)+18446744073709551616^(v.length+1)*o=nv (T.drop j)+nv v:=by
   rw[splitB,splitT,hR,Nat.mul_assoc]at o2
   have:18446744073709551616^j*(nv ((backN v T j).drop j)+18446744073709551616^(v.length+1)*o)=18446744073709551616^j*(nv (T.drop j)+nv v):=by
    rw[Nat.mul_add,Nat.mul_add];omega
   exact Nat.eq_of_mul_eq_mul_left hP this
  refine⟨rfl,?_,o3,o5.trans t5⟩
  rw[Nat.add_mul,Nat.one_mul]at e1
  have hlt:nv v<18446744073709551616^(v.length+1):=Nat.lt_of_lt_of_le (by omega) hW
  rcases Nat.eq_zero_or_pos o with h|h
  ·subst h;omega
  ·have:o=1:=by omega
   subst this;omega
def digitOf (v u:List Nat) (m:Nat):Nat:=guessN (u.getD (m+v.length) 0) (u.getD (m+v.length-1) 0) (u.getD (m+v.length-2) 0) (v.getD (v.length-1) 0) (v.getD (v.length-2) 0)
def longStep (v u:List Nat) (m:Nat):List Nat×Nat:=if (takeN v u m (digitOf v u m)).2=0 then ((takeN v u m (digitOf v u m)).1,digitOf v u m) else (backN v (takeN v u m (digitOf v u m)).1 m,digitOf v u m-1)
def longGo (v:List Nat):Nat→List Nat→List Nat→List Nat×List Nat
 |0,u,out=>(u,out)
 |m+1,u,out=>longGo v m (longStep v u m).1 (out.set m (longStep v u m).2)
theorem longStep_ok {v u:List Nat} {m n:Nat} (hv:WOK v) (hu:WOK u) (hn:v.length=n+2) (hm:m+v.length<u.length) {top next:Nat} (htop:v[n+1]?=some top) (hnext:v[n]?=some next) (h0:0<top) (hX:nv (u.drop (m+1))<nv v):
  (longStep v u m).2=nv (u.drop m)/nv v∧nv ((longStep v u m).1.drop m)=nv (u.drop m)%nv v∧WOK (longStep v u m).1∧(longStep v u m).1.length=u.length∧(longStep v u m).1.take m=u.take m∧nv (u.drop m)<18446744073709551616*nv v∧(longStep v u m).2<18446744073709551616∧digitOf v u m<18446744073709551616∧
   ∃hi mid lo,u[m+n+2]?=some hi∧u[m+n+1]?=some mid∧u[m+n]?=some lo∧hi≤top∧digitOf v u m=guessN hi mid lo top next:=by
 obtain⟨hi,hhi⟩:=getI (show m+n+2<u.length by omega)
 obtain⟨mid,hmid⟩:=getI (show m+n+1<u.length by omega)
 obtain⟨lo,hlo⟩:=getI (show m+n<u.length by omega)
 obtain⟨x,hx⟩:=getI (show m<u.length by omega)
 have hXm:nv (u.drop m)<18446744073709551616*nv v:=by
  rw[dropC hx,nv]
  have:=hu.get hx
  have:18446744073709551616*(nv (u.drop (m+1))+1)≤18446744073709551616*nv v:=Nat.mul_le_mul_left _ hX
  omega
 have hd:digitOf v u m=guessN hi mid lo top next:=by
  unfold digitOf
  rw[hn,show m+(n+2)=m+n+2 by omega,show m+n+2-1=m+n+1 by omega,show m+n+2-2=m+n by omega,show n+2-1=n+1 by omega,show n+2-2=n by omega]
  simp[List.getD,hhi,hmid,hlo,htop,hnext]
 obtain⟨g1,g2,g3⟩:=guess_bounds hv hu hn htop hnext h0 hhi hmid hlo hXm
 rw[←hd]at g2 g3
 have hql:digitOf v u m<18446744073709551616:=by rw[hd];exact guessN_lt (hu.get hmid)
 have hV:0<nv v:=by omega
 obtain⟨s1,s2⟩:=digit_step hv hu hm hql hV hXm g2 g3
 have hQ:nv (u.drop m)/nv v<18446744073709551616:=by rw[Nat.div_lt_iff_lt_mul hV];exact hXm
 have tk:=takeN_spec hv hu hm hql
 unfold longStep
 by_cases hb:(takeN v u m (digitOf v u m)).2=0
 ·rw[if_pos hb]
  obtain⟨k1,k2⟩:=s1 hb
  exact⟨k1,k2,tk.2.1,takeN_length _ _ _ _,tk.2.2.2.2,hXm,hql,hql,hi,mid,lo,hhi,hmid,hlo,g1,hd⟩
 ·rw[if_neg hb]
  obtain⟨k1,k2,k3,k4⟩:=s2 hb
  refine⟨by dsimp only;rw[k1,Nat.add_sub_cancel],k2,k3,by dsimp only;rw[backN_length,takeN_length],k4,hXm,by dsimp only;omega,hql,hi,mid,lo,hhi,hmid,hlo,g1,hd⟩
theorem long_keep {v u out:List Nat} {m q U0:Nat} {u':List Nat} (hl:u'.length=u.length) (hm:m<u.length) (ho:m<out.length) (hq:q=nv (u.drop m)/nv v) (hr:nv (u'.drop m)=nv (u.drop m)%nv v) (ht:u'.take m=u.take m)
  (he:U0=nv u+nv v*18446744073709551616^(m+1)*nv (out.drop (m+1))):U0=nv u'+nv v*18446744073709551616^m*nv ((out.set m q).drop m):=by
 have h1:(out.set m q)[m]?=some q:=by simp[ho]
 rw[dropC h1,drop_set_gt,nv,he,nv_split (l:=u) (i:=m) (by omega),nv_split (l:=u') (i:=m) (by omega),ht,hr]
 have h2:=Nat.div_add_mod (nv (u.drop m)) (nv v)
 rw[←hq]at h2
 have h3:nv v*18446744073709551616^(m+1)*nv (out.drop (m+1))=nv v*18446744073709551616^m*(18446744073709551616*nv (out.drop (m+1))):=by rw[Nat.pow_succ];ac_rfl
 have h4:18446744073709551616^m*nv (u.drop m)=nv v*18446744073709551616^m*q+18446744073709551616^m*(nv (u.drop m)%nv v):=by
  conv=>lhs;rw[←h2]
  rw[Nat.mul_add];congr 1;ac_rfl
 rw[h3,h4,Nat.mul_add]
 omega
theorem nv_testBit:∀{a:List Nat},WOK a→∀i,(nv a).testBit i=(a.getD (i/64) 0).testBit (i%64)
 |[],_,i=>by simp[nv]
 | x :: r, h, i => by
   have hx:x<2^64:=h x (by simp)
   have ih:=nv_testBit (a:=r) (fun y hy=>h y (by simp[hy]))
   have e:nv (x::r)=2^64*nv r+x:=by simp[nv];omega
   rw[e,Nat.testBit_two_pow_mul_add _ hx]
   split
   ·rename_i h1
    rw[show i/64=0 by omega,show i%64=i by omega];simp
   ·rename_i h1
    rw[ih,show i/64=(i-64)/64+1 by omega,show i%64=(i-64)%64 by omega];simp
def tz (n:Nat):Nat:=if h:n=0∨n%2=1 then 0 else tz (n/2)+1
decreasing_by omega
theorem tz_odd {n:Nat} (h:n%2=1):tz n=0:=by rw[tz];simp[h]
theorem tz_even {n:Nat} (h:n%2=0) (h0:n≠0):tz n=tz (n/2)+1:=by
 conv=>lhs;rw[tz]
 rw[dif_neg (by omega)]
theorem tz_spec (n:Nat) (h:n≠0):∃o,o%2=1∧n=2^tz n*o∧n/2^tz n=o:=by
 induction n using Nat.strongRecOn with
 | _ n ih =>
   by_cases h1:n%2=1
   ·exact⟨n,h1,by rw[tz_odd h1];simp,by rw[tz_odd h1];simp⟩
   ·obtain⟨o,h2,h3,h4⟩:=ih (n/2) (by omega) (by omega)
    have e:=tz_even (n:=n) (by omega) h
    refine⟨o,h2,?_,?_⟩
    ·rw[e,Nat.pow_succ,Nat.mul_right_comm,←h3];omega
    ·rw[e,Nat.pow_succ,Nat.mul_comm,←Nat.div_div_eq_div_mul,h4]
theorem tz_le {n k:Nat} (h:n≠0) (hn:n<2^k):tz n<k:=by
 obtain⟨o,h1,h2,_⟩:=tz_spec n h
 rcases Nat.lt_or_ge (tz n) k with h3|h3
 ·exact h3
 ·have:2^k≤2^tz n:=Nat.pow_le_pow_right (by decide) h3
  have h4:2^tz n*1≤2^tz n*o:=Nat.mul_le_mul_left _ (by omega)
  omega
theorem odd_coprime {y:Nat} (h:y%2=1) (k:Nat):Nat.Coprime (2^k) y:=by
 apply Nat.Coprime.pow_left
 show Nat.gcd 2 y=1
 rw[Nat.gcd_rec,h];rfl
theorem gcd_odd {o y:Nat} (h:y%2=1) (k:Nat):Nat.gcd (2^k*o) y=Nat.gcd o y:=(odd_coprime h k).gcd_mul_left_cancel o
theorem gcd_halves (x y:Nat) (hx:x≠0) (hy:y≠0):Nat.gcd x y=2^min (tz x) (tz y)*Nat.gcd (x/2^tz x) (y/2^tz y):=by
 obtain⟨a,a1,a2,a3⟩:=tz_spec x hx
 obtain⟨b,b1,b2,b3⟩:=tz_spec y hy
 rw[a3,b3]
 generalize tz x=i at*
 generalize tz y=j at*
 subst a2;subst b2
 rcases Nat.le_total i j with h|h
 ·rw[Nat.min_eq_left h]
  obtain⟨d,rfl⟩:=Nat.exists_eq_add_of_le h
  rw[Nat.pow_add,Nat.mul_assoc,Nat.gcd_mul_left,Nat.gcd_comm,gcd_odd a1,Nat.gcd_comm]
 ·rw[Nat.min_eq_right h]
  obtain⟨d,rfl⟩:=Nat.exists_eq_add_of_le h
  rw[Nat.pow_add,Nat.mul_assoc,Nat.gcd_mul_left,gcd_odd b1]
theorem gcd_step {x y:Nat} (hy:y%2=1) (h:y<x):Nat.gcd ((x-y)/2^tz (x-y)) y=Nat.gcd x y:=by
 obtain⟨a,a1,a2,a3⟩:=tz_spec (x-y) (by omega)
 rw[a3,←gcd_odd hy (tz (x-y)),←a2,Nat.gcd_sub_self_left (by omega)]
def shlL (s:Nat):Nat→List Nat→List Nat
 |_,[]=>[]
 |c,x::r=>(x*2^s%18446744073709551616+c)::shlL s (x/2^(64-s)) r
theorem shlL_length (s:Nat):∀(l:List Nat) (c:Nat),(shlL s c l).length=l.length
 |[],_=>rfl
 |_::r,_=>by simp[shlL,shlL_length s r]
theorem shlL_spec {s:Nat} (hs:s≤63):∀(l:List Nat) (c:Nat),WOK l→c<2^s→WOK (shlL s c l)∧nv (shlL s c l)+18446744073709551616^l.length*(((l.getLast?).getD 0/2^(64-s))*(if l=[] then 0 else 1))=nv l*2^s+(if l=[] then 0 else c)
 |[],c,_,_=>⟨fun x h=>(by cases h),by simp[shlL,nv]⟩
 | x :: r, c, h, hc => by
   have hx:=h x (by simp)
   obtain⟨h1,h2,h3,h4,h5⟩:=shl_word x s hs hx
   obtain⟨i1,i2⟩:=shlL_spec hs r (x/2^(64-s)) (fun y hy=>h y (by simp[hy])) h3
   refine⟨fun y hy=> ?_,?_⟩
   ·rcases List.mem_cons.1 hy with rfl|hy
    ·rw[h1];omega
    ·exact i1 y hy
   ·simp only[shlL,nv,List.length_cons,Nat.pow_succ]
    rw[h1]
    cases r with
    |nil=>simp[shlL,nv];omega
    | cons y r =>
      simp only[reduceCtorEq,if_false,Nat.mul_one,List.getLast?_cons_cons]at i2⊢
      rw[Nat.add_mul,←h4]
      have e:18446744073709551616*nv (y::r)*2^s=18446744073709551616*(nv (y::r)*2^s):=Nat.mul_assoc _ _ _
      rw[e]
      rw[Nat.mul_comm (18446744073709551616^(y::r).length) 18446744073709551616,Nat.mul_assoc]
      omega
theorem shlL_zero {s:Nat} (hs:s≤63) (l:List Nat) (h:WOK l):WOK (shlL s 0 (l++[0]))∧nv (shlL s 0 (l++[0]))=nv l*2^s:=by
 obtain⟨h1,h2⟩:=shlL_spec hs (l++[0]) 0 (h.append (fun x hx=>by rw[List.mem_singleton.1 hx];decide)) (Nat.two_pow_pos s)
 refine⟨h1,?_⟩
 rw[nv_append]at h2
 simpa [nv] using h2
theorem shlL_get (s:Nat):∀(l:List Nat) (c i x:Nat),l[i]?=some x→(shlL s c l)[i]?=some (x*2^s%18446744073709551616+(if i=0 then c else (l.getD (i-1) 0)/2^(64-s)))
 |[],_,_,_,h=>by simp at h
 |y::r,c,0,x,h=>by simp at h;subst h;rfl
 | y :: r, c, i + 1, x, h => by
   have:=shlL_get s r (y/2^(64-s)) i x (by simpa using h)
   simp only[shlL,List.getElem?_cons_succ,this]
   cases i with
   |zero=>simp
   |succ j=>simp
def shrL (s:Nat):List Nat→List Nat
 |[]=>[]
 |x::r=>(x/2^s+(r.headD 0)*2^(64-s)%18446744073709551616)::shrL s r
theorem shrL_length (s:Nat):∀(l:List Nat),(shrL s l).length=l.length
 |[]=>rfl
 |_::r=>by simp[shrL,shrL_length s r]
theorem shrL_get (s:Nat):∀(l:List Nat) (i x:Nat),l[i]?=some x→(shrL s l)[i]?=some (x/2^s+(l.getD (i+1) 0)*2^(64-s)%18446744073709551616)
 |[],_,_,h=>by simp at h
 |y::r,0,x,h=>by simp at h;subst h;cases r<;>simp[shrL]
 | y :: r, i + 1, x, h => by
   have:=shrL_get s r i x (by simpa using h)
   simp only[shrL,List.getElem?_cons_succ,this]
   simp
theorem shr_word {x y s:Nat} (hs0:0<s) (hs:s≤63) (hx:x<18446744073709551616):x/2^s<2^(64-s)∧y*2^(64-s)%18446744073709551616=y%2^s*2^(64-s)∧x/2^s+y%2^s*2^(64-s)<18446744073709551616:=by
 have hPR:2^(64-s)*2^s=18446744073709551616:=by rw[←Nat.pow_add,show 64-s+s=64 by omega]
 have hP:0<2^s:=Nat.two_pow_pos s
 have h1:x/2^s<2^(64-s):=by rw[Nat.div_lt_iff_lt_mul hP,hPR];exact hx
 have h2:(y%2^s+1)*2^(64-s)≤2^s*2^(64-s):=Nat.mul_le_mul_right _ (Nat.mod_lt _ hP)
 rw[Nat.mul_comm (2^s),hPR,Nat.add_mul,Nat.one_mul]at h2
 have h4:=Nat.two_pow_pos (64-s)
 have h5:y%2^s*2^(64-s)<18446744073709551616:=by
  generalize y%2^s*2^(64-s)=z at*
  omega
 refine⟨h1,?_,by generalize y%2^s*2^(64-s)=z at*;generalize x/2^s=u at*;omega⟩
 have:y*2^(64-s)=18446744073709551616*(y/2^s)+y%2^s*2^(64-s):=by
  conv=>lhs;rw[←Nat.div_add_mod y (2^s)]
  rw[Nat.add_mul,←hPR];congr 1;ac_rfl
 rw[this,Nat.mul_add_mod,Nat.mod_eq_of_lt h5]
theorem shrL_spec {s:Nat} (hs0:0<s) (hs:s≤63):∀(l:List Nat),WOK l→WOK (shrL s l)∧nv (shrL s l)=nv l/2^s
 |[],_=>⟨fun x h=>(by cases h),by simp[shrL,nv]⟩
 | x :: r, h => by
   have hx:=h x (by simp)
   obtain⟨i1,i2⟩:=shrL_spec hs0 hs r (fun y hy=>h y (by simp[hy]))
   obtain⟨h1,h2,h3⟩:=shr_word (y:=r.headD 0) hs0 hs hx
   refine⟨fun y hy=> ?_,?_⟩
   ·rcases List.mem_cons.1 hy with rfl|hy
    ·rw[h2];omega
    ·exact i1 y hy
   ·simp only[shrL,nv,i2]
    rw[h2]
    have hP:0<2^s:=Nat.two_pow_pos s
    have hPR:2^s*2^(64-s)=18446744073709551616:=by rw[←Nat.pow_add,show s+(64-s)=64 by omega]
    have hr:r.headD 0%2^s=nv r%2^s:=by
     cases r with
     |nil=>simp[nv]
     |cons y r=>simp only[List.headD_cons,nv];rw[←hPR,Nat.mul_assoc,Nat.add_mul_mod_self_left]
    rw[hr]
    have e:x+18446744073709551616*nv r=x+2^s*(2^(64-s)*nv r):=by rw[←Nat.mul_assoc,hPR]
    rw[e,Nat.add_mul_div_left _ _ hP]
    have hM:=Nat.div_add_mod (nv r) (2^s)
    have e2:2^(64-s)*nv r=18446744073709551616*(nv r/2^s)+nv r%2^s*2^(64-s):=by
     conv=>lhs;rw[←hM]
     rw[Nat.mul_add,←Nat.mul_assoc,Nat.mul_comm (2^(64-s)) (2^s),hPR];congr 1;ac_rfl
    rw[e2];omega
def hv:List Nat→Nat
 |[]=>0
 |x::r=>x+4294967296*hv r
def HOK (l:List Nat):Prop:=∀x∈l,x<4294967296
theorem hv_append:∀(a b:List Nat),hv (a++b)=hv a+4294967296^a.length*hv b
 |[],b=>by simp[hv]
 | x :: r, b => by
   simp only[List.cons_append,hv,hv_append r b,List.length_cons,Nat.pow_succ,Nat.mul_add]
   rw[Nat.mul_comm (4294967296^r.length) 4294967296,Nat.mul_assoc];omega
theorem hv_lt:∀{l:List Nat},HOK l→hv l<4294967296^l.length
 |[],_=>by simp[hv]
 | x :: r, h => by
   have h1:=h x (by simp)
   have h2:=hv_lt (l:=r) fun y hy=>h y (by simp[hy])
   simp only[hv,List.length_cons,Nat.pow_succ]
   omega
theorem hv_trim : ∀ (l : List Nat), hv (trimW l) = hv l
 |[]=>rfl
 | x :: r => by
   rw[trimW_cons]
   split
   ·rename_i h
    have:∀l:List Nat,sizeW l=0→hv l=0:=fun l hl=>by
     induction l with
     |nil=>rfl
     | cons y s ih =>
       unfold sizeW at hl
       split at hl
       ·split at hl
        ·rename_i h1 h2;simp[hv,h2,ih h1]
        ·omega
       ·omega
    rw[this _ h];rfl
   ·simp only[hv];rw[hv_trim r]
theorem HOK.trim {l:List Nat} (h:HOK l):HOK (trimW l):=fun x hx=>h x (List.mem_of_mem_take hx)
def halvesL:List Nat→List Nat
 |[]=>[]
 |x::r=>x%4294967296::x/4294967296::halvesL r
theorem halvesL_len:∀l:List Nat,(halvesL l).length=2*l.length
 |[]=>rfl
 |x::r=>by simp[halvesL,halvesL_len r];omega
theorem halvesL_snoc:∀(l:List Nat) (x:Nat),halvesL (l++[x])=halvesL l++[x%4294967296]++[x/4294967296]
 |[],_=>rfl
 |y::r,x=>by simp[halvesL,halvesL_snoc r x]
theorem halvesL_spec:∀{l:List Nat},WOK l→HOK (halvesL l)∧hv (halvesL l)=nv l
 |[],_=>⟨fun x h=>(by cases h),rfl⟩
 | x :: r, h => by
   have hx:=h x (by simp)
   obtain⟨h1,h2⟩:=halvesL_spec (l:=r) fun y hy=>h y (by simp[hy])
   refine⟨fun y hy=> ?_,by simp only[halvesL,hv,nv,h2];omega⟩
   simp only[halvesL,List.mem_cons]at hy
   rcases hy with rfl|rfl|hy
   ·omega
   ·omega
   ·exact h1 y hy
def wholeL:List Nat→List Nat
 |[]=>[]
 |[x]=>[x]
 |x::y::r=>(x+4294967296*y)::wholeL r
theorem wholeL_spec:∀{l:List Nat},HOK l→WOK (wholeL l)∧nv (wholeL l)=hv l∧(wholeL l).length≤l.length
 |[],_=>⟨fun x h=>(by cases h),rfl,Nat.le_refl _⟩
 |[x],h=>⟨fun y hy=>by have:=h x (by simp);simp[wholeL]at hy;omega,by simp[wholeL,nv,hv],Nat.le_refl _⟩
 | x :: y :: r, h => by
   have hx:=h x (by simp)
   have hy:=h y (by simp)
   obtain⟨h1,h2,h3⟩:=wholeL_spec (l:=r) fun y hy=>h y (by simp[hy])
   refine⟨fun z hz=> ?_,by simp only[wholeL,hv,nv,h2];omega,by simp only[wholeL,List.length_cons];omega⟩
   simp only[wholeL,List.mem_cons]at hz
   rcases hz with rfl|hz
   ·omega
   ·exact h1 z hz
theorem wholeL_two:∀(l:List Nat) (x y:Nat),l.length%2=0→wholeL (l++[x,y])=wholeL l++[x+4294967296*y]
 |[],_,_,_=>rfl
 |[z],_,_,h=>by simp at h
 |u::v::r,x,y,h=>by simp only[List.cons_append,wholeL];rw[wholeL_two r x y (by simp at h;omega)]
theorem wholeL_one:∀(l:List Nat) (x:Nat),l.length%2=0→wholeL (l++[x])=wholeL l++[x]
 |[],_,_=>rfl
 |[z],_,h=>by simp at h
 |u::v::r,x,h=>by simp only[List.cons_append,wholeL];rw[wholeL_one r x (by simp at h;omega)]
theorem wholeL_len:∀(l:List Nat),(wholeL l).length=(l.length+1)/2
 |[]=>rfl
 |[x]=>by simp[wholeL]
 |x::y::r=>by simp only[wholeL,List.length_cons,wholeL_len r];omega
def subL:Nat→List Nat→List Nat→List Nat
 |_,[],_=>[]
 |c,x::r,y=>((4294967296+x-y.headD 0-c)%4294967296)::subL (1-(4294967296+x-y.headD 0-c)/4294967296) r y.tail
theorem subL_spec:∀(x y:List Nat) (c:Nat),HOK x→HOK y→c≤1→HOK (subL c x y)∧(subL c x y).length=x.length∧∃c',c'≤1∧hv (subL c x y)+hv (y.take x.length)+c=hv x+4294967296^x.length*c'
 |[],y,c,_,_,hc=>⟨fun x h=>(by cases h),rfl,c,hc,by simp[subL,hv]⟩
 | x :: r, y, c, hx, hy, hc => by
   have h1:=hx x (by simp)
   have h2:y.headD 0<4294967296:=by cases y with|nil=>simp|cons z s=>exact hy z (by simp)
   have e1:hv (y.take (r.length+1))=y.headD 0+4294967296*hv (y.tail.take r.length):=by cases y with|nil=>simp[hv]|cons z s=>simp[hv]
   obtain⟨i1,i2,c',i3,i4⟩:=subL_spec r y.tail (1-(4294967296+x-y.headD 0-c)/4294967296) (fun z hz=>hx z (by simp[hz])) (fun z hz=>hy z (List.mem_of_mem_tail hz)) (by omega)
   refine⟨fun z hz=> ?_,by simp only[subL,List.length_cons,i2],c',i3,?_⟩
   ·rcases List.mem_cons.1 hz with rfl|hz
    ·omega
    ·exact i1 z hz
   ·simp only[subL,hv,List.length_cons]
    rw[e1,Nat.pow_succ,Nat.mul_comm (4294967296^r.length) 4294967296,Nat.mul_assoc]
    generalize 4294967296^r.length*c'=z at*
    omega
theorem subL_ok {x y:List Nat} (hx:HOK x) (hy:HOK y) (hle:hv y≤hv x) (hl:y.length≤x.length):HOK (subL 0 x y)∧hv (subL 0 x y)=hv x-hv y:=by
 obtain⟨h1,h2,c,h3,h4⟩:=subL_spec x y 0 hx hy (by omega)
 rw[List.take_of_length_le hl]at h4
 have h5:=hv_lt h1
 rw[h2]at h5
 refine⟨h1,?_⟩
 rcases Nat.eq_zero_or_pos c with h|h
 ·subst h;omega
 ·have:c=1:=by omega
  subst this;omega
def subC:Nat→List Nat→List Nat→Nat
 |c,[],_=>c
 |c,x::r,y=>subC (1-(4294967296+x-y.headD 0-c)/4294967296) r y.tail
theorem subC_le:∀(x y:List Nat) (c:Nat),c≤1→subC c x y≤1
 |[],_,_,h=>h
 |x::r,y,c,h=>subC_le r y.tail _ (by omega)
theorem subC_snoc:∀(x y:List Nat) (c z:Nat),subC c (x++[z]) y=1-(4294967296+z-y.getD x.length 0-subC c x y)/4294967296∧subL c (x++[z]) y=subL c x y++[(4294967296+z-y.getD x.length 0-subC c x y)%4294967296]
 |[],y,c,z=>by cases y<;>simp[subL,subC]
 | u :: x, y, c, z => by
   obtain⟨h1,h2⟩:=subC_snoc x y.tail (1-(4294967296+u-y.headD 0-c)/4294967296) z
   constructor
   ·simp only[List.cons_append,subC];rw[h1];cases y<;>simp
   ·simp only[List.cons_append,subL,subC];rw[h2];cases y<;>simp
theorem hv_pow {l:List Nat} (h:l≠[]) (ht:∃x,l[l.length-1]?=some x∧x≠0):4294967296^(l.length-1)≤hv l:=by
 obtain⟨x,h1,h2⟩:=ht
 have hl:0<l.length:=List.length_pos_iff.2 h
 have e:l=l.take (l.length-1)++[x]:=by
  conv=>lhs;rw[←List.take_append_drop (l.length-1) l]
  congr 1
  rw[dropC h1,show l.length-1+1=l.length by omega,List.drop_length]
 have e2:hv l=hv (l.take (l.length-1))+4294967296^(l.length-1)*x:=by
  conv=>lhs;rw[e]
  rw[hv_append,List.length_take,Nat.min_eq_left (by omega)];simp[hv]
 have:4294967296^(l.length-1)*1≤4294967296^(l.length-1)*x:=Nat.mul_le_mul_left _ (by omega)
 omega
theorem trim_len_le {a b:List Nat} (ha:HOK a) (h:hv (trimW b)≤hv a):(trimW b).length≤a.length:=by
 have hb:=sizeW_le b
 have hlen:(trimW b).length=sizeW b:=by simp[trimW];omega
 rcases Nat.eq_zero_or_pos (sizeW b) with h0|h0
 ·omega
 ·obtain⟨x,h1,h2⟩:=sizeW_top b h0
  have h3:=hv_pow (l:=trimW b) (fun e=>by rw[e]at hlen;simp at hlen;omega) ⟨x,by rw[hlen];simp only[trimW];rw[List.getElem?_take_of_lt (by omega)];exact h1,h2⟩
  have h4:=hv_lt ha
  rcases Nat.lt_or_ge a.length (trimW b).length with h5|h5
  ·have:4294967296^a.length≤4294967296^((trimW b).length-1):=Nat.pow_le_pow_right (by decide) (by omega)
   omega
  ·exact h5
end Go.Fm
namespace Go.Fm
open Go.Proofs
set_option maxRecDepth 100000
theorem mixed:Tryz.prog.follows .mixedOrders=true:=by rfl
@[go_sem] theorem ti2:tiOf Tryz.prog 2={d:=Go.TypeDesc.int Go.IntKind.i64,size:=1,bytes:=8,zero:=[Go.Value.int Go.IntKind.i64 0],cmp:=true}:=by first|rfl|kernel_rfl
@[go_sem] theorem ti3:tiOf Tryz.prog 3={d:=Go.TypeDesc.int Go.IntKind.i64,size:=1,bytes:=8,zero:=[Go.Value.int Go.IntKind.i64 0],cmp:=true}:=by first|rfl|kernel_rfl
@[go_sem] theorem ti4:tiOf Tryz.prog 4={d:=Go.TypeDesc.bool,size:=1,bytes:=1,zero:=[Go.Value.bool false],cmp:=true}:=by first|rfl|kernel_rfl
@[go_sem] theorem ti22:tiOf Tryz.prog 22={d:=Go.TypeDesc.slice 3,size:=1,bytes:=24,zero:=[Go.Value.slice none 0 0],cmp:=true}:=by first|rfl|kernel_rfl
@[go_sem] theorem ti23:tiOf Tryz.prog 23={d:=Go.TypeDesc.slice 68,size:=1,bytes:=24,zero:=[Go.Value.slice none 0 0],cmp:=true}:=by first|rfl|kernel_rfl
@[go_sem] theorem ti25:tiOf Tryz.prog 25={d:=Go.TypeDesc.struct #[{name:= "Dims",type:=22,offset:=0,embedded:=false,tag:= "",pkgPath:= "",byteOffset:=0},{name:= "Vals",type:=23,offset:=1,embedded:=false,tag:= "",pkgPath:= "",byteOffset:=24}],size:=2,bytes:=48,zero:=[Go.Value.slice none 0 0,Go.Value.slice none 0 0],cmp:=true}:=by first|rfl|kernel_rfl
@[go_sem] theorem ti27:tiOf Tryz.prog 27={d:=Go.TypeDesc.slice 25,size:=1,bytes:=24,zero:=[Go.Value.slice none 0 0],cmp:=true}:=by first|rfl|kernel_rfl
@[go_sem] theorem ti28:tiOf Tryz.prog 28={d:=Go.TypeDesc.func #[] #[4] false,size:=1,bytes:=8,zero:=[Go.Value.nilFunc],cmp:=true}:=by first|rfl|kernel_rfl
@[go_sem] theorem ti29:tiOf Tryz.prog 29={d:=Go.TypeDesc.pointer 108,size:=1,bytes:=8,zero:=[Go.Value.pointer none],cmp:=true}:=by first|rfl|kernel_rfl
@[go_sem] theorem ti33:tiOf Tryz.prog 33={d:=Go.TypeDesc.slice 4,size:=1,bytes:=24,zero:=[Go.Value.slice none 0 0],cmp:=true}:=by first|rfl|kernel_rfl
@[go_sem] theorem ti40:tiOf Tryz.prog 40={d:=Go.TypeDesc.int Go.IntKind.i64,size:=1,bytes:=8,zero:=[Go.Value.int Go.IntKind.i64 0],cmp:=true}:=by first|rfl|kernel_rfl
@[go_sem] theorem ti44:tiOf Tryz.prog 44={d:=Go.TypeDesc.struct #[{name:= "N",type:=3,offset:=0,embedded:=false,tag:= "",pkgPath:= "",byteOffset:=0},{name:= "A",type:=3,offset:=1,embedded:=false,tag:= "",pkgPath:= "",byteOffset:=8},{name:= "B",type:=3,offset:=2,embedded:=false,tag:= "",pkgPath:= "",byteOffset:=16},{name:= "C",type:=3,offset:=3,embedded:=false,tag:= "",pkgPath:= "",byteOffset:=24},{name:= "P",type:=3,offset:=4,embedded:=false,tag:= "",pkgPath:= "",byteOffset:=32},{name:= "Q",type:=3,offset:=5,embedded:=false,tag:= "",pkgPath:= "",byteOffset:=40},{name:= "R",type:=3,offset:=6,embedded:=false,tag:= "",pkgPath:= "",byteOffset:=48},{name:= "S",type:=3,offset:=7,embedded:=false,tag:= "",pkgPath:= "",byteOffset:=56},{name:= "Keep",type:=4,offset:=8,embedded:=false,tag:= "",pkgPath:= "",byteOffset:=64},{name:= "List",type:=22,offset:=9,embedded:=false,tag:= "",pkgPath:= "",byteOffset:=72}],size:=10,bytes:=96,zero:=[Go.Value.int Go.IntKind.i64 0,Go.Value.int Go.IntKind.i64 0,Go.Value.int Go.IntKind.i64 0,Go.Value.int Go.IntKind.i64 0,Go.Value.int Go.IntKind.i64 0,Go.Value.int Go.IntKind.i64 0,Go.Value.int Go.IntKind.i64 0,Go.Value.int Go.IntKind.i64 0,Go.Value.bool false,Go.Value.slice none 0 0],cmp:=true}:=by first|rfl|kernel_rfl
@[go_sem] theorem ti55:tiOf Tryz.prog 55={d:=Go.TypeDesc.struct #[{name:= "Op",type:=3,offset:=0,embedded:=false,tag:= "",pkgPath:= "",byteOffset:=0},{name:= "Attr",type:=44,offset:=1,embedded:=false,tag:= "",pkgPath:= "",byteOffset:=8},{name:= "Args",type:=27,offset:=11,embedded:=false,tag:= "",pkgPath:= "",byteOffset:=104},{name:= "Out",type:=22,offset:=12,embedded:=false,tag:= "",pkgPath:= "",byteOffset:=128}],size:=13,bytes:=152,zero:=[Go.Value.int Go.IntKind.i64 0,Go.Value.int Go.IntKind.i64 0,Go.Value.int Go.IntKind.i64 0,Go.Value.int Go.IntKind.i64 0,Go.Value.int Go.IntKind.i64 0,Go.Value.int Go.IntKind.i64 0,Go.Value.int Go.IntKind.i64 0,Go.Value.int Go.IntKind.i64 0,Go.Value.int Go.IntKind.i64 0,Go.Value.bool false,Go.Value.slice none 0 0,Go.Value.slice none 0 0,Go.Value.slice none 0 0],cmp:=true}:=by first|rfl|kernel_rfl
@[go_sem] theorem ti63:tiOf Tryz.prog 63={d:=Go.TypeDesc.slice 66,size:=1,bytes:=24,zero:=[Go.Value.slice none 0 0],cmp:=true}:=by first|rfl|kernel_rfl
@[go_sem] theorem ti65:tiOf Tryz.prog 65={d:=Go.TypeDesc.struct #[{name:= "Neg",type:=4,offset:=0,embedded:=false,tag:= "",pkgPath:= "",byteOffset:=0},{name:= "Num",type:=63,offset:=1,embedded:=false,tag:= "",pkgPath:= "",byteOffset:=8},{name:= "Den",type:=63,offset:=2,embedded:=false,tag:= "",pkgPath:= "",byteOffset:=32}],size:=3,bytes:=56,zero:=[Go.Value.bool false,Go.Value.slice none 0 0,Go.Value.slice none 0 0],cmp:=true}:=by first|rfl|kernel_rfl
@[go_sem] theorem ti66:tiOf Tryz.prog 66={d:=Go.TypeDesc.int Go.IntKind.u64,size:=1,bytes:=8,zero:=[Go.Value.int Go.IntKind.u64 0],cmp:=true}:=by first|rfl|kernel_rfl
@[go_sem] theorem ti68:tiOf Tryz.prog 68={d:=Go.TypeDesc.struct #[{name:= "Rat",type:=65,offset:=0,embedded:=false,tag:= "",pkgPath:= "",byteOffset:=0},{name:= "Bits",type:=66,offset:=3,embedded:=false,tag:= "",pkgPath:= "",byteOffset:=56},{name:= "Ref",type:=3,offset:=4,embedded:=false,tag:= "",pkgPath:= "",byteOffset:=64}],size:=5,bytes:=72,zero:=[Go.Value.bool false,Go.Value.slice none 0 0,Go.Value.slice none 0 0,Go.Value.int Go.IntKind.u64 0,Go.Value.int Go.IntKind.i64 0],cmp:=true}:=by first|rfl|kernel_rfl
@[go_sem] theorem ti71:tiOf Tryz.prog 71={d:=Go.TypeDesc.slice 22,size:=1,bytes:=24,zero:=[Go.Value.slice none 0 0],cmp:=true}:=by first|rfl|kernel_rfl
@[go_sem] theorem ti84:tiOf Tryz.prog 84={d:=Go.TypeDesc.struct #[{name:= "X",type:=23,offset:=0,embedded:=false,tag:= "",pkgPath:= "",byteOffset:=0},{name:= "Y",type:=68,offset:=1,embedded:=false,tag:= "",pkgPath:= "",byteOffset:=24},{name:= "Pick",type:=3,offset:=6,embedded:=false,tag:= "",pkgPath:= "",byteOffset:=96}],size:=7,bytes:=104,zero:=[Go.Value.slice none 0 0,Go.Value.bool false,Go.Value.slice none 0 0,Go.Value.slice none 0 0,Go.Value.int Go.IntKind.u64 0,Go.Value.int Go.IntKind.i64 0,Go.Value.int Go.IntKind.i64 0],cmp:=true}:=by first|rfl|kernel_rfl
@[go_sem] theorem ti90:tiOf Tryz.prog 90={d:=Go.TypeDesc.struct #[{name:= "vals",type:=23,offset:=0,embedded:=false,tag:= "",pkgPath:= "gradine/each",byteOffset:=0}],size:=1,bytes:=24,zero:=[Go.Value.slice none 0 0],cmp:=true}:=by first|rfl|kernel_rfl
@[go_sem] theorem ti106:tiOf Tryz.prog 106={d:=Go.TypeDesc.slice 167,size:=1,bytes:=24,zero:=[Go.Value.slice none 0 0],cmp:=true}:=by first|rfl|kernel_rfl
@[go_sem] theorem ti108:tiOf Tryz.prog 108={d:=Go.TypeDesc.struct #[{name:= "mode",type:=3,offset:=0,embedded:=false,tag:= "",pkgPath:= "gradine/bank",byteOffset:=0},{name:= "inputs",type:=3,offset:=1,embedded:=false,tag:= "",pkgPath:= "gradine/bank",byteOffset:=8},{name:= "prog",type:=106,offset:=2,embedded:=false,tag:= "",pkgPath:= "gradine/bank",byteOffset:=16},{name:= "asks",type:=33,offset:=3,embedded:=false,tag:= "",pkgPath:= "gradine/bank",byteOffset:=40},{name:= "met",type:=33,offset:=4,embedded:=false,tag:= "",pkgPath:= "gradine/bank",byteOffset:=64},{name:= "asked",type:=3,offset:=5,embedded:=false,tag:= "",pkgPath:= "gradine/bank",byteOffset:=88},{name:= "ops",type:=3,offset:=6,embedded:=false,tag:= "",pkgPath:= "gradine/bank",byteOffset:=96},{name:= "tie",type:=4,offset:=7,embedded:=false,tag:= "",pkgPath:= "gradine/bank",byteOffset:=104},{name:= "err",type:=40,offset:=8,embedded:=false,tag:= "",pkgPath:= "gradine/bank",byteOffset:=112}],size:=9,bytes:=120,zero:=[Go.Value.int Go.IntKind.i64 0,Go.Value.int Go.IntKind.i64 0,Go.Value.slice none 0 0,Go.Value.slice none 0 0,Go.Value.slice none 0 0,Go.Value.int Go.IntKind.i64 0,Go.Value.int Go.IntKind.i64 0,Go.Value.bool false,Go.Value.int Go.IntKind.i64 0],cmp:=true}:=by first|rfl|kernel_rfl
@[go_sem] theorem ti111:tiOf Tryz.prog 111={d:=Go.TypeDesc.slice 113,size:=1,bytes:=24,zero:=[Go.Value.slice none 0 0],cmp:=true}:=by first|rfl|kernel_rfl
@[go_sem] theorem ti113:tiOf Tryz.prog 113={d:=Go.TypeDesc.array 2 3,size:=2,bytes:=16,zero:=[Go.Value.int Go.IntKind.i64 0,Go.Value.int Go.IntKind.i64 0],cmp:=true}:=by first|rfl|kernel_rfl
@[go_sem] theorem ti211:tiOf Tryz.prog 211={d:=Go.TypeDesc.int Go.IntKind.u64,size:=1,bytes:=8,zero:=[Go.Value.int Go.IntKind.u64 0],cmp:=true}:=by first|rfl|kernel_rfl
@[go_sem] theorem ti238:tiOf Tryz.prog 238={d:=Go.TypeDesc.struct #[{name:= "neg",type:=4,offset:=0,embedded:=false,tag:= "",pkgPath:= "gradine/fsum",byteOffset:=0},{name:= "m",type:=66,offset:=1,embedded:=false,tag:= "",pkgPath:= "gradine/fsum",byteOffset:=8},{name:= "e",type:=3,offset:=2,embedded:=false,tag:= "",pkgPath:= "gradine/fsum",byteOffset:=16}],size:=3,bytes:=24,zero:=[Go.Value.bool false,Go.Value.int Go.IntKind.u64 0,Go.Value.int Go.IntKind.i64 0],cmp:=true}:=by first|rfl|kernel_rfl
@[go_sem] theorem ti245:tiOf Tryz.prog 245={d:=Go.TypeDesc.array 14 3,size:=14,bytes:=112,zero:=[Go.Value.int Go.IntKind.i64 0,Go.Value.int Go.IntKind.i64 0,Go.Value.int Go.IntKind.i64 0,Go.Value.int Go.IntKind.i64 0,Go.Value.int Go.IntKind.i64 0,Go.Value.int Go.IntKind.i64 0,Go.Value.int Go.IntKind.i64 0,Go.Value.int Go.IntKind.i64 0,Go.Value.int Go.IntKind.i64 0,Go.Value.int Go.IntKind.i64 0,Go.Value.int Go.IntKind.i64 0,Go.Value.int Go.IntKind.i64 0,Go.Value.int Go.IntKind.i64 0,Go.Value.int Go.IntKind.i64 0],cmp:=true}:=by first|rfl|kernel_rfl
end Go.Fm
