/- The reference's numbers: Shl by any number. -/
import Derived.Test.YteodjhhobkcnjaaGreatNzC
import Derived.Test.YteodjhhobkcnjaaGreatDzB
import Derived.Test.YteodjhhobkcnjaaGreatEzA
set_option linter.unusedVariables false
set_option linter.unusedSimpArgs false
namespace Go.Fm
open Go.Proofs
set_option maxRecDepth 100000
attribute [local irreducible] tiOf
theorem rShlN_ok (a:List Nat) (z:Int) (ha:WOK a) (hla:a.length<100000000) (hz:z≤0):Pure Tryz.prog 143 [sW a,.int .i64 z] [.own 1 ((wordsOf (nv a)).map U)]:=by
 have:=rShlZ_ok a z 0 (by split<;>omega) ha hla (by decide)
 rw[Nat.pow_zero,Nat.mul_one]at this
 exact this
theorem dField_ok (b:Nat) (hb:b<18446744073709551616):Pure Tryz.prog 263 [.int .u64 b] [.t (.int .i64 (fieldD b:Nat))]:=by
 have h1:b/4503599627370496<18446744073709551616:=by omega
 have hw:=wfield b
 unfold fieldD at hw
 refine Pure.I Tryz.func263 [2] ?_
 simp-implicitDefEqProofs+decide only[go_sem,uandF h1,hw]
 exact endF.V1 2 (.int .i64 (fieldD b:Nat))
theorem dRest_ok (b:Nat) (hb:b<18446744073709551616):Pure Tryz.prog 264 [.int .u64 b] [.t (.int .u64 (restD b:Nat))]:=by
 refine Pure.I Tryz.func264 [2] ?_
 simp-implicitDefEqProofs+decide only[go_sem,uandR hb]
 exact endF.V1 2 (.int .u64 (restD b:Nat))
theorem dKind_ok (b:Nat) (hb:b<18446744073709551616):Pure Tryz.prog 211 [.int .u64 b] [.t (.int .i64 (kindD b))]:=by
 have c1:=dField_ok b hb
 have c2:=dRest_ok b hb
 obtain⟨r,hr⟩:∃r,kindD b=r:=⟨_,rfl⟩
 rw[hr]
 unfold kindD at hr
 refine Pure.I Tryz.func211 [2] ?_
 refine Sm ?_
 refine CallG.P _ Tryz.call263 (c1) ?_
 refine Sm ?_
 apply selP_dec<;>intro h1
 ·rw[if_pos (by omega)]at hr
  refine Sm ?_
  refine CallG.P _ Tryz.call264 (c2) ?_
  refine Sm ?_
  apply selP_dec<;>intro h2
  ·rw[if_pos (by omega)]at hr
   subst hr
   refine Sm ?_
   exact endF.V1 2 (.int .i64 3)
  ·rw[if_neg (by omega)]at hr
   subst hr
   refine Sm ?_
   exact endF.V1 2 (.int .i64 4)
 ·rw[if_neg (by omega)]at hr
  refine Sm ?_
  refine CallG.P _ Tryz.call263 (c1) ?_
  refine Sm ?_
  apply selP_dec<;>intro h2
  ·rw[if_neg (by omega)]at hr
   subst hr
   refine Sm ?_
   exact endF.V1 2 (.int .i64 2)
  ·rw[if_pos (by omega)]at hr
   refine Sm ?_
   refine CallG.P _ Tryz.call264 (c2) ?_
   refine Sm ?_
   apply selP_dec<;>intro h3
   ·rw[if_neg (by omega)]at hr
    subst hr
    refine Sm ?_
    exact endF.V1 2 (.int .i64 1)
   ·rw[if_pos (by omega)]at hr
    subst hr
    refine Sm ?_
    exact endF.V1 2 (.int .i64 0)
theorem dNeg_ok (b:Nat) (hb:b<18446744073709551616):Pure Tryz.prog 227 [.int .u64 b] [.t (.bool (negD b))]:=by
 have hd:decide ((↑(b/9223372036854775808):Int)=1)=negD b:=decide_eq_decide.2 (by omega)
 refine Pure.I Tryz.func227 [2] ?_
 simp-implicitDefEqProofs+decide only[go_sem,hd]
 exact endF.V1 2 (.bool (negD b))
theorem dParts_ok (b:Nat) (hb:b<18446744073709551616):Pure Tryz.prog 228 [.int .u64 b] [.t (.int .u64 (partM b:Nat)),.t (.int .i64 (partE b))]:=by
 have c1:=dField_ok b hb
 have c2:=dRest_ok b hb
 have hfl:=fieldD_lt b
 have hrl:=restD_lt b
 have w1:IntKind.wrap .i64 ((fieldD b:Int)-1075)=(fieldD b:Int)-1075:=by rw[w64]<;>omega
 have w2:IntKind.wrap .u64 ((restD b:Int)+4503599627370496)=((restD b+4503599627370496:Nat):Int):=by rw[u64];omega
 refine Pure.I Tryz.func228 [2,3] ?_
 refine Sm ?_
 refine CallG.P _ Tryz.call263 (c1) ?_
 refine Sm ?_
 apply selP_dec<;>intro h1
 ·have em:partM b=restD b:=if_pos (by omega)
  have ee:partE b= -1074:=if_pos (by omega)
  rw[em,ee]
  refine Sm ?_
  refine CallG.P _ Tryz.call264 (c2) ?_
  refine Sm ?_
  exact endF.V [(2,.int .u64 (restD b:Nat)),(3,.int .i64 (-1074))] (vals_t (by simp-implicitDefEqProofs+decide only[go_sem]<;>rfl) rfl (vals_t (by simp-implicitDefEqProofs+decide only[go_sem]<;>rfl) rfl vals_nil))
 ·have em:partM b=restD b+4503599627370496:=if_neg (by omega)
  have ee:partE b=(fieldD b:Int)-1075:=if_neg (by omega)
  rw[em,ee]
  refine Sm ?_
  refine CallG.P _ Tryz.call264 (c2) ?_
  simp-implicitDefEqProofs+decide only[go_sem,w2]
  refine CallG.P _ Tryz.call263 (c1) ?_
  simp-implicitDefEqProofs+decide only[go_sem,w1]
  exact endF.V [(2,.int .u64 (restD b+4503599627370496:Nat)),(3,.int .i64 ((fieldD b:Int)-1075))] (vals_t (by simp-implicitDefEqProofs+decide only[go_sem]<;>rfl) rfl (vals_t (by simp-implicitDefEqProofs+decide only[go_sem]<;>rfl) rfl vals_nil))
theorem dSigned_ok (neg:Bool) (b:Nat) (hb:b<9223372036854775808):Pure Tryz.prog 141 [.bool neg,.int .u64 b] [.t (.int .u64 (sgnD neg b:Nat))]:=by
 have w2:IntKind.wrap .u64 ((b:Int)+9223372036854775808)=((b+9223372036854775808:Nat):Int):=by rw[u64];omega
 refine Pure.I Tryz.func141 [4] ?_
 refine Sm ?_
 cases neg
 ·refine Sm ?_
  exact endF.V1 4 (.int .u64 (sgnD false b:Nat))
 ·simp-implicitDefEqProofs+decide only[go_sem,w2]
  exact endF.V1 4 (.int .u64 (sgnD true b:Nat))
theorem dNan_ok:Pure Tryz.prog 212 [] [.t (.int .u64 (nanD:Nat))]:=by
 refine Pure.I Tryz.func212 [0] ?_
 refine Sm ?_
 exact endF.V1 0 (.int .u64 (nanD:Nat))
theorem dInf_ok (neg:Bool):Pure Tryz.prog 140 [.bool neg] [.t (.int .u64 (infD neg:Nat))]:=by
 have c1:=dSigned_ok neg 9218868437227405312 (by decide)
 refine Pure.I Tryz.func140 [2] ?_
 refine Sm ?_
 refine CallG.P _ Tryz.call141 (c1) ?_
 refine Sm ?_
 exact endF.V1 2 (.int .u64 (infD neg:Nat))
theorem dClean_ok (b:Nat) (hb:b<18446744073709551616):Pure Tryz.prog 157 [.int .u64 b] [.t (.int .u64 (cleanD b:Nat))]:=by
 have c1:=dKind_ok b hb
 have c2:=dNan_ok
 unfold cleanD
 refine Pure.I Tryz.func157 [2] ?_
 refine Sm ?_
 refine CallG.P _ Tryz.call211 (c1) ?_
 refine Sm ?_
 apply selP_dec<;>intro h1
 ·rw[if_pos h1]
  refine Sm ?_
  refine CallG.P _ Tryz.call212 (c2) ?_
  refine Sm ?_
  exact endF.V1 2 (.int .u64 (nanD:Nat))
 ·rw[if_neg h1]
  refine Sm ?_
  exact endF.V1 2 (.int .u64 (b:Nat))
theorem dFlip_ok (b:Nat) (hb:b<18446744073709551616):Pure Tryz.prog 168 [.int .u64 b] [.t (.int .u64 (flipD b:Nat))]:=by
 have c1:=dKind_ok b hb
 have c2:=dNan_ok
 have w2:IntKind.wrap .u64 ((b:Int)+9223372036854775808)=((flipB b:Nat):Int):=by rw[u64];unfold flipB;split<;>omega
 unfold flipD
 refine Pure.I Tryz.func168 [2] ?_
 refine Sm ?_
 refine CallG.P _ Tryz.call211 (c1) ?_
 refine Sm ?_
 apply selP_dec<;>intro h1
 ·rw[if_pos h1]
  refine Sm ?_
  refine CallG.P _ Tryz.call212 (c2) ?_
  refine Sm ?_
  exact endF.V1 2 (.int .u64 (nanD:Nat))
 ·rw[if_neg h1]
  simp-implicitDefEqProofs+decide only[go_sem,w2]
  exact endF.V1 2 (.int .u64 (flipB b:Nat))
theorem dMake0_ok (neg:Bool) (e:Int):Pure Tryz.prog 262 [.bool neg,.int .u64 0,.int .i64 e] [.t (.int .u64 (sgnD neg 0:Nat)),.t (.bool true)]:=by
 have c1:=dSigned_ok neg 0 (by decide)
 refine Pure.I Tryz.func262 [6,7] ?_
 refine Sm ?_
 refine CallG.P _ Tryz.call141 (c1) ?_
 refine Sm ?_
 exact endF.V [(6,.int .u64 (sgnD neg 0:Nat)),(7,.bool true)] (vals_t (by simp-implicitDefEqProofs+decide only[go_sem]<;>rfl) rfl (vals_t (by simp-implicitDefEqProofs+decide only[go_sem]<;>rfl) rfl vals_nil))
theorem dm_arith {d l m t:Nat} (hl:l<9007199254740992) (hd:d≤2045) (e2:d*4503599627370496+l=t*4503599627370496+m):
  ∃D R:Nat,IntKind.wrap .i64 (-1074+(d:Int)+1075)=(D:Int)∧IntKind.wrap .u64 (D:Int)=(D:Int)∧D*4503599627370496%18446744073709551616=D*4503599627370496∧(D*4503599627370496+l)%18446744073709551616=D*4503599627370496+l∧
   IntKind.wrap .u64 (((D*4503599627370496+l:Nat):Int)-4503599627370496)=(R:Int)∧R<9223372036854775808∧t*4503599627370496+m=R:=by
 have hP:d*4503599627370496≤2045*4503599627370496:=Nat.mul_le_mul_right _ hd
 have hQ:(d+1)*4503599627370496=d*4503599627370496+4503599627370496:=by rw[Nat.add_mul,Nat.one_mul]
 have key:∀P,P≤9209861237972664320→(P+4503599627370496)%18446744073709551616=P+4503599627370496∧(P+4503599627370496+l)%18446744073709551616=P+4503599627370496+l∧
   IntKind.wrap .u64 (((P+4503599627370496+l:Nat):Int)-4503599627370496)=((P+l:Nat):Int)∧P+l<9223372036854775808:=fun P hP=>by
  refine⟨Nat.mod_eq_of_lt (by omega),Nat.mod_eq_of_lt (by omega),?_,by omega⟩
  rw[u64];omega
 obtain⟨k1,k2,k3,k4⟩:=key _ hP
 refine⟨d+1,d*4503599627370496+l,?_,?_,?_,?_,?_,k4,e2.symm⟩
 ·clear hP hQ e2 k1 k2 k3 k4 key
  rw[show(-1074:Int)+(d:Int)+1075=((d+1:Nat):Int) by omega,w64]<;>omega
 ·clear hP hQ e2 k1 k2 k3 k4 key
  rw[u64];omega
 ·rw[hQ];exact k1
 ·rw[hQ];exact k2
 ·rw[hQ];exact k3
set_option maxHeartbeats 2000000 in
theorem dMake_ok (neg:Bool) (m:Nat) (u:Int) (h0:m≠0) (hm:m≤9007199254740992) (h1: -1074≤u) (h2:u≤971) (h3:m<4503599627370496→u= -1074):
  Pure Tryz.prog 262 [.bool neg,.int .u64 m,.int .i64 u] [.t (.int .u64 (if m=9007199254740992∧u=971 then 0 else encD neg m u:Nat)),.t (.bool (decide (¬(m=9007199254740992∧u=971))))]:=by
 have d0:decide ((m:Int)=0)=false:=decide_eq_false (by omega)
 have d1:decide (u< -1200)=false:=decide_eq_false (by omega)
 have d2:decide ((1200:Int)<u)=false:=decide_eq_false (by omega)
 refine Pure.I Tryz.func262 [6,7] ?_
 simp-implicitDefEqProofs+decide only[go_sem,d0,d1,d2]
 refine Goes.loop (X:=Nat×Nat) (fun x=>⟨ofL [(0,.t (.bool neg)),(1,.t (.int .u64 (x.1:Nat))),(2,.t (.int .i64 (u+(x.2:Nat))))],fun _=>none,0⟩)
  (fun x=>x.1≠0∧x.1*2^x.2=m) (fun x=>x.1) (m,0) ?_ ⟨h0,by simp⟩ ?_
 ·exact Wk.slots _ rfl rfl (by simp-implicitDefEqProofs+decide only[go_sem]<;>simp) (by simp-implicitDefEqProofs+decide only[go_sem])
 rintro ⟨k,j⟩ ⟨hk0,hkm⟩ J hJ
 dsimp only at hk0 hkm hJ⊢
 have hkle:k≤m:=by rw[←hkm];exact Nat.le_mul_of_pos_right _ (Nat.two_pow_pos j)
 have hj53:j≤53:=by
  rcases Nat.lt_or_ge 53 j with g|g
  ·have:=Nat.pow_le_pow_right (show 0<2 by decide) g
   have h5:1*2^j≤k*2^j:=Nat.mul_le_mul_right _ (by omega)
   omega
  ·exact g
 apply run_sound 200
 have ht:Int.tmod (k:Int) 2=((k%2:Nat):Int):=(Int.ofNat_tmod k 2).symm
 have hq:IntKind.wrap .u64 (Int.tdiv (k:Int) 2)=((k/2:Nat):Int):=by
  rw[show Int.tdiv (k:Int) 2=((k/2:Nat):Int) from(Int.ofNat_tdiv k 2).symm,u64];omega
 simp-implicitDefEqProofs+decide only[go_sem,ht]
 apply selP_dec<;>intro hc
 ·have hw:IntKind.wrap .i64 (u+(j:Int)+1)=u+((j+1:Nat):Int):=by rw[show u+(j:Int)+1=u+((j+1:Nat):Int) by omega,w64]<;>omega
  have he:k%2=0:=by omega
  simp-implicitDefEqProofs+decide only[go_sem,hw,hq]
  refine hJ (k/2,j+1) _ ⟨by dsimp only;omega,by dsimp only;rw[Nat.pow_succ,←hkm,Nat.mul_comm (2^j),←Nat.mul_assoc];congr 1;omega⟩ (by dsimp only;omega) (Wk.slots _ rfl rfl (by simp-implicitDefEqProofs+decide only[go_sem,hw,hq]<;>rfl) (by simp-implicitDefEqProofs+decide only[go_sem]))
 have hodd:k%2=1:=by omega
 have hk53:k<9007199254740992:=by omega
 have d3:decide ((9007199254740992:Int)≤(k:Int))=false:=decide_eq_false (by omega)
 have d4:decide (u+(j:Int)< -1074)=false:=decide_eq_false (by omega)
 simp-implicitDefEqProofs+decide only[go_sem,d3,d4]
 refine Goes.loop (X:=Nat×Nat) (fun x=>⟨ofL [(0,.t (.bool neg)),(1,.t (.int .u64 (x.1:Nat))),(2,.t (.int .i64 (-1074+(x.2:Nat))))],fun _=>none,0⟩)
  (fun x=>x.1<9007199254740992∧x.1*2^x.2=m*2^(u+1074).toNat∧x.2≤3000) (fun x=>x.2) (k,(u+1074).toNat+j) ?_ ⟨hk53,?_,?_⟩ ?_
 ·refine Wk.slots _ rfl rfl (by simp-implicitDefEqProofs+decide only[go_sem]<;>first|rfl|(congr 2;omega)) (by simp-implicitDefEqProofs+decide only[go_sem])
 ·dsimp only;rw[Nat.add_comm,Nat.pow_add,←Nat.mul_assoc,hkm]
 ·dsimp only;omega
 rintro ⟨l,d⟩ ⟨hl,hv,hd3⟩ J2 hJ2
 dsimp only at hl hv hd3 hJ2⊢
 apply run_sound 200
 have hend:=fun(g:4503599627370496≤l∨(-1074:Int)+(d:Int)= -1074)=>units_end (k:=l) (j:=0) (e:= -1074+(d:Int)) hm h1 h2 h3 rfl hv hl g
 refine Sm ?_
 apply selP_dec<;>intro hc
 ·by_cases hd0:d=0
  ·have d5:decide ((-1074:Int)< -1074+(d:Int))=false:=decide_eq_false (by omega)
   have d6:decide ((l:Int)<4503599627370496)=true:=decide_eq_true hc
   obtain⟨he1,-⟩:=hend (.inr (by omega))
   obtain⟨hu,rfl⟩:=he1 (by omega)
   have c2:=dSigned_ok neg l (by omega)
   have e:encD neg l u=sgnD neg l:=by rw[hu];unfold encD;simp
   rw[if_neg (fun h=>by omega),decide_eq_true (show ¬(l=9007199254740992∧u=971) from fun h=>by omega),e]
   simp-implicitDefEqProofs+decide only[go_sem,d5,d6]
   refine CallG.P _ Tryz.call141 (c2) ?_
   refine Sm ?_
   exact endF.V [(6,.int .u64 (sgnD neg l:Nat)),(7,.bool true)] (vals_t (by simp-implicitDefEqProofs+decide only[go_sem]<;>rfl) rfl (vals_t (by simp-implicitDefEqProofs+decide only[go_sem]<;>rfl) rfl vals_nil))
  ·obtain⟨d',rfl⟩:∃d',d=d'+1:=⟨d-1,by omega⟩
   have d5:decide ((-1074:Int)< -1074+((d'+1:Nat):Int))=true:=decide_eq_true (by omega)
   have w1:IntKind.wrap .u64 ((l:Int)*2)=((l*2:Nat):Int):=by rw[u64];omega
   have w2:IntKind.wrap .i64 (-1074+((d'+1:Nat):Int)-1)= -1074+(d':Int):=by rw[show(-1074:Int)+((d'+1:Nat):Int)-1= -1074+(d':Int) by omega,w64]<;>omega
   simp-implicitDefEqProofs+decide only[go_sem,d5,w1,w2]
   refine hJ2 (l*2,d') _ ⟨by dsimp only;omega,by dsimp only;rw[←hv,Nat.pow_succ,Nat.mul_assoc,Nat.mul_comm 2],by dsimp only;omega⟩ (by dsimp only;omega) (Wk.slots _ rfl rfl (by simp-implicitDefEqProofs+decide only[go_sem,w1,w2]<;>rfl) (by simp-implicitDefEqProofs+decide only[go_sem]))
 ·obtain⟨-,he2⟩:=hend (.inl (by omega))
  obtain⟨e1,e2⟩:=he2 (by omega)
  have d6:decide ((l:Int)<4503599627370496)=false:=decide_eq_false hc
  have hde:((-1074:Int)+(d:Int)+1074).toNat=d:=by omega
  rw[hde]at e2
  simp-implicitDefEqProofs+decide only[go_sem,d6]
  apply selP_dec<;>intro h5
  ·have g:=e1.1 h5
   rw[if_pos g,decide_eq_false (fun h=>h g)]
   refine Sm ?_
   exact endF.V [(6,.int .u64 (0:Nat)),(7,.bool false)] (vals_t (by simp-implicitDefEqProofs+decide only[go_sem]<;>rfl) rfl (vals_t (by simp-implicitDefEqProofs+decide only[go_sem]<;>rfl) rfl vals_nil))
  ·have g:¬(m=9007199254740992∧u=971):=fun h=>h5 (e1.2 h)
   rw[if_neg g,decide_eq_true g]
   obtain⟨D,R,w3,w4,hs,w5,w6,hRl,e3⟩:=dm_arith hl (show d≤2045 by omega) e2
   have c2:=dSigned_ok neg R hRl
   have e:encD neg m u=sgnD neg R:=by unfold encD;rw[e3]
   rw[e]
   simp-implicitDefEqProofs+decide only[go_sem,w3,w4,hs,w5,w6]
   refine CallG.P _ Tryz.call141 (c2) ?_
   refine Sm ?_
   exact endF.V [(6,.int .u64 (sgnD neg R:Nat)),(7,.bool true)] (vals_t (by simp-implicitDefEqProofs+decide only[go_sem]<;>rfl) rfl (vals_t (by simp-implicitDefEqProofs+decide only[go_sem]<;>rfl) rfl vals_nil))
theorem rne_small {m d:Nat} (hm:2*m<2^d):rne m d=0:=by
 have h2:m/2^d=0:=Nat.div_eq_of_lt (by omega)
 have h3:m%2^d=m:=Nat.mod_eq_of_lt (by omega)
 unfold rne
 rw[h2,h3,if_neg (by omega)]
theorem nv_single (x:Nat):nv [x]=x:=by simp[nv]
theorem nv_head {n:Nat} (h:n<18446744073709551616):∃x,(wordsOf n=[]∧n=0)∨(wordsOf n=[x]∧x=n∧n≠0):=by
 by_cases h0:n=0
 ·exact⟨0,.inl ⟨by rw[h0,wordsOf_zero],h0⟩⟩
 ·refine⟨n,.inr ⟨?_,rfl,h0⟩⟩
  rw[wordsOf,dif_neg h0,Nat.mod_eq_of_lt h,Nat.div_eq_of_lt h,wordsOf_zero]
theorem rne_rest (m d:Nat):(if 2^d<(m-m/2^d*2^d)*2∨((m-m/2^d*2^d)*2=2^d∧(m/2^d).testBit 0=true) then m/2^d+1 else m/2^d)=rne m d:=by
 have h:=Nat.div_add_mod m (2^d)
 have e:m-m/2^d*2^d=m%2^d:=by rw[Nat.mul_comm];omega
 unfold rne
 rw[e,Nat.mul_comm (m%2^d),Nat.testBit_zero]
 simp only[decide_eq_true_eq]
theorem cmpI_gt (a b:Nat):decide ((0:Int)<cmpI a b)=decide (b<a):=by
 unfold cmpI
 refine decide_eq_decide.2 ?_
 split
 ·omega
 ·split<;>omega
theorem cmpI_eq (a b:Nat):decide (cmpI a b=0)=decide (a=b):=by
 unfold cmpI
 refine decide_eq_decide.2 ?_
 split
 ·omega
 ·split<;>omega
set_option maxHeartbeats 4000000 in
theorem dOf_ok (neg:Bool) (l:List Nat) (e:Int) (hl:WOK l) (hll:l.length<1000) (he1: -1000000≤e) (he2:e≤1000000):
  Pure Tryz.prog 208 [.bool neg,sW l,.int .i64 e] [.t (.int .u64 (rndD neg (nv l) e:Nat))]:=by
 have WOK_one:WOK [1]:=fun y hy=>by rw[List.mem_singleton.1 hy];decide
 have c1:=rTrim_ok l (by omega)
 rw[trimW_eq hl]at c1
 obtain⟨M,hM⟩:∃M,nv l=M:=⟨_,rfl⟩
 have hMlen:(wordsOf M).length≤l.length:=by rw[←hM];exact len_wordsOf (nv_lt hl)
 rw[hM]at c1⊢
 have c2:=dSigned_ok neg 0 (by decide)
 have c3:=dInf_ok neg
 have c4:=rBits_ok (wordsOf M) (WOK_wordsOf _) (by omega)
 rw[nv_wordsOf]at c4
 obtain⟨L,hL⟩:∃L,bitLen M=L:=⟨_,rfl⟩
 rw[hL]at c4
 have hLb:L≤64000:=by
  have h1:=nv_lt hl
  rw[hM,show(18446744073709551616:Nat)=2^64 from rfl,←Nat.pow_mul]at h1
  have:=bitLen_lt h1
  omega
 have hlen0:decide (((wordsOf M).length:Int)=0)=decide (M=0):=decide_eq_decide.2 (by
   constructor
   · intro h
     have h2:wordsOf M=[]:=List.length_eq_zero_iff.1 (by omega)
     rw[←nv_wordsOf M,h2];rfl
   ·intro h;rw[h,wordsOf_zero];rfl)
 refine Pure.I Tryz.func208 [6] ?_
 refine SmV ?_
 refine CallG.P _ Tryz.call202 (c1) ?_
 simp-implicitDefEqProofs+decide only[go_sem,List.length_map,hlen0]
 apply selP_dec<;>intro h0
 ·subst h0
  refine Sm ?_
  refine CallG.P _ Tryz.call141 (c2) ?_
  refine Sm ?_
  exact endF.V1 6 (.int .u64 (sgnD neg 0:Nat))
 have hr:rndD neg M e=if 971<unitD M e then infD neg else encD neg (unitsD M e) (unitD M e):=if_neg h0
 rw[hr]
 clear hr
 have hbb:=bitLen_bounds h0
 rw[hL]at hbb
 have hud:unitD M e=max ((L:Int)+e-53) (-1074):=by unfold unitD;rw[hL]
 simp only[sW]at c4
 refine Sm ?_
 refine CallG.P _ Tryz.call139 (c4) ?_
 refine Sm ?_
 apply selP_dec<;>intro h1
 ·rw[if_pos (by omega)]
  refine Sm ?_
  refine CallG.P _ Tryz.call140 (c3) ?_
  refine Sm ?_
  exact endF.V1 6 (.int .u64 (infD neg:Nat))
 have w1:IntKind.wrap .i64 (-1200-(L:Int))= -1200-(L:Int):=by rw[w64]<;>omega
 simp-implicitDefEqProofs+decide only[go_sem,w1]
 apply selP_dec<;>intro h2
 ·have hu:unitD M e= -1074:=by omega
  obtain⟨d,hd⟩:∃d:Nat,(unitD M e-e).toNat=d:=⟨_,rfl⟩
  have hz:unitsD M e=0:=by
   unfold unitsD
   rw[if_neg (by omega),hd]
   apply rne_small
   have:=Nat.pow_le_pow_right (show 0<2 by decide) (show L+1≤d by omega)
   rw[Nat.pow_succ]at this
   omega
  rw[if_neg (by omega),hz,hu]
  refine Sm ?_
  refine CallG.P _ Tryz.call141 (c2) ?_
  refine Sm ?_
  exact endF.V1 6 (.int .u64 (sgnD neg 0:Nat))
 have w2:IntKind.wrap .i64 ((L:Int)+e)=(L:Int)+e:=by rw[w64]<;>omega
 have w3:IntKind.wrap .i64 ((L:Int)+e-53)=(L:Int)+e-53:=by rw[w64]<;>omega
 have hx:(if (L:Int)+e-53< -1074 then-1074 else (L:Int)+e-53)=unitD M e:=by rw[hud];split<;>omega
 simp-implicitDefEqProofs+decide only[go_sem,w2,w3,hx]
 apply selP_dec<;>intro h3
 ·rw[if_pos h3]
  refine Sm ?_
  refine CallG.P _ Tryz.call140 (c3) ?_
  refine Sm ?_
  exact endF.V1 6 (.int .u64 (infD neg:Nat))
 rw[if_neg h3]
 have hul:=unitsD_le (e:=e) h0
 have hug:=unitsD_ge (e:=e) h0
 have hu1: -1074≤unitD M e:=by omega
 have w4:IntKind.wrap .i64 (e-unitD M e)=e-unitD M e:=by rw[w64]<;>omega
 have w5:IntKind.wrap .i64 (unitD M e-e)=unitD M e-e:=by rw[w64]<;>omega
 have hsmall:unitsD M e<4503599627370496→unitD M e= -1074:=fun h=>by
  rcases Classical.em (unitD M e= -1074) with g|g
  ·exact g
  ·have:=hug g;omega
 have c9:=dMake_ok neg (unitsD M e) (unitD M e)
 have c10:=dMake0_ok neg (unitD M e)
 obtain⟨y,hy⟩:=nv_head (show unitsD M e<18446744073709551616 by omega)
 have henc:(unitsD M e=9007199254740992∧unitD M e=971)→encD neg (unitsD M e) (unitD M e)=infD neg:=fun h=>by rw[h.1,h.2];rfl
 have henc0:unitsD M e=0→encD neg (unitsD M e) (unitD M e)=sgnD neg 0:=fun h=>by
  have:=hsmall (by omega)
  rw[h,this];rfl
 by_cases h4:unitD M e≤e
 ·obtain⟨j,hj⟩:∃j:Nat,e-unitD M e=(j:Int):=⟨(e-unitD M e).toNat,by omega⟩
  have hun:unitsD M e=M*2^j:=by
   unfold unitsD
   rw[if_pos h4,hj,Int.toNat_natCast]
  have c5:=rShl_ok (wordsOf M) j (WOK_wordsOf _) (by omega) (by omega)
  rw[nv_wordsOf,←hun]at c5
  have d5:decide (e<unitD M e)=false:=decide_eq_false (by omega)
  have w4:=w4.trans hj
  simp only[sW]at c5
  simp-implicitDefEqProofs+decide only[go_sem,w4]
  refine CallG.P _ Tryz.call143 (c5) ?_
  simp-implicitDefEqProofs+decide only[go_sem,d5]
  rcases hy with ⟨hy1,hy2⟩|⟨hy1,hy2,hy0⟩
  ·rw[hy1]at*
   rw[henc0 hy2]
   simp-implicitDefEqProofs+decide only[go_sem,List.map_nil,List.length_nil]
   refine CallG.P _ Tryz.call262 (c10) ?_
   refine Sm ?_
   exact endF.V1 6 (.int .u64 (sgnD neg 0:Nat))
  ·rw[hy1]at*
   subst hy2
   have c9:=c9 hy0 hul hu1 (by omega) hsmall
   by_cases g:unitsD M e=9007199254740992∧unitD M e=971
   ·rw[if_pos g,decide_eq_false (fun h=>h g)]at c9
    rw[henc g]
    simp-implicitDefEqProofs+decide only[go_sem,List.map_cons,List.map_nil,U]
    refine CallG.P _ Tryz.call262 (c9) ?_
    refine Sm ?_
    refine CallG.P _ Tryz.call140 (c3) ?_
    refine Sm ?_
    exact endF.V1 6 (.int .u64 (infD neg:Nat))
   ·rw[if_neg g,decide_eq_true g]at c9
    simp-implicitDefEqProofs+decide only[go_sem,List.map_cons,List.map_nil,U]
    refine CallG.P _ Tryz.call262 (c9) ?_
    refine Sm ?_
    exact endF.V1 6 (.int .u64 (encD neg (unitsD M e) (unitD M e):Nat))
 ·obtain⟨d,hd⟩:∃d:Nat,unitD M e-e=(d:Int):=⟨(unitD M e-e).toNat,by omega⟩
  have hun:unitsD M e=rne M d:=by
   unfold unitsD
   rw[if_neg h4,hd,Int.toNat_natCast]
  have w5:=w5.trans hd
  have hd1:d≤70000:=by omega
  have d5:decide (e<unitD M e)=true:=decide_eq_true (by omega)
  have c5:=rShlN_ok (wordsOf M) (e-unitD M e) (WOK_wordsOf _) (by omega) (by omega)
  rw[nv_wordsOf]at c5
  have c6:=rShr_ok (wordsOf M) d (WOK_wordsOf _) (by omega) (by omega)
  rw[nv_wordsOf]at c6
  obtain⟨Q,hQ⟩:∃Q,M/2^d=Q:=⟨_,rfl⟩
  have hrest:=rne_rest M d
  rw[hQ]at c6 hrest
  have hQle:Q≤M:=by rw[←hQ];exact Nat.div_le_self _ _
  have hQM:Q*2^d≤M:=by rw[←hQ];exact Nat.div_mul_le_self _ _
  have hlQ:=len_mono hQle
  have c7:=rShl_ok (wordsOf Q) d (WOK_wordsOf _) (by omega) (by omega)
  rw[nv_wordsOf]at c7
  have hl7:=len_mono hQM
  have c8:=rSub_ok (wordsOf M) (wordsOf (Q*2^d)) (WOK_wordsOf _) (WOK_wordsOf _) (by omega) (by omega) (by rw[nv_wordsOf,nv_wordsOf];exact hQM)
  rw[nv_wordsOf,nv_wordsOf]at c8
  obtain⟨R,hR⟩:∃R,M-Q*2^d=R:=⟨_,rfl⟩
  rw[hR]at c8 hrest
  have hlR:=len_mono (show R≤M by omega)
  have c11:=rShl_ok (wordsOf R) 1 (WOK_wordsOf _) (by omega) (by omega)
  rw[nv_wordsOf,Nat.pow_one]at c11
  have c12:=rShl_ok [1] d WOK_one (by simp) (by omega)
  rw[nv_single,Nat.one_mul]at c12
  have hl2:(wordsOf (R*2)).length≤100000:=by
   have:=len_prod R 2
   have h3:(wordsOf 2).length≤1:=len_wordsOf (by decide)
   omega
  have hlP:(wordsOf (2^d)).length≤100000:=by
   obtain⟨k,hk⟩:∃k,k=100000:=⟨100000,rfl⟩
   rw[←hk]
   refine len_wordsOf ?_
   rw[show(18446744073709551616:Nat)=2^64 from rfl,←Nat.pow_mul]
   exact Nat.pow_lt_pow_right (by decide) (by omega)
  have c13:=rCmp_ok (wordsOf (R*2)) (wordsOf (2^d)) (WOK_wordsOf _) (WOK_wordsOf _) (by omega) (by omega)
  rw[nv_wordsOf,nv_wordsOf]at c13
  have g1:=cmpI_gt (R*2) (2^d)
  have g2:=cmpI_eq (R*2) (2^d)
  obtain⟨K,hK⟩:∃K,cmpI (R*2) (2^d)=K:=⟨_,rfl⟩
  rw[hK]at c13 g1 g2
  have c14:=rBit_ok (wordsOf Q) 0 (WOK_wordsOf _) (by omega) (by omega)
  rw[nv_wordsOf]at c14
  have c15:=rAdd_ok (wordsOf Q) [1] (WOK_wordsOf _) WOK_one (by omega) (by simp)
  rw[nv_wordsOf,nv_single]at c15
  have e1:sW [1]=T.slice [T.int .u64 1]:=rfl
  rw[e1]at c12 c15
  have hnz:decide ((0:Int)<1)=true:=rfl
  simp only[sW]at c5 c6 c7 c8 c11 c13 c14 c15
  simp-implicitDefEqProofs+decide only[go_sem,w4]
  refine CallG.P _ Tryz.call143 (c5) ?_
  simp-implicitDefEqProofs+decide only[go_sem,d5,w5]
  refine CallG.P _ Tryz.call203 (c6) ?_
  simp-implicitDefEqProofs+decide only[go_sem,w5]
  refine CallG.P _ Tryz.call143 (c7) ?_
  refine Sm ?_
  refine CallG.P _ Tryz.call207 (c8) ?_
  refine Sm ?_
  refine CallG.P _ Tryz.call143 (c11) ?_
  simp-implicitDefEqProofs+decide only[go_sem,w5]
  refine CallG.P _ Tryz.call143 (c12) ?_
  refine Sm ?_
  refine CallG.P _ Tryz.call206 (c13) ?_
  simp-implicitDefEqProofs+decide only[go_sem,g1]
  apply selP_dec<;>intro h5
  ·have hu:Q+1=unitsD M e:=by rw[hun,←hrest,if_pos (.inl h5)]
   rw[hu]at c15
   refine Sm ?_
   refine CallG.P _ Tryz.call236 (c15) ?_
   simp-implicitDefEqProofs+decide only[go_sem,List.length_map]
   rcases hy with ⟨hy1,hy2⟩|⟨hy1,hy2,hy0⟩
   ·rw[hy1]at*
    rw[henc0 hy2]
    simp-implicitDefEqProofs+decide only[go_sem,List.map_nil,List.length_nil]
    refine CallG.P _ Tryz.call262 (c10) ?_
    refine Sm ?_
    exact endF.V1 6 (.int .u64 (sgnD neg 0:Nat))
   ·rw[hy1]at*
    subst hy2
    have c9:=c9 hy0 hul hu1 (by omega) hsmall
    by_cases g:unitsD M e=9007199254740992∧unitD M e=971
    ·rw[if_pos g,decide_eq_false (fun h=>h g)]at c9
     rw[henc g]
     simp-implicitDefEqProofs+decide only[go_sem,List.map_cons,List.map_nil,U]
     refine CallG.P _ Tryz.call262 (c9) ?_
     refine Sm ?_
     refine CallG.P _ Tryz.call140 (c3) ?_
     refine Sm ?_
     exact endF.V1 6 (.int .u64 (infD neg:Nat))
    ·rw[if_neg g,decide_eq_true g]at c9
     simp-implicitDefEqProofs+decide only[go_sem,List.map_cons,List.map_nil,U]
     refine CallG.P _ Tryz.call262 (c9) ?_
     refine Sm ?_
     exact endF.V1 6 (.int .u64 (encD neg (unitsD M e) (unitD M e):Nat))
  simp-implicitDefEqProofs+decide only[go_sem,g2]
  apply selP_dec<;>intro h6
  ·obtain⟨tb,htb⟩:∃tb,Q.testBit 0=tb:=⟨_,rfl⟩
   rw[htb]at c14 hrest
   refine Sm ?_
   refine CallG.P _ Tryz.call204 (c14) ?_
   cases tb
   ·have hu:Q=unitsD M e:=by rw[hun,←hrest,if_neg (fun h=>h.elim h5 (fun h=>by cases h.2))]
    rw[hu]
    simp-implicitDefEqProofs+decide only[go_sem,List.length_map]
    rcases hy with ⟨hy1,hy2⟩|⟨hy1,hy2,hy0⟩
    ·rw[hy1]at*
     rw[henc0 hy2]
     simp-implicitDefEqProofs+decide only[go_sem,List.map_nil,List.length_nil]
     refine CallG.P _ Tryz.call262 (c10) ?_
     refine Sm ?_
     exact endF.V1 6 (.int .u64 (sgnD neg 0:Nat))
    ·rw[hy1]at*
     subst hy2
     have c9:=c9 hy0 hul hu1 (by omega) hsmall
     by_cases g:unitsD M e=9007199254740992∧unitD M e=971
     ·rw[if_pos g,decide_eq_false (fun h=>h g)]at c9
      rw[henc g]
      simp-implicitDefEqProofs+decide only[go_sem,List.map_cons,List.map_nil,U]
      refine CallG.P _ Tryz.call262 (c9) ?_
      refine Sm ?_
      refine CallG.P _ Tryz.call140 (c3) ?_
      refine Sm ?_
      exact endF.V1 6 (.int .u64 (infD neg:Nat))
     ·rw[if_neg g,decide_eq_true g]at c9
      simp-implicitDefEqProofs+decide only[go_sem,List.map_cons,List.map_nil,U]
      refine CallG.P _ Tryz.call262 (c9) ?_
      refine Sm ?_
      exact endF.V1 6 (.int .u64 (encD neg (unitsD M e) (unitD M e):Nat))
   ·have hu:Q+1=unitsD M e:=by rw[hun,←hrest,if_pos (.inr ⟨h6,rfl⟩)]
    rw[hu]at c15
    refine Sm ?_
    refine CallG.P _ Tryz.call236 (c15) ?_
    simp-implicitDefEqProofs+decide only[go_sem,List.length_map]
    rcases hy with ⟨hy1,hy2⟩|⟨hy1,hy2,hy0⟩
    ·rw[hy1]at*
     rw[henc0 hy2]
     simp-implicitDefEqProofs+decide only[go_sem,List.map_nil,List.length_nil]
     refine CallG.P _ Tryz.call262 (c10) ?_
     refine Sm ?_
     exact endF.V1 6 (.int .u64 (sgnD neg 0:Nat))
    ·rw[hy1]at*
     subst hy2
     have c9:=c9 hy0 hul hu1 (by omega) hsmall
     by_cases g:unitsD M e=9007199254740992∧unitD M e=971
     ·rw[if_pos g,decide_eq_false (fun h=>h g)]at c9
      rw[henc g]
      simp-implicitDefEqProofs+decide only[go_sem,List.map_cons,List.map_nil,U]
      refine CallG.P _ Tryz.call262 (c9) ?_
      refine Sm ?_
      refine CallG.P _ Tryz.call140 (c3) ?_
      refine Sm ?_
      exact endF.V1 6 (.int .u64 (infD neg:Nat))
     ·rw[if_neg g,decide_eq_true g]at c9
      simp-implicitDefEqProofs+decide only[go_sem,List.map_cons,List.map_nil,U]
      refine CallG.P _ Tryz.call262 (c9) ?_
      refine Sm ?_
      exact endF.V1 6 (.int .u64 (encD neg (unitsD M e) (unitD M e):Nat))
  ·have hu:Q=unitsD M e:=by rw[hun,←hrest,if_neg (fun h=>h.elim h5 (fun h=>h6 h.1))]
   rw[hu]
   simp-implicitDefEqProofs+decide only[go_sem,List.length_map]
   rcases hy with ⟨hy1,hy2⟩|⟨hy1,hy2,hy0⟩
   ·rw[hy1]at*
    rw[henc0 hy2]
    simp-implicitDefEqProofs+decide only[go_sem,List.map_nil,List.length_nil]
    refine CallG.P _ Tryz.call262 (c10) ?_
    refine Sm ?_
    exact endF.V1 6 (.int .u64 (sgnD neg 0:Nat))
   ·rw[hy1]at*
    subst hy2
    have c9:=c9 hy0 hul hu1 (by omega) hsmall
    by_cases g:unitsD M e=9007199254740992∧unitD M e=971
    ·rw[if_pos g,decide_eq_false (fun h=>h g)]at c9
     rw[henc g]
     simp-implicitDefEqProofs+decide only[go_sem,List.map_cons,List.map_nil,U]
     refine CallG.P _ Tryz.call262 (c9) ?_
     refine Sm ?_
     refine CallG.P _ Tryz.call140 (c3) ?_
     refine Sm ?_
     exact endF.V1 6 (.int .u64 (infD neg:Nat))
    ·rw[if_neg g,decide_eq_true g]at c9
     simp-implicitDefEqProofs+decide only[go_sem,List.map_cons,List.map_nil,U]
     refine CallG.P _ Tryz.call262 (c9) ?_
     refine Sm ?_
     exact endF.V1 6 (.int .u64 (encD neg (unitsD M e) (unitD M e):Nat))
theorem len_part {m d:Nat} (hm:m<9007199254740992) (hd:d≤2100):(wordsOf (m*2^d)).length≤40:=by
 obtain⟨k,hk⟩:∃k,k=40:=⟨40,rfl⟩
 rw[←hk]
 refine len_wordsOf ?_
 rw[show(18446744073709551616:Nat)=2^64 from rfl,←Nat.pow_mul]
 have h1:m*2^d<2^53*2^d:=Nat.mul_lt_mul_of_pos_right hm (Nat.two_pow_pos d)
 rw[←Nat.pow_add]at h1
 exact Nat.lt_of_lt_of_le h1 (Nat.pow_le_pow_right (by decide) (by omega))
theorem WOK_single {x:Nat} (h:x<18446744073709551616):WOK [x]:=fun y hy=>by rw[List.mem_singleton.1 hy];exact h
set_option maxHeartbeats 2000000 in
theorem dNums_ok (a b:Nat) (ha:a<18446744073709551616) (hb:b<18446744073709551616) (fa:fieldD a≠2047) (fb:fieldD b≠2047):Pure Tryz.prog 226 [.int .u64 a,.int .u64 b] [.t (.int .u64 (numsD a b:Nat))]:=by
 have p1:=dParts_ok a ha
 have p2:=dParts_ok b hb
 have n1:=dNeg_ok a ha
 have n2:=dNeg_ok b hb
 have b1:=partE_bnd fa
 have b2:=partE_bnd fb
 have m1:=partM_lt a
 have m2:=partM_lt b
 obtain⟨r,hr⟩:∃r,numsD a b=r:=⟨_,rfl⟩
 rw[hr]
 unfold numsD addE addX at hr
 generalize negD a=s at*
 generalize negD b=t at*
 generalize partM a=m at*
 generalize partM b=n at*
 generalize partE a=e at*
 generalize partE b=f at*
 obtain⟨low,hlow⟩:∃low,min e f=low:=⟨_,rfl⟩
 rw[hlow]at hr
 obtain⟨d1,hd1⟩:∃d1:Nat,e-low=(d1:Int):=⟨(e-low).toNat,by omega⟩
 obtain⟨d2,hd2⟩:∃d2:Nat,f-low=(d2:Int):=⟨(f-low).toNat,by omega⟩
 rw[hd1,hd2,Int.toNat_natCast,Int.toNat_natCast]at hr
 have w1:IntKind.wrap .i64 (e-low)=(d1:Int):=by rw[hd1,w64]<;>omega
 have w2:IntKind.wrap .i64 (f-low)=(d2:Int):=by rw[hd2,w64]<;>omega
 have hmin:(if e<f then e else f)=low:=by split<;>omega
 have hmin2:(if f<e then f else e)=low:=by split<;>omega
 have c1:=rShl_ok [m] d1 (WOK_single (by omega)) (by simp) (by omega)
 have c2:=rShl_ok [n] d2 (WOK_single (by omega)) (by simp) (by omega)
 rw[nv_single]at c1 c2
 have l1:=len_part m1 (show d1≤2100 by omega)
 have l2:=len_part m2 (show d2≤2100 by omega)
 generalize m*2^d1=x at*
 generalize n*2^d2=y at*
 have ls:=len_sum x y
 have co:∀(neg:Bool) (z:Nat),(wordsOf z).length≤100→Pure Tryz.prog 208 [.bool neg,sW (wordsOf z),.int .i64 low] [.t (.int .u64 (rndD neg z low:Nat))]:=fun neg z hz=>by
  have:=dOf_ok neg (wordsOf z) low (WOK_wordsOf _) (by omega) (by omega) (by omega)
  rw[nv_wordsOf]at this
  exact this
 have ca:=rAdd_ok (wordsOf x) (wordsOf y) (WOK_wordsOf _) (WOK_wordsOf _) (by omega) (by omega)
 have cc:=rCmp_ok (wordsOf x) (wordsOf y) (WOK_wordsOf _) (WOK_wordsOf _) (by omega) (by omega)
 have cs:=fun(h:y≤x)=>rSub_ok (wordsOf x) (wordsOf y) (WOK_wordsOf _) (WOK_wordsOf _) (by omega) (by omega) (by rw[nv_wordsOf,nv_wordsOf];exact h)
 have ct:=fun(h:x≤y)=>rSub_ok (wordsOf y) (wordsOf x) (WOK_wordsOf _) (WOK_wordsOf _) (by omega) (by omega) (by rw[nv_wordsOf,nv_wordsOf];exact h)
 simp only[nv_wordsOf]at ca cc cs ct
 have g1:=cmpI_gt x y
 have g2:=cmpI_eq x y
 obtain⟨K,hK⟩:∃K,cmpI x y=K:=⟨_,rfl⟩
 rw[hK]at cc g1 g2
 have e1:∀z:Nat,sW [z]=T.slice [T.int .u64 z]:=fun _=>rfl
 rw[e1]at c1 c2
 simp only[sW]at ca cc cs ct co
 refine Pure.I Tryz.func226 [4] ?_
 refine Sm ?_
 refine CallG.P _ Tryz.call228 (p1) ?_
 refine Sm ?_
 refine CallG.P _ Tryz.call228 (p2) ?_
 simp-implicitDefEqProofs+decide only[go_sem,hmin,hmin2,w1]
 refine CallG.P _ Tryz.call143 (c1) ?_
 simp-implicitDefEqProofs+decide only[go_sem,w2]
 refine CallG.P _ Tryz.call143 (c2) ?_
 refine Sm ?_
 refine CallG.P _ Tryz.call227 (n1) ?_
 refine Sm ?_
 refine CallG.P _ Tryz.call227 (n2) ?_
 refine Sm ?_
 apply selP_dec<;>intro h1
 ·rw[if_pos h1]at hr
  have co:=co s (x+y) (by omega)
  rw[hr]at co
  refine Sm ?_
  refine CallG.P _ Tryz.call236 (ca) ?_
  refine Sm ?_
  refine CallG.P _ Tryz.call208 (co) ?_
  refine Sm ?_
  exact endF.V1 4 (.int .u64 (r:Nat))
 rw[if_neg h1]at hr
 refine Sm ?_
 refine CallG.P _ Tryz.call206 (cc) ?_
 simp-implicitDefEqProofs+decide only[go_sem,g2]
 apply selP_dec<;>intro h2
 ·rw[if_pos h2]at hr
  subst hr
  refine Sm ?_
  exact endF.V1 4 (.int .u64 (0:Nat))
 rw[if_neg h2]at hr
 simp-implicitDefEqProofs+decide only[go_sem,g1]
 apply selP_dec<;>intro h3
 ·rw[if_pos h3]at hr
  have co:=co s (x-y) (Nat.le_trans (len_mono (Nat.sub_le x y)) (by omega))
  rw[hr]at co
  have cs:=cs (by omega)
  refine Sm ?_
  refine CallG.P _ Tryz.call207 (cs) ?_
  refine Sm ?_
  refine CallG.P _ Tryz.call208 (co) ?_
  refine Sm ?_
  exact endF.V1 4 (.int .u64 (r:Nat))
 ·rw[if_neg h3]at hr
  have co:=co t (y-x) (Nat.le_trans (len_mono (Nat.sub_le y x)) (by omega))
  rw[hr]at co
  have ct:=ct (by omega)
  refine Sm ?_
  refine CallG.P _ Tryz.call207 (ct) ?_
  refine Sm ?_
  refine CallG.P _ Tryz.call208 (co) ?_
  refine Sm ?_
  exact endF.V1 4 (.int .u64 (r:Nat))
theorem dAdd_ok (a b:Nat) (ha:a<18446744073709551616) (hb:b<18446744073709551616):Pure Tryz.prog 169 [.int .u64 a,.int .u64 b] [.t (.int .u64 (addD a b:Nat))]:=by
 have c1:=dKind_ok a ha
 have c2:=dKind_ok b hb
 have c3:=dNan_ok
 have ka:kindD a≠3→kindD a≠4→fieldD a≠2047:=fun h3 h4=>kind_fin h3 h4
 have kb:kindD b≠3→kindD b≠4→fieldD b≠2047:=fun h3 h4=>kind_fin h3 h4
 have cn:=dNums_ok a b ha hb
 obtain⟨r,hr⟩:∃r,addD a b=r:=⟨_,rfl⟩
 rw[hr]
 unfold addD at hr
 generalize kindD a=k at*
 generalize kindD b=l at*
 have d4:decide ((a:Int)≠(b:Int))=decide (a≠b):=decide_eq_decide.2 (by omega)
 refine Pure.I Tryz.func169 [4] ?_
 refine Sm ?_
 refine CallG.P _ Tryz.call211 (c1) ?_
 refine Sm ?_
 refine CallG.P _ Tryz.call211 (c2) ?_
 by_cases h1:k=4
 ·have e1:decide (k=4)=true:=decide_eq_true h1
  rw[if_pos (.inl h1)]at hr
  subst hr
  simp-implicitDefEqProofs+decide only[go_sem,e1]
  refine CallG.P _ Tryz.call212 (c3) ?_
  refine Sm ?_
  exact endF.V1 4 (.int .u64 (nanD:Nat))
 have e1:decide (k=4)=false:=decide_eq_false h1
 by_cases h2:l=4
 ·have e2:decide (l=4)=true:=decide_eq_true h2
  rw[if_pos (.inr h2)]at hr
  subst hr
  simp-implicitDefEqProofs+decide only[go_sem,e1,e2]
  refine CallG.P _ Tryz.call212 (c3) ?_
  refine Sm ?_
  exact endF.V1 4 (.int .u64 (nanD:Nat))
 have e2:decide (l=4)=false:=decide_eq_false h2
 rw[if_neg (fun h=>h.elim h1 h2)]at hr
 by_cases h3:k=3
 ·have e3:decide (k=3)=true:=decide_eq_true h3
  by_cases h4:l=3∧a≠b
  ·have e4:decide (l=3)=true:=decide_eq_true h4.1
   have e5:decide (a≠b)=true:=decide_eq_true h4.2
   rw[if_pos ⟨h3,h4.1,h4.2⟩]at hr
   subst hr
   simp-implicitDefEqProofs+decide only[go_sem,e1,e2,e3,e4,d4,e5]
   refine CallG.P _ Tryz.call212 (c3) ?_
   refine Sm ?_
   exact endF.V1 4 (.int .u64 (nanD:Nat))
  ·rw[if_neg (fun h=>h4 h.2),if_pos h3]at hr
   subst hr
   by_cases h5:l=3
   ·have e4:decide (l=3)=true:=decide_eq_true h5
    have e5:decide (a≠b)=false:=decide_eq_false (fun h=>h4 ⟨h5,h⟩)
    simp-implicitDefEqProofs+decide only[go_sem,e1,e2,e3,e4,d4,e5]
    exact endF.V1 4 (.int .u64 (a:Nat))
   ·have e4:decide (l=3)=false:=decide_eq_false h5
    simp-implicitDefEqProofs+decide only[go_sem,e1,e2,e3,e4]
    exact endF.V1 4 (.int .u64 (a:Nat))
 have e3:decide (k=3)=false:=decide_eq_false h3
 rw[if_neg (fun h=>h3 h.1),if_neg h3]at hr
 by_cases h5:l=3
 ·have e4:decide (l=3)=true:=decide_eq_true h5
  rw[if_pos h5]at hr
  subst hr
  simp-implicitDefEqProofs+decide only[go_sem,e1,e2,e3,e4]
  exact endF.V1 4 (.int .u64 (b:Nat))
 ·have e4:decide (l=3)=false:=decide_eq_false h5
  rw[if_neg h5]at hr
  have cn:=cn (ka h3 h1) (kb h5 h2)
  rw[hr]at cn
  simp-implicitDefEqProofs+decide only[go_sem,e1,e2,e3,e4]
  refine CallG.P _ Tryz.call226 (cn) ?_
  refine Sm ?_
  exact endF.V1 4 (.int .u64 (r:Nat))
theorem dSub_ok (a b:Nat) (ha:a<18446744073709551616) (hb:b<18446744073709551616):Pure Tryz.prog 170 [.int .u64 a,.int .u64 b] [.t (.int .u64 (addD a (flipD b):Nat))]:=by
 have hf:flipD b<18446744073709551616:=by
  unfold flipD
  split
  ·decide
  ·unfold flipB;split<;>omega
 have c1:=dFlip_ok b hb
 have c2:=dAdd_ok a (flipD b) ha hf
 refine Pure.I Tryz.func170 [4] ?_
 refine Sm ?_
 refine CallG.P _ Tryz.call168 (c1) ?_
 refine Sm ?_
 refine CallG.P _ Tryz.call169 (c2) ?_
 refine Sm ?_
 exact endF.V1 4 (.int .u64 (addD a (flipD b):Nat))
set_option maxHeartbeats 4000000 in
theorem dMul_ok (a b:Nat) (ha:a<18446744073709551616) (hb:b<18446744073709551616):Pure Tryz.prog 171 [.int .u64 a,.int .u64 b] [.t (.int .u64 (mulD a b:Nat))]:=by
 have c1:=dKind_ok a ha
 have c2:=dKind_ok b hb
 have c3:=dNan_ok
 have n1:=dNeg_ok a ha
 have n2:=dNeg_ok b hb
 have p1:=dParts_ok a ha
 have p2:=dParts_ok b hb
 have b1:=@partE_bnd a
 have b2:=@partE_bnd b
 have m1:=partM_lt a
 have m2:=partM_lt b
 have ka:kindD a≠3→kindD a≠4→fieldD a≠2047:=fun h3 h4=>kind_fin h3 h4
 have kb:kindD b≠3→kindD b≠4→fieldD b≠2047:=fun h3 h4=>kind_fin h3 h4
 obtain⟨r,hr⟩:∃r,mulD a b=r:=⟨_,rfl⟩
 rw[hr]
 unfold mulD at hr
 have ci:=dInf_ok (!decide (negD a=negD b))
 generalize kindD a=k at*
 generalize kindD b=l at*
 generalize negD a=s at*
 generalize negD b=t at*
 generalize partM a=m at*
 generalize partM b=n at*
 generalize partE a=e at*
 generalize partE b=f at*
 refine Pure.I Tryz.func171 [4] ?_
 refine Sm ?_
 refine CallG.P _ Tryz.call211 (c1) ?_
 refine Sm ?_
 refine CallG.P _ Tryz.call211 (c2) ?_
 refine Sm ?_
 refine CallG.P _ Tryz.call227 (n1) ?_
 refine Sm ?_
 refine CallG.P _ Tryz.call227 (n2) ?_
 by_cases h1:k=4
 ·have e1:decide (k=4)=true:=decide_eq_true h1
  rw[if_pos (.inl h1)]at hr
  subst hr
  simp-implicitDefEqProofs+decide only[go_sem,e1]
  refine CallG.P _ Tryz.call212 (c3) ?_
  refine Sm ?_
  exact endF.V1 4 (.int .u64 (nanD:Nat))
 have e1:decide (k=4)=false:=decide_eq_false h1
 by_cases h2:l=4
 ·have e2:decide (l=4)=true:=decide_eq_true h2
  rw[if_pos (.inr h2)]at hr
  subst hr
  simp-implicitDefEqProofs+decide only[go_sem,e1,e2]
  refine CallG.P _ Tryz.call212 (c3) ?_
  refine Sm ?_
  exact endF.V1 4 (.int .u64 (nanD:Nat))
 have e2:decide (l=4)=false:=decide_eq_false h2
 rw[if_neg (fun h=>h.elim h1 h2)]at hr
 by_cases h3:k=3
 ·have e3:decide (k=3)=true:=decide_eq_true h3
  have e5:decide (k=0)=false:=decide_eq_false (by omega)
  rw[if_pos (.inl h3)]at hr
  by_cases h4:l=0
  ·have e4:decide (l=0)=true:=decide_eq_true h4
   rw[if_pos (.inr h4)]at hr
   subst hr
   simp-implicitDefEqProofs+decide only[go_sem,e1,e2,e3,e4]
   refine CallG.P _ Tryz.call212 (c3) ?_
   refine Sm ?_
   exact endF.V1 4 (.int .u64 (nanD:Nat))
  ·have e4:decide (l=0)=false:=decide_eq_false h4
   rw[if_neg (fun h=>by omega)]at hr
   subst hr
   simp-implicitDefEqProofs+decide only[go_sem,e1,e2,e3,e4,e5]
   refine CallG.P _ Tryz.call140 (ci) ?_
   refine Sm ?_
   exact endF.V1 4 (.int .u64 (infD (!decide (s=t)):Nat))
 have e3:decide (k=3)=false:=decide_eq_false h3
 by_cases h5:l=3
 ·have e6:decide (l=3)=true:=decide_eq_true h5
  rw[if_pos (.inr h5)]at hr
  by_cases h4:k=0
  ·have e4:decide (k=0)=true:=decide_eq_true h4
   rw[if_pos (.inl h4)]at hr
   subst hr
   simp-implicitDefEqProofs+decide only[go_sem,e1,e2,e3,e4,e6]
   refine CallG.P _ Tryz.call212 (c3) ?_
   refine Sm ?_
   exact endF.V1 4 (.int .u64 (nanD:Nat))
  ·have e4:decide (k=0)=false:=decide_eq_false h4
   rw[if_neg (fun h=>by omega)]at hr
   subst hr
   simp-implicitDefEqProofs+decide only[go_sem,e1,e2,e3,e4,e6]
   refine CallG.P _ Tryz.call140 (ci) ?_
   refine Sm ?_
   exact endF.V1 4 (.int .u64 (infD (!decide (s=t)):Nat))
 have e6:decide (l=3)=false:=decide_eq_false h5
 rw[if_neg (fun h=>h.elim h3 h5)]at hr
 have fa:=ka h3 h1
 have fb:=kb h5 h2
 have b1:=b1 fa
 have b2:=b2 fb
 have cm:=rMul_ok [m] [n] (WOK_single (by omega)) (WOK_single (by omega)) (by simp) (by simp)
 rw[nv_single,nv_single]at cm
 have hlen:(wordsOf (m*n)).length≤10:=by
  have:=len_prod m n
  have q1:(wordsOf m).length≤1:=len_wordsOf (by omega)
  have q2:(wordsOf n).length≤1:=len_wordsOf (by omega)
  omega
 have w1:IntKind.wrap .i64 (e+f)=e+f:=by rw[w64]<;>omega
 have co:=dOf_ok (!decide (s=t)) (wordsOf (m*n)) (e+f) (WOK_wordsOf _) (by omega) (by omega) (by omega)
 rw[nv_wordsOf,hr]at co
 have q1:∀z:Nat,sW [z]=T.slice [T.int .u64 z]:=fun _=>rfl
 rw[q1,q1]at cm
 simp only[sW]at co
 by_cases h4:k=0
 ·have e4:decide (k=0)=true:=decide_eq_true h4
  simp-implicitDefEqProofs+decide only[go_sem,e1,e2,e3,e4,e6]
  refine CallG.P _ Tryz.call228 (p1) ?_
  refine Sm ?_
  refine CallG.P _ Tryz.call228 (p2) ?_
  refine Sm ?_
  refine CallG.P _ Tryz.call200 (cm) ?_
  simp-implicitDefEqProofs+decide only[go_sem,w1]
  refine CallG.P _ Tryz.call208 (co) ?_
  refine Sm ?_
  exact endF.V1 4 (.int .u64 (r:Nat))
 ·have e4:decide (k=0)=false:=decide_eq_false h4
  simp-implicitDefEqProofs+decide only[go_sem,e1,e2,e3,e4,e6]
  refine CallG.P _ Tryz.call228 (p1) ?_
  refine Sm ?_
  refine CallG.P _ Tryz.call228 (p2) ?_
  refine Sm ?_
  refine CallG.P _ Tryz.call200 (cm) ?_
  simp-implicitDefEqProofs+decide only[go_sem,w1]
  refine CallG.P _ Tryz.call208 (co) ?_
  refine Sm ?_
  exact endF.V1 4 (.int .u64 (r:Nat))
end Go.Fm
