/- Doubles: nearest to a number of many words, and to an exact number. -/
import Derived.Test.YteodjhhobkcnjaaGreatHdB
import Derived.Test.YteodjhhobkcnjaaGreatHbC
import Derived.Test.YteodjhhobkcnjaaGreatHcA
import Derived.Test.YteodjhhobkcnjaaGreatHdD
set_option linter.unusedVariables false
set_option linter.unusedSimpArgs false
namespace Go.Fm
open Go.Proofs
set_option maxRecDepth 100000
attribute [local irreducible] tiOf
theorem natShr0_ok (a:List Nat) (n:Nat) (hla:a.length<1000000000) (hn:n<9000000000000000000) (hw0:a.length≤n/64):Pure Tryz.prog 252 [sW a,.int .i64 n] [.t (.slice [])]:=by
 have f2:IntKind.wrap .i64 (Int.tdiv (n:Int) 64)=((n/64:Nat):Int):=by rw[show(64:Int)=((64:Nat):Int) from rfl,←Int.ofNat_tdiv,w64]<;>omega
 have f3:Int.tmod (n:Int) 64=((n%64:Nat):Int):=by rw[show(64:Int)=((64:Nat):Int) from rfl,←Int.ofNat_tmod]
 have f1:(if (n:Int)<0 then (0:Int) else n)=n:=if_neg (by omega)
 have f0:(if (0:Int)<(n:Int) then (n:Int) else 0)=n:=by split<;>omega
 have d1:decide (a.length≤n/64)=true:=decide_eq_true hw0
 refine Pure.I Tryz.func252 [4] ?_
 simp-implicitDefEqProofs+decide only[go_sem,sW,f1,f0,f2,f3,List.length_map,d1]
 exact endF.nil (.inr rfl) (by simp-implicitDefEqProofs+decide only[go_sem]) (fun _ _=>rfl) rfl
theorem natBit_ok (a:List Nat) (i:Nat) (ha:WOK a) (hla:a.length<1000000000) (hi:i<9000000000000000000):Pure Tryz.prog 254 [sW a,.int .i64 i] [.t (.bool ((nv a).testBit i))]:=by
 have f2:IntKind.wrap .i64 (Int.tdiv (i:Int) 64)=((i/64:Nat):Int):=by rw[show(64:Int)=((64:Nat):Int) from rfl,←Int.ofNat_tdiv,w64]<;>omega
 have f3:Int.tmod (i:Int) 64=((i%64:Nat):Int):=by rw[show(64:Int)=((64:Nat):Int) from rfl,←Int.ofNat_tmod]
 rw[nv_testBit ha]
 refine Pure.I Tryz.func254 [4] ?_
 by_cases h1:i/64<a.length
 ·have d1:decide (i/64<a.length)=true:=decide_eq_true h1
  obtain⟨x,hx⟩:=getI h1
  have hxl:=ha.get hx
  have f5:=ushrN x (i%64) (by omega)
  have f6:=uandO (show x/2^(i%64)<18446744073709551616 from Nat.lt_of_le_of_lt (Nat.div_le_self _ _) hxl)
  have e:a.getD (i/64) 0=x:=by rw[List.getD_eq_getElem?_getD,hx];rfl
  have e2:(a.getD (i/64) 0).testBit (i%64)=decide (((x/2^(i%64)%2:Nat):Int)=1):=by
   rw[e,Nat.testBit_eq_decide_div_mod_eq];congr 1;apply propext;omega
  rw[e2]
  simp-implicitDefEqProofs+decide only[go_sem,sW,f2,f3,List.length_map,d1,hx,f5,f6,Int.toNat_natCast]
  exact endF.V1 4 (.bool (decide (((x/2^(i%64)%2:Nat):Int)=1)))
 ·have d1:decide (i/64<a.length)=false:=decide_eq_false h1
  have:a.getD (i/64) 0=0:=by rw[List.getD_eq_getElem?_getD,List.getElem?_eq_none (by omega)];rfl
  rw[this,Nat.zero_testBit]
  simp-implicitDefEqProofs+decide only[go_sem,sW,f2,f3,List.length_map,d1]
  exact endF.V1 4 (.bool false)
theorem tz_bits {n i:Nat} (hb:n.testBit i=true) (h0:∀j,j<i→n.testBit j=false):tz n=i:=by
 have hn:n≠0:=fun h=>by rw[h,Nat.zero_testBit]at hb;cases hb
 obtain⟨o,ho,e1,e2⟩:=tz_spec n hn
 have h1:n.testBit (tz n)=true:=by rw[Nat.testBit_eq_decide_div_mod_eq,e2,decide_eq_true ho]
 rcases Nat.lt_trichotomy (tz n) i with g|g|g
 ·rw[h0 _ g]at h1;cases h1
 ·exact g
 ·have h2:n.testBit i=false:=by
   rw[e1,Nat.testBit_two_pow_mul]
   simp;intro;omega
  rw[h2]at hb;cases hb
theorem natEven_ok (a:List Nat) (ha:WOK a) (hla:a.length<1000000) (h0:nv a≠0):Pure Tryz.prog 255 [sW a] [.t (.int .i64 (tz (nv a):Nat))]:=by
 have c1:=natBits_ok a ha (by omega)
 obtain⟨L,hL⟩:∃L,bitLen (nv a)=L:=⟨_,rfl⟩
 have hbb:=bitLen_bounds h0
 have hLb:L≤64*a.length:=by
  rw[←hL]
  apply bitLen_lt
  have h1:=nv_lt ha
  rwa [show(18446744073709551616:Nat)=2^64 from rfl,←Nat.pow_mul]at h1
 rw[hL]at c1 hbb
 refine Pure.I Tryz.func255 [2] ?_
 refine SmV ?_
 simp only[sW]at c1
 refine CallG.P _ Tryz.call184 (c1) ?_
 refine Sm ?_
 refine Goes.loop (X:=Nat) (fun k=>⟨ofL [(0,tW a),(7,.t (.int .i64 L)),(8,.t (.int .i64 k))],fun _=>none,0⟩) (fun k=>k≤L∧∀j,j<k→(nv a).testBit j=false) (fun k=>L-k) 0 ?_ ?_ ?_
 ·exact(Wk.slots _ rfl rfl (by simp-implicitDefEqProofs+decide only[go_sem,tW,sW]) (by simp-implicitDefEqProofs+decide only[go_sem,tW,sW]))
 ·exact⟨Nat.zero_le _,fun j h=>by omega⟩
 rintro k ⟨hk,hz⟩ J hJ
 have cb:=natBit_ok a k ha (by omega) (by omega)
 obtain⟨tb,htb⟩:∃tb,(nv a).testBit k=tb:=⟨_,rfl⟩
 rw[htb]at cb
 simp only[sW]at cb
 apply run_sound 200
 refine SmW ?_
 apply selP_dec<;>intro h1
 ·refine Sm ?_
  refine CallG.P _ Tryz.call254 (cb) ?_
  cases tb
  ·have hw:=wS (show k<1000000000000 by omega)
   simp-implicitDefEqProofs+decide only[go_sem,hw]
   refine hJ (k+1) _ ⟨by omega,fun j hj=> ?_⟩ (by omega) (Wk.slots _ rfl rfl (by simp-implicitDefEqProofs+decide only[go_sem,tW,sW,hw]) (by simp-implicitDefEqProofs+decide only[go_sem,tW,sW,hw]))
   rcases Nat.lt_or_ge j k with g|g
   ·exact hz j g
   ·rw[show j=k by omega];exact htb
  ·rw[tz_bits htb hz]
   refine Sm ?_
   exact endF.V1 2 (.int .i64 k)
 ·exfalso
  have hkL:k=L:=by omega
  have h2:(nv a).testBit (L-1)=true:=by
   rw[Nat.testBit_eq_decide_div_mod_eq]
   have hp:0<2^(L-1):=Nat.two_pow_pos _
   have e1:nv a/2^(L-1)=1:=by
    have a1:1≤nv a/2^(L-1):=(Nat.le_div_iff_mul_le hp).2 (by rw[Nat.one_mul];exact hbb.1)
    have a2:nv a/2^(L-1)<2:=(Nat.div_lt_iff_lt_mul hp).2 (by
      have:2*2^(L-1)=2^L:=by rw[Nat.mul_comm,←Nat.pow_succ];congr 1;omega
      omega)
    omega
   rw[e1];rfl
  rw[hz (L-1) (by omega)]at h2
  cases h2
theorem tz_mod {m k:Nat} (h:m≠0):m%2^k≠0↔tz m<k:=by
 obtain⟨o,ho,e1,e2⟩:=tz_spec m h
 constructor
 ·intro h2
  rcases Nat.lt_or_ge (tz m) k with g|g
  ·exact g
  ·exfalso
   apply h2
   have:2^k ∣m:=by rw[e1];exact Nat.dvd_trans (Nat.pow_dvd_pow 2 g) (Nat.dvd_mul_right _ _)
   exact Nat.mod_eq_zero_of_dvd this
 ·intro g h2
  have h3:2^(tz m+1) ∣m:=Nat.dvd_trans (Nat.pow_dvd_pow 2 g) (Nat.dvd_of_mod_eq_zero h2)
  have h4:2^tz m*2 ∣2^tz m*o:=by rw[←Nat.pow_succ,←e1];exact h3
  have h5:=Nat.dvd_of_mul_dvd_mul_left (Nat.two_pow_pos _) h4
  omega
theorem rne_bits {m d:Nat} (h:m≠0) (hd:1≤d):(if m.testBit (d-1)=true∧(decide (tz m<d-1)=true∨m/2^d%2=1) then m/2^d+1 else m/2^d)=rne m d:=by
 have e:m/2^(d-1)/2=m/2^d:=by
  rw[Nat.div_div_eq_div_mul,←Nat.pow_succ];congr 2;omega
 rw[rne_half _ _ hd,e,Nat.testBit_eq_decide_div_mod_eq]
 simp only[decide_eq_true_eq,←tz_mod h]
set_option maxHeartbeats 4000000 in
theorem fOf_ok (neg:Bool) (l:List Nat) (e:Int) (more:Bool) (hl:WOK l) (hll:l.length<1000) (he1: -900000<e) (he2:e≤900000):
  Pure Tryz.prog 190 [.bool neg,sW l,.int .i64 e,.bool more] [.t (.int .u64 (if more=true then rndD neg (2*nv l+1) (e-1) else rndD neg (nv l) e:Nat))]:=by
 have x1:(if e< -1099511627776 then-1099511627776 else e)=e:=if_neg (by omega)
 have x2:(if (1099511627776:Int)<e then 1099511627776 else e)=e:=if_neg (by omega)
 have x3:(if e<(1099511627776:Int) then e else 1099511627776)=e:=if_pos (by omega)
 cases more
 ·rw [if_neg (by decide)]
  obtain⟨W,hWe⟩:∃W,W=l:=⟨l,rfl⟩
  obtain⟨E,hEe⟩:∃E,E=e:=⟨e,rfl⟩
  obtain⟨M,hM⟩:∃M,nv l=M:=⟨_,rfl⟩
  rw[hM]
  subst hWe hEe
  have hW:=hl
  refine Pure.I Tryz.func190 [8] ?_
  simp-implicitDefEqProofs+decide only[go_sem,x1,x2,x3,sW]
  have c1:=natBits_ok W hW (by omega)
  have hWl:=nv_lt hW
  rw[hM]at c1 hWl
  obtain⟨L,hL⟩:∃L,bitLen M=L:=⟨_,rfl⟩
  rw[hL]at c1
  have hLW:L≤64*W.length:=by
   rw[←hL]
   apply bitLen_lt
   rwa [show(18446744073709551616:Nat)=2^64 from rfl,←Nat.pow_mul]at hWl
  have c3:=finf_ok neg
  simp only[sW]at c1
  refine CallG.P _ Tryz.call184 (c1) ?_
  refine Sm ?_
  apply selP_dec<;>intro h1
  ·have hM64:M<18446744073709551616:=by
    by_cases h0:M=0
    ·omega
    ·have h2:=(bitLen_bounds h0).2.1
     rw[hL]at h2
     exact Nat.lt_of_lt_of_le h2 (Nat.pow_le_pow_right (by decide) (show L≤64 by omega))
   have c2:=natWord_ok W hW (by omega)
   have hsz:sizeW W≤1:=by rw[sizeW_len hW,hM];exact len_wordsOf (by omega)
   rw[hM,if_pos hsz,decide_eq_true hsz]at c2
   simp only[sW]at c2
   have c4:=word_ok neg M E hM64 (by omega) (by omega)
   refine Sm ?_
   refine CallG.P _ Tryz.call250 (c2) ?_
   refine Sm ?_
   refine CallG.P _ Tryz.call251 (c4) ?_
   refine Sm ?_
   exact endF.V1 8 (.int .u64 (rndD neg M E:Nat))
  have h0:M≠0:=fun h=>by subst h;rw[bitLen_zero]at hL;omega
  have hr:rndD neg M E=if 971<unitD M E then infD neg else encD neg (unitsD M E) (unitD M E):=if_neg h0
  have hud:unitD M E=max ((L:Int)+E-53) (-1074):=by unfold unitD;rw[hL]
  have hul:=unitsD_le (e:=E) h0
  have hug:=unitsD_ge (e:=E) h0
  have w1:IntKind.wrap .i64 ((L:Int)+E)=(L:Int)+E:=by rw[w64]<;>omega
  have w2:IntKind.wrap .i64 ((L:Int)+E-53)=(L:Int)+E-53:=by rw[w64]<;>omega
  have hx:(if (L:Int)+E-53< -1074 then-1074 else (L:Int)+E-53)=unitD M E:=by rw[hud];split<;>omega
  simp-implicitDefEqProofs+decide only[go_sem,w1,w2,hx]
  apply selP_dec<;>intro h2
  ·rw[hr,if_pos h2]
   refine Sm ?_
   refine CallG.P _ Tryz.call187 (c3) ?_
   refine Sm ?_
   exact endF.V1 8 (.int .u64 (infD neg:Nat))
  rw[hr,if_neg h2]
  have hu1: -1074≤unitD M E:=by omega
  obtain⟨d,hd⟩:∃d:Nat,unitD M E-E=(d:Int):=⟨(unitD M E-E).toNat,by omega⟩
  have hd1:2≤d:=by omega
  have hd9:d≤3000000:=by omega
  have w3:IntKind.wrap .i64 (unitD M E-E)=(d:Int):=by rw[hd,w64]<;>omega
  have w4:IntKind.wrap .i64 ((d:Int)-1)=((d-1:Nat):Int):=by rw[show(d:Int)-1=((d-1:Nat):Int) by omega,w64]<;>omega
  have hun:unitsD M E=rne M d:=by
   unfold unitsD
   rw[if_neg (by omega),hd,Int.toNat_natCast]
  have hrb:=rne_bits h0 (show 1≤d by omega)
  rw[←hun]at hrb
  obtain⟨Q,hQ⟩:∃Q,M/2^d=Q:=⟨_,rfl⟩
  have hQl:Q<9007199254740992:=by
   rw[←hQ]
   refine(Nat.div_lt_iff_lt_mul (Nat.two_pow_pos _)).2 ?_
   have h3:=(bitLen_bounds h0).2.1
   rw[hL]at h3
   rw[show(9007199254740992:Nat)=2^53 from rfl,←Nat.pow_add]
   exact Nat.lt_of_lt_of_le h3 (Nat.pow_le_pow_right (by decide) (by omega))
  have c5:Pure Tryz.prog 252 [sW W,.int .i64 d] [.t (sW (wordsOf Q))]∨Pure Tryz.prog 252 [sW W,.int .i64 d] [.own 1 ((wordsOf Q).map U)]:=by
   rcases Nat.lt_or_ge (d/64) W.length with g|g
   ·have:=natShr_ok W d hW (by omega) (by omega) g
    rw[hM,hQ]at this
    exact .inr this
   ·have:=natShr0_ok W d (by omega) (by omega) g
    have hz:Q=0:=by
     rw[←hQ]
     refine Nat.div_eq_of_lt (Nat.lt_of_lt_of_le hWl ?_)
     rw[show(18446744073709551616:Nat)=2^64 from rfl,←Nat.pow_mul]
     exact Nat.pow_le_pow_right (by decide) (by omega)
    rw[hz,wordsOf_zero]
    exact .inl this
  have c6:=natWord_ok (wordsOf Q) (WOK_wordsOf _) (Nat.lt_of_le_of_lt (len_wordsOf (k:=1) (by omega)) (by decide))
  have hsz:sizeW (wordsOf Q)≤1:=by rw[size_wordsOf];exact len_wordsOf (by omega)
  rw[if_pos hsz,decide_eq_true hsz,nv_wordsOf]at c6
  have c7:=natBit_ok W (d-1) hW (by omega) (by omega)
  rw[hM]at c7
  have c8:=natEven_ok W hW (by omega) (by rw[hM];exact h0)
  rw[hM]at c8
  have d1:decide (((tz M:Nat):Int)<((d-1:Nat):Int))=decide (tz M<d-1):=decide_eq_decide.2 (by omega)
  obtain⟨tb,htb⟩:∃tb,M.testBit (d-1)=tb:=⟨_,rfl⟩
  obtain⟨mb,hmb⟩:∃mb,decide (tz M<d-1)=mb:=⟨_,rfl⟩
  rw[htb,hmb,hQ]at hrb
  rw[htb]at c7
  rw[hmb]at d1
  have c9:=even_ok Q tb mb (by omega)
  rw[hrb]at c9
  have c10:=made_ok neg (unitsD M E) (unitD M E) hul hu1 (by omega) (fun h=>by
    rcases Classical.em (unitD M E= -1074) with g|g
    ·exact g
    ·have:=hug g;omega)
  simp only[sW]at c5 c6 c7 c8
  simp-implicitDefEqProofs+decide only[go_sem,w3]
  rcases c5 with c5|c5
  ·skip
   refine CallG.PS _ Tryz.call252 (c5) ?_
   refine Sm ?_
   refine CallG.P _ Tryz.call250 (c6) ?_
   simp-implicitDefEqProofs+decide only[go_sem,w4]
   refine CallG.P _ Tryz.call254 (c7) ?_
   simp-implicitDefEqProofs+decide only[go_sem,w4]
   refine CallG.P _ Tryz.call255 (c8) ?_
   simp-implicitDefEqProofs+decide only[go_sem,w4,d1,hmb]
   refine CallG.P _ Tryz.call253 (c9) ?_
   refine Sm ?_
   refine CallG.P _ Tryz.call186 (c10) ?_
   refine Sm ?_
   exact endF.V1 8 (.int .u64 (encD neg (unitsD M E) (unitD M E):Nat))
  ·skip
   refine CallG.P _ Tryz.call252 (c5) ?_
   refine Sm ?_
   refine CallG.P _ Tryz.call250 (c6) ?_
   simp-implicitDefEqProofs+decide only[go_sem,w4]
   refine CallG.P _ Tryz.call254 (c7) ?_
   simp-implicitDefEqProofs+decide only[go_sem,w4]
   refine CallG.P _ Tryz.call255 (c8) ?_
   simp-implicitDefEqProofs+decide only[go_sem,w4,d1,hmb]
   refine CallG.P _ Tryz.call253 (c9) ?_
   refine Sm ?_
   refine CallG.P _ Tryz.call186 (c10) ?_
   refine Sm ?_
   exact endF.V1 8 (.int .u64 (encD neg (unitsD M E) (unitD M E):Nat))
 ·rw [if_pos rfl]
  have q1:=natShl_ok l 1 hl (by omega) (by decide)
  have q2:=natOf_ok 1 (by decide)
  have hb1:(wordsOf (nv l*2^1)).length≤2000:=by
   have h1:=len_prod (nv l) 2
   have h2:(wordsOf 2).length≤1:=len_wordsOf (by decide)
   have h3:(wordsOf (nv l)).length≤l.length:=len_wordsOf (nv_lt hl)
   rw[Nat.pow_one];omega
  have hb2:(wordsOf 1).length≤1:=len_wordsOf (by decide)
  have q3:=natAdd_ok (wordsOf (nv l*2^1)) (wordsOf 1) (WOK_wordsOf _) (WOK_wordsOf _) (by omega) (by omega)
  rw[nv_wordsOf,nv_wordsOf]at q3
  have hMe:nv l*2^1+1=2*nv l+1:=by omega
  rw[hMe]at q3
  obtain⟨M,hMM⟩:∃M,2*nv l+1=M:=⟨_,rfl⟩
  have hbM:(wordsOf M).length≤2001:=by
   have:=len_sum (nv l*2^1) 1
   rw[hMe,hMM]at this
   omega
  rw[hMM]at q3⊢
  obtain⟨E,hE⟩:∃E,e-1=E:=⟨_,rfl⟩
  have we:IntKind.wrap .i64 (e-1)=E:=by rw[←hE,w64]<;>omega
  rw[hE]
  obtain⟨W,hWe⟩:∃W,wordsOf M=W:=⟨_,rfl⟩
  have hM:nv W=M:=by rw[←hWe,nv_wordsOf]
  have hW:WOK W:=by rw[←hWe];exact WOK_wordsOf _
  have hWll:W.length≤2001:=by rw[←hWe];exact hbM
  rw[hWe]at q3
  simp only[sW]at q1 q3
  refine Pure.I Tryz.func190 [8] ?_
  simp-implicitDefEqProofs+decide only[go_sem,x1,x2,x3,sW]
  refine CallG.P _ Tryz.call189 (q1) ?_
  refine Sm ?_
  refine CallG.P _ Tryz.call238 (q2) ?_
  refine Sm ?_
  refine CallG.P _ Tryz.call249 (q3) ?_
  simp-implicitDefEqProofs+decide only[go_sem,we]
  have c1:=natBits_ok W hW (by omega)
  have hWl:=nv_lt hW
  rw[hM]at c1 hWl
  obtain⟨L,hL⟩:∃L,bitLen M=L:=⟨_,rfl⟩
  rw[hL]at c1
  have hLW:L≤64*W.length:=by
   rw[←hL]
   apply bitLen_lt
   rwa [show(18446744073709551616:Nat)=2^64 from rfl,←Nat.pow_mul]at hWl
  have c3:=finf_ok neg
  simp only[sW]at c1
  refine CallG.P _ Tryz.call184 (c1) ?_
  refine Sm ?_
  apply selP_dec<;>intro h1
  ·have hM64:M<18446744073709551616:=by
    by_cases h0:M=0
    ·omega
    ·have h2:=(bitLen_bounds h0).2.1
     rw[hL]at h2
     exact Nat.lt_of_lt_of_le h2 (Nat.pow_le_pow_right (by decide) (show L≤64 by omega))
   have c2:=natWord_ok W hW (by omega)
   have hsz:sizeW W≤1:=by rw[sizeW_len hW,hM];exact len_wordsOf (by omega)
   rw[hM,if_pos hsz,decide_eq_true hsz]at c2
   simp only[sW]at c2
   have c4:=word_ok neg M E hM64 (by omega) (by omega)
   refine Sm ?_
   refine CallG.P _ Tryz.call250 (c2) ?_
   refine Sm ?_
   refine CallG.P _ Tryz.call251 (c4) ?_
   refine Sm ?_
   exact endF.V1 8 (.int .u64 (rndD neg M E:Nat))
  have h0:M≠0:=fun h=>by subst h;rw[bitLen_zero]at hL;omega
  have hr:rndD neg M E=if 971<unitD M E then infD neg else encD neg (unitsD M E) (unitD M E):=if_neg h0
  have hud:unitD M E=max ((L:Int)+E-53) (-1074):=by unfold unitD;rw[hL]
  have hul:=unitsD_le (e:=E) h0
  have hug:=unitsD_ge (e:=E) h0
  have w1:IntKind.wrap .i64 ((L:Int)+E)=(L:Int)+E:=by rw[w64]<;>omega
  have w2:IntKind.wrap .i64 ((L:Int)+E-53)=(L:Int)+E-53:=by rw[w64]<;>omega
  have hx:(if (L:Int)+E-53< -1074 then-1074 else (L:Int)+E-53)=unitD M E:=by rw[hud];split<;>omega
  simp-implicitDefEqProofs+decide only[go_sem,w1,w2,hx]
  apply selP_dec<;>intro h2
  ·rw[hr,if_pos h2]
   refine Sm ?_
   refine CallG.P _ Tryz.call187 (c3) ?_
   refine Sm ?_
   exact endF.V1 8 (.int .u64 (infD neg:Nat))
  rw[hr,if_neg h2]
  have hu1: -1074≤unitD M E:=by omega
  obtain⟨d,hd⟩:∃d:Nat,unitD M E-E=(d:Int):=⟨(unitD M E-E).toNat,by omega⟩
  have hd1:2≤d:=by omega
  have hd9:d≤3000000:=by omega
  have w3:IntKind.wrap .i64 (unitD M E-E)=(d:Int):=by rw[hd,w64]<;>omega
  have w4:IntKind.wrap .i64 ((d:Int)-1)=((d-1:Nat):Int):=by rw[show(d:Int)-1=((d-1:Nat):Int) by omega,w64]<;>omega
  have hun:unitsD M E=rne M d:=by
   unfold unitsD
   rw[if_neg (by omega),hd,Int.toNat_natCast]
  have hrb:=rne_bits h0 (show 1≤d by omega)
  rw[←hun]at hrb
  obtain⟨Q,hQ⟩:∃Q,M/2^d=Q:=⟨_,rfl⟩
  have hQl:Q<9007199254740992:=by
   rw[←hQ]
   refine(Nat.div_lt_iff_lt_mul (Nat.two_pow_pos _)).2 ?_
   have h3:=(bitLen_bounds h0).2.1
   rw[hL]at h3
   rw[show(9007199254740992:Nat)=2^53 from rfl,←Nat.pow_add]
   exact Nat.lt_of_lt_of_le h3 (Nat.pow_le_pow_right (by decide) (by omega))
  have c5:Pure Tryz.prog 252 [sW W,.int .i64 d] [.t (sW (wordsOf Q))]∨Pure Tryz.prog 252 [sW W,.int .i64 d] [.own 1 ((wordsOf Q).map U)]:=by
   rcases Nat.lt_or_ge (d/64) W.length with g|g
   ·have:=natShr_ok W d hW (by omega) (by omega) g
    rw[hM,hQ]at this
    exact .inr this
   ·have:=natShr0_ok W d (by omega) (by omega) g
    have hz:Q=0:=by
     rw[←hQ]
     refine Nat.div_eq_of_lt (Nat.lt_of_lt_of_le hWl ?_)
     rw[show(18446744073709551616:Nat)=2^64 from rfl,←Nat.pow_mul]
     exact Nat.pow_le_pow_right (by decide) (by omega)
    rw[hz,wordsOf_zero]
    exact .inl this
  have c6:=natWord_ok (wordsOf Q) (WOK_wordsOf _) (Nat.lt_of_le_of_lt (len_wordsOf (k:=1) (by omega)) (by decide))
  have hsz:sizeW (wordsOf Q)≤1:=by rw[size_wordsOf];exact len_wordsOf (by omega)
  rw[if_pos hsz,decide_eq_true hsz,nv_wordsOf]at c6
  have c7:=natBit_ok W (d-1) hW (by omega) (by omega)
  rw[hM]at c7
  have c8:=natEven_ok W hW (by omega) (by rw[hM];exact h0)
  rw[hM]at c8
  have d1:decide (((tz M:Nat):Int)<((d-1:Nat):Int))=decide (tz M<d-1):=decide_eq_decide.2 (by omega)
  obtain⟨tb,htb⟩:∃tb,M.testBit (d-1)=tb:=⟨_,rfl⟩
  obtain⟨mb,hmb⟩:∃mb,decide (tz M<d-1)=mb:=⟨_,rfl⟩
  rw[htb,hmb,hQ]at hrb
  rw[htb]at c7
  rw[hmb]at d1
  have c9:=even_ok Q tb mb (by omega)
  rw[hrb]at c9
  have c10:=made_ok neg (unitsD M E) (unitD M E) hul hu1 (by omega) (fun h=>by
    rcases Classical.em (unitD M E= -1074) with g|g
    ·exact g
    ·have:=hug g;omega)
  simp only[sW]at c5 c6 c7 c8
  simp-implicitDefEqProofs+decide only[go_sem,w3]
  rcases c5 with c5|c5
  ·skip
   refine CallG.PS _ Tryz.call252 (c5) ?_
   refine Sm ?_
   refine CallG.P _ Tryz.call250 (c6) ?_
   simp-implicitDefEqProofs+decide only[go_sem,w4]
   refine CallG.P _ Tryz.call254 (c7) ?_
   simp-implicitDefEqProofs+decide only[go_sem,w4]
   refine CallG.P _ Tryz.call255 (c8) ?_
   simp-implicitDefEqProofs+decide only[go_sem,w4,d1,hmb]
   refine CallG.P _ Tryz.call253 (c9) ?_
   refine Sm ?_
   refine CallG.P _ Tryz.call186 (c10) ?_
   refine Sm ?_
   exact endF.V1 8 (.int .u64 (encD neg (unitsD M E) (unitD M E):Nat))
  ·skip
   refine CallG.P _ Tryz.call252 (c5) ?_
   refine Sm ?_
   refine CallG.P _ Tryz.call250 (c6) ?_
   simp-implicitDefEqProofs+decide only[go_sem,w4]
   refine CallG.P _ Tryz.call254 (c7) ?_
   simp-implicitDefEqProofs+decide only[go_sem,w4]
   refine CallG.P _ Tryz.call255 (c8) ?_
   simp-implicitDefEqProofs+decide only[go_sem,w4,d1,hmb]
   refine CallG.P _ Tryz.call253 (c9) ?_
   refine Sm ?_
   refine CallG.P _ Tryz.call186 (c10) ?_
   refine Sm ?_
   exact endF.V1 8 (.int .u64 (encD neg (unitsD M E) (unitD M E):Nat))
theorem num_ne {s:Rat} (h:s≠0):s.num≠0:=fun e=>h ((Rat.num_eq_zero).1 e)
theorem inv_parts {s:Rat} (h:s≠0):(s⁻¹).num=sgn (neg1 s) s.den∧(s⁻¹).den=s.num.natAbs:=by
 have hn:=num_ne h
 have e:s⁻¹=Rat.inv s:=rfl
 rw[e]
 unfold Rat.inv neg1
 by_cases h1:s.num<0
 ·rw[dif_pos h1,decide_eq_true h1]
  exact⟨rfl,rfl⟩
 ·rw[dif_neg h1,dif_pos (by omega),decide_eq_false h1]
  exact⟨rfl,rfl⟩
theorem neg1_inv {s:Rat} (h:s≠0):neg1 s⁻¹=neg1 s:=by
 have h1:=(inv_parts h).1
 have hd:=s.den_nz
 have e:neg1 s⁻¹=decide ((s⁻¹).num<0):=rfl
 rw[e,h1]
 unfold sgn
 cases neg1 s
 ·rw[if_neg (by decide)];exact decide_eq_false (by omega)
 ·rw[if_pos rfl];exact decide_eq_true (by omega)
theorem inv_abs {s:Rat} (h:s≠0):(s⁻¹).num.natAbs=s.den:=by rw[(inv_parts h).1,sgn_abs]
theorem QB_inv {s:Rat} {n:Nat} (h:s≠0) (hs:QB s n):QB s⁻¹ n:=by
 refine⟨?_,?_⟩
 ·show(wordsOf (s⁻¹).num.natAbs).length≤n
  rw[inv_abs h];exact hs.d
 ·show(wordsOf (s⁻¹).den).length≤n
  rw[(inv_parts h).2];exact hs.n
theorem endC.two2 {P:Program} {rv rv':RV} {y y':AV} {t t':T} {h':Heap} {m':Nat} {e:Exit} {s:St} (he:e=.normal∨e=.ret) (hv:valC P s rv=some y) (hv':valC P s rv'=some y') (hr:reify y=.ret (t,[])) (hr':reify y'=.ret (t',[]))
  (hh:∀l,Lab.pool l=true→h' l=s.h l) (hn:s.nxt=m'):endC P [rv,rv'] [.t t,.t t'] h' m' e s:=by
 refine⟨he,⟨[y,y'],[false,false],by simp[valsC,hv,hv'],rfl,[],[none,none],[],?_,rfl,hh⟩,hn⟩
 simp[finL,fin1,hr,hr',Rd.bind,Rd.run]
theorem inv_okQ (s:Rat) (h:s≠0) (hs:QB s 10000000):Pure Tryz.prog 240 [(qR s).T] [.t (qR s⁻¹).T,.t (.int .i64 0)]:=by
 have s1:=hs.n
 have s2:=hs.d
 have c1:=natBits_ok (wordsOf s.num.natAbs) (WOK_wordsOf _) (by omega)
 have c2:=trim_ok (wordsOf s.den) (by omega)
 have c3:=trim_ok (wordsOf s.num.natAbs) (by omega)
 rw[trim_wordsOf]at c2 c3
 rw[nv_wordsOf]at c1
 have hb:=(bitLen_bounds (show s.num.natAbs≠0 from fun e=>num_ne h (Int.natAbs_eq_zero.1 e))).2.2
 have d1:decide (((bitLen s.num.natAbs:Nat):Int)=0)=false:=decide_eq_false (by omega)
 rw[qT,qT,inv_abs h,(inv_parts h).2,neg1_inv h]
 generalize bitLen s.num.natAbs=L at*
 generalize wordsOf s.num.natAbs=p at*
 generalize wordsOf s.den=q at*
 generalize neg1 s=ns at*
 simp only[sW]at c1 c2 c3
 refine Pure.J Tryz.func240 [.c 2 _,.s 3] ?_
 refine SmV ?_
 refine CallG.P _ Tryz.call184 (c1) ?_
 simp-implicitDefEqProofs+decide only[go_sem,d1]
 refine Goes.drawN mixed ?_
 refine Sm ?_
 refine CallD.P _ Tryz.call245 c2 ?_
 refine Sm ?_
 refine CallD.P _ Tryz.call245 c3 ?_
 refine Sm ?_
 refine⟨.mk (by kernel_rfl),?_⟩
 apply run_sound 200
 refine Sm ?_
 exact endC.two2 (.inr rfl) (by simp-implicitDefEqProofs+decide only[go_sem,valC];rfl) (by simp-implicitDefEqProofs+decide only[go_sem,valC];rfl) rfl rfl (fun l hp=>by cases l<;>first|rfl|cases hp) rfl
def noRat:T:=.agg [.bool false,.slice [],.slice []]
theorem inv0_okQ:Pure Tryz.prog 240 [(qR 0).T] [.t noRat,.t (.int .i64 4)]:=by
 have c1:=natBits_ok [] (fun x h=>by cases h) (by decide)
 have e:bitLen (nv [])=0:=rfl
 rw[e]at c1
 have q:(qR 0).T=.agg [.bool false,.slice [],.slice [.int .u64 1]]:=by
  have:wordsOf 1=[1]:=words_one
  show T.agg [.bool _,sW (wordsOf 0),sW (wordsOf 1)]=_
  rw[this,wordsOf_zero];rfl
 rw[q]
 have c1:Pure Tryz.prog 184 [.slice []] [.t (.int .i64 0)]:=c1
 refine Pure.J Tryz.func240 [.c 2 _,.s 3] ?_
 refine Sm ?_
 refine CallG.P _ Tryz.call184 (c1) ?_
 refine Sm ?_
 exact endC.two2 (.inr rfl) (by simp-implicitDefEqProofs+decide only[go_sem,valC];rfl) (by simp-implicitDefEqProofs+decide only[go_sem,valC];rfl) rfl rfl (fun l hp=>by cases l<;>first|rfl|cases hp) rfl
theorem div_okQ (r s:Rat) (h:s≠0) (hr:QB r 10000000) (hs:QB s 10000000):Pure Tryz.prog 182 [(qR r).T,(qR s).T] [.t (qR (r/s)).T,.t (.int .i64 0)]:=by
 have c1:=inv_okQ s h hs
 have c2:=mul_okQ r s⁻¹ hr (QB_inv h hs)
 rw[←Rat.div_def]at c2
 generalize r/s=t at*
 generalize s⁻¹=v at*
 rw[qT,qT]at c1
 rw[qT,qT,qT]at c2
 rw[qT,qT,qT]
 refine Pure.J Tryz.func182 [.c 4 _,.s 5] ?_
 refine Sm ?_
 refine CallG.PS _ Tryz.call240 (c1) ?_
 refine Sm ?_
 refine CallG.PS _ Tryz.call217 (c2) ?_
 refine Sm ?_
 exact endC.two2 (.inr rfl) (by simp-implicitDefEqProofs+decide only[go_sem,valC];rfl) (by simp-implicitDefEqProofs+decide only[go_sem,valC];rfl) rfl rfl (fun l hp=>by cases l<;>first|rfl|cases hp) rfl
theorem div0_okQ (r:Rat):Pure Tryz.prog 182 [(qR r).T,(qR 0).T] [.t noRat,.t (.int .i64 4)]:=by
 have c1:=inv0_okQ
 unfold noRat at c1⊢
 rw[qT]at c1
 rw[qT,qT]
 generalize wordsOf (0:Rat).num.natAbs=p at*
 generalize wordsOf (0:Rat).den=q at*
 generalize neg1 (0:Rat)=n0 at*
 refine Pure.J Tryz.func182 [.c 4 _,.s 5] ?_
 refine Sm ?_
 refine CallG.PS _ Tryz.call240 (c1) ?_
 refine Sm ?_
 exact endC.two2 (.inr rfl) (by simp-implicitDefEqProofs+decide only[go_sem,valC];rfl) (by simp-implicitDefEqProofs+decide only[go_sem,valC];rfl) rfl rfl (fun l hp=>by cases l<;>first|rfl|cases hp) rfl
theorem qR_int (n:Int):qR (n:Rat)=⟨decide (n<0),wordsOf n.natAbs,[1]⟩:=by
 have h1:(n:Rat).num=n:=rfl
 have h2:(n:Rat).den=1:=rfl
 unfold qR
 rw[h1,h2,words_one]
theorem of_okQ (n:Int) (h1: -9223372036854775808≤n) (h2:n≤9223372036854775807):Pure Tryz.prog 181 [.int .i64 n] [.t (qR (n:Rat)).T]:=by
 have c1:=natOf_ok n.natAbs (by omega)
 have c2:=one_ok
 have e1:sW [1]=T.slice [T.int .u64 1]:=rfl
 rw[e1]at c2
 rw[qR_int]
 unfold Rt.T rT
 dsimp only
 refine Pure.J Tryz.func181 [.c 2 _] ?_
 refine Sm ?_
 apply selP_dec<;>intro h
 ·have w1:IntKind.wrap .u64 n=n+18446744073709551616:=by rw[u64];omega
  have w2:IntKind.wrap .u64 (0-(n+18446744073709551616))=(n.natAbs:Int):=by rw[u64];omega
  rw[decide_eq_true h]
  simp-implicitDefEqProofs+decide only[go_sem,w1,w2]
  refine CallG.P _ Tryz.call238 (c1) ?_
  refine Sm ?_
  refine CallG.PS _ Tryz.call239 (c2) ?_
  refine Sm ?_
  exact endC.Q
 ·have w1:IntKind.wrap .u64 n=(n.natAbs:Int):=by rw[u64];omega
  rw[decide_eq_false h]
  simp-implicitDefEqProofs+decide only[go_sem,w1]
  refine CallG.P _ Tryz.call238 (c1) ?_
  refine Sm ?_
  refine CallG.PS _ Tryz.call239 (c2) ?_
  refine Sm ?_
  exact endC.Q
theorem sgn_okQ (r:Rat) (h:QB r 30000000):Pure Tryz.prog 185 [(qR r).T] [.t (.int .i64 (sgnI r))]:=by
 have h1:=h.n
 have c:=natBits_ok (wordsOf r.num.natAbs) (WOK_wordsOf _) (by omega)
 rw[nv_wordsOf]at c
 rw[qT]
 have hl:decide (bitLen r.num.natAbs=0)=decide (r.num=0):=decide_eq_decide.2 (by
   unfold bitLen
   constructor
   ·intro h;split at h<;>omega
   ·intro h;rw[if_pos (by omega)])
 have hl2:decide (((bitLen r.num.natAbs:Nat):Int)=0)=decide (r.num=0):=by rw[←hl];exact decide_eq_decide.2 (by omega)
 unfold sgnI
 obtain⟨p,hp⟩:∃p,wordsOf r.num.natAbs=p:=⟨_,rfl⟩
 obtain⟨q,hq⟩:∃q,wordsOf r.den=q:=⟨_,rfl⟩
 rw[hp]at c
 rw[hp,hq]
 generalize bitLen r.num.natAbs=b at*
 refine Pure.I Tryz.func185 [2] ?_
 refine Sm ?_
 refine CallG.P _ Tryz.call184 (c) ?_
 simp-implicitDefEqProofs+decide only[go_sem,hl,hl2]
 apply selP_dec<;>intro h
 ·rw[if_pos h]
  refine Sm ?_
  exact endF.V1 2 (.int .i64 0)
 ·rw[if_neg h]
  simp-implicitDefEqProofs+decide only[go_sem,neg1]
  apply selP_dec<;>intro h2
  ·rw[if_pos h2]
   refine Sm ?_
   exact endF.V1 2 (.int .i64 (-1))
  ·rw[if_neg h2]
   refine Sm ?_
   exact endF.V1 2 (.int .i64 1)
theorem bitLen_words {n k:Nat} (h:(wordsOf n).length≤k):bitLen n≤64*k:=by
 apply bitLen_lt
 have h1:=nv_lt (WOK_wordsOf n)
 rw[nv_wordsOf]at h1
 refine Nat.lt_of_lt_of_le h1 ?_
 rw[show(18446744073709551616:Nat)=2^64 from rfl,←Nat.pow_mul]
 exact Nat.pow_le_pow_right (by decide) (by omega)
def sizeQ (r:Rat):Int:=(bitLen r.num.natAbs:Int)-bitLen r.den
def upQ (r:Rat):Nat:=(max (70-sizeQ r) 0).toNat
def frD (r:Rat):Nat:=
 if r.num=0 then 0 else if sizeQ r< -1200 then sgnD (neg1 r) 0 else if 1200<sizeQ r then infD (neg1 r) else rndD (neg1 r) (quoS r.num.natAbs r.den (upQ r)) (-(upQ r:Int)-1)
theorem quo_big {p q s k:Nat} (hp:p≠0) (h:(bitLen q:Int)+k+1≤bitLen p+s) (hq:q≠0):2^k≤p*2^s/q:=by
 have b1:=bitLen_bounds hp
 have b2:=bitLen_bounds hq
 refine(Nat.le_div_iff_mul_le (Nat.pos_of_ne_zero hq)).2 ?_
 have h1:2^(bitLen p-1)*2^s≤p*2^s:=Nat.mul_le_mul_right _ b1.1
 have h2:2^k*q≤2^k*2^bitLen q:=Nat.mul_le_mul_left _ (Nat.le_of_lt b2.2.1)
 rw[←Nat.pow_add]at h1 h2
 have h3:=Nat.pow_le_pow_right (show 0<2 by decide) (show k+bitLen q≤bitLen p-1+s by omega)
 omega
theorem quoS_zero {p q s:Nat} (h:p*2^s%q=0):quoS p q s=2*(p*2^s/q):=by unfold quoS;rw[if_pos h];rfl
theorem quoS_more {p q s:Nat} (h:p*2^s%q≠0):quoS p q s=2*(p*2^s/q)+1:=by unfold quoS;rw[if_neg h]
theorem quo_round {neg:Bool} {p q s:Nat} {e:Int} (h:18014398509481984≤p*2^s/q):(if p*2^s%q≠0 then rndD neg (2*(p*2^s/q)+1) (e-1) else rndD neg (p*2^s/q) e)=rndD neg (quoS p q s) (e-1):=by
 by_cases h0:p*2^s%q=0
 ·rw[if_neg (fun g=>g h0),quoS_zero h0,rnd_twice h]
 ·rw[if_pos h0,quoS_more h0]
theorem len_shl {p s:Nat} {n:Nat} (hp:(wordsOf p).length≤n) (hs:s≤6400):(wordsOf (p*2^s)).length≤n+101:=by
 have h1:=len_prod p (2^s)
 have h2:(wordsOf (2^s)).length≤101:=by
  obtain⟨k,hk⟩:∃k,k=101:=⟨101,rfl⟩
  rw[←hk]
  refine len_wordsOf ?_
  rw[show(18446744073709551616:Nat)=2^64 from rfl,←Nat.pow_mul]
  exact Nat.pow_lt_pow_right (by decide) (by omega)
 omega
theorem words_pos (n:Nat):decide ((0:Int)<((wordsOf n).length:Int))=decide (n≠0):=decide_eq_decide.2 (by
  constructor
  · intro h e
    subst e
    rw[wordsOf_zero]at h
    simp at h
  · intro h
    rcases Nat.eq_zero_or_pos (wordsOf n).length with e|e
    · have := nv_wordsOf n
      rw[List.length_eq_zero_iff.1 e]at this
      exact absurd this.symm h
    ·omega)
set_option maxHeartbeats 2000000 in
theorem fFrom_ok (r:Rat) (hr:QB r 200):Pure Tryz.prog 119 [(qR r).T] [.t (.int .u64 (frD r:Nat))]:=by
 have r1:=hr.n
 have r2:=hr.d
 have c1:=natBits_ok (wordsOf r.num.natAbs) (WOK_wordsOf _) (by omega)
 have c2:=natBits_ok (wordsOf r.den) (WOK_wordsOf _) (by omega)
 rw[nv_wordsOf]at c1 c2
 have c3:=sgn_okQ r (hr.mono (by decide))
 have hq0:r.den≠0:=r.den_nz
 have hLp:bitLen r.num.natAbs≤12800:=bitLen_words r1
 have hLq:bitLen r.den≤12800:=bitLen_words r2
 have w1:IntKind.wrap .i64 ((bitLen r.num.natAbs:Int)-(bitLen r.den:Int))=sizeQ r:=by rw[w64]<;>first|rfl|omega
 have hsb: -20000≤sizeQ r∧sizeQ r≤20000:=by unfold sizeQ;omega
 have hz:decide (sgnI r=0)=decide (r.num=0):=by unfold sgnI;refine decide_eq_decide.2 ?_;split<;>first|omega|(split<;>omega)
 have hz2:decide (sgnI r≠0)=decide (r.num≠0):=by unfold sgnI;refine decide_eq_decide.2 ?_;split<;>first|omega|(split<;>omega)
 obtain⟨v,hv⟩:∃v,frD r=v:=⟨_,rfl⟩
 rw[hv]
 unfold frD at hv
 have cm:=fun b=>made0_ok b 0
 have ci:=finf_ok (neg1 r)
 have hup:(upQ r:Int)=max (70-sizeQ r) 0:=by unfold upQ;omega
 have hnz:∀h:¬r.num=0,r.num.natAbs≠0:=fun h=>by omega
 rw[qT]at c3
 rw[qT]
 generalize sgnI r=sg at*
 refine Pure.I Tryz.func119 [2] ?_
 refine Sm ?_
 refine Goes.drawN mixed ?_
 refine Sm ?_
 refine CallD.P _ Tryz.call184 c1 ?_
 refine Sm ?_
 refine CallD.P _ Tryz.call184 c2 ?_
 simp-implicitDefEqProofs+decide only[go_sem,w1]
 refine⟨.mk (by kernel_rfl),?_⟩
 apply run_sound 200
 refine Sm ?_
 refine CallG.P _ Tryz.call185 (c3) ?_
 simp-implicitDefEqProofs+decide only[go_sem,hz]
 by_cases h0:r.num=0
 ·have e0:decide (r.num=0)=true:=decide_eq_true h0
  have hng:neg1 r=false:=decide_eq_false (by omega)
  rw[if_pos h0]at hv
  subst hv
  have cm:=cm false
  simp-implicitDefEqProofs+decide only[go_sem,e0,hng]
  refine CallG.P _ Tryz.call186 (cm) ?_
  refine Sm ?_
  exact endF.V1 2 (.int .u64 (sgnD false 0:Nat))
 have e0:decide (r.num=0)=false:=decide_eq_false h0
 have e1:decide (r.num≠0)=true:=decide_eq_true h0
 rw[if_neg h0]at hv
 simp-implicitDefEqProofs+decide only[go_sem,e0]
 apply selP_dec<;>intro h1
 ·rw[if_pos h1]at hv
  subst hv
  have cm:=cm (neg1 r)
  rw[e1]at hz2
  generalize neg1 r=ng at*
  cases ng
  ·refine Sm ?_
   refine CallG.P _ Tryz.call186 (cm) ?_
   refine Sm ?_
   exact endF.V1 2 (.int .u64 (sgnD false 0:Nat))
  ·refine Sm ?_
   refine CallG.P _ Tryz.call185 (c3) ?_
   simp-implicitDefEqProofs+decide only[go_sem,hz2]
   refine CallG.P _ Tryz.call186 (cm) ?_
   refine Sm ?_
   exact endF.V1 2 (.int .u64 (sgnD true 0:Nat))
 rw[if_neg h1]at hv
 refine Sm ?_
 apply selP_dec<;>intro h2
 ·rw[if_pos h2]at hv
  subst hv
  refine Sm ?_
  refine CallG.P _ Tryz.call187 (ci) ?_
  refine Sm ?_
  exact endF.V1 2 (.int .u64 (infD (neg1 r):Nat))
 rw[if_neg h2]at hv
 have w2:IntKind.wrap .i64 (70-sizeQ r)=70-sizeQ r:=by rw[w64]<;>omega
 have x1:(if 70-sizeQ r<0 then 0 else 70-sizeQ r)=(upQ r:Int):=by rw[hup];split<;>omega
 have x2:(if (0:Int)<70-sizeQ r then 70-sizeQ r else 0)=(upQ r:Int):=by rw[hup];split<;>omega
 have hub:upQ r≤1300:=by omega
 have c4:=natShl_ok (wordsOf r.num.natAbs) (upQ r) (WOK_wordsOf _) (by omega) (by omega)
 rw[nv_wordsOf]at c4
 have l4:=len_shl r1 (show upQ r≤6400 by omega)
 have c5:=div_ok (wordsOf (r.num.natAbs*2^upQ r)) (wordsOf r.den) (WOK_wordsOf _) (WOK_wordsOf _) (by omega) (by omega) (by rw[nv_wordsOf];exact hq0)
 rw[nv_wordsOf,nv_wordsOf]at c5
 have l5:=len_mono (Nat.div_le_self (r.num.natAbs*2^upQ r) r.den)
 have hbig:=quo_big (k:=69) (s:=upQ r) (hnz h0) (by unfold sizeQ at hup;omega) hq0
 have hqr:=quo_round (neg:=neg1 r) (e:= -(upQ r:Int)) (Nat.le_trans (show 18014398509481984≤2^69 by decide) hbig)
 have hwp:=words_pos (r.num.natAbs*2^upQ r%r.den)
 have c6:=fOf_ok (neg1 r) (wordsOf (r.num.natAbs*2^upQ r/r.den)) (-(upQ r:Int)) (decide (r.num.natAbs*2^upQ r%r.den≠0)) (WOK_wordsOf _) (by omega) (by omega) (by omega)
 simp only[nv_wordsOf,decide_eq_true_eq]at c6
 rw[hqr,hv]at c6
 have w3:IntKind.wrap .i64 (0-(upQ r:Int))= -(upQ r:Int):=by rw[show 0-(upQ r:Int)= -(upQ r:Int) by omega,w64]<;>omega
 clear hqr hbig
 generalize r.num.natAbs*2^upQ r/r.den=Q at*
 generalize r.num.natAbs*2^upQ r%r.den=R at*
 generalize r.num.natAbs*2^upQ r=P at*
 simp only[sW]at c4 c5 c6
 simp-implicitDefEqProofs+decide only[go_sem,w2,x1,x2,sW]
 refine Goes.drawN mixed ?_
 refine SmV ?_
 refine CallD.P _ Tryz.call189 c4 ?_
 refine SmV ?_
 refine CallD.PS _ Tryz.call188 c5 ?_
 refine Sm ?_
 refine⟨.mk (by kernel_rfl),?_⟩
 apply run_sound 200
 simp-implicitDefEqProofs+decide only[go_sem,w3,List.length_map,hwp]
 refine CallG.P _ Tryz.call190 (c6) ?_
 refine Sm ?_
 exact endF.V1 2 (.int .u64 (v:Nat))
def numV (md:Int) (r:Rat):Vx:=if md=0 then .q r else .d (frD r)
theorem numV_md {md:Int} (h:md=0∨md=1) (r:Rat):(numV md r).md=md:=by
 rcases h with rfl|rfl<;>rfl
theorem frD_lt (r:Rat):frD r<18446744073709551616:=by
 unfold frD
 split
 ·decide
 split
 ·exact sgnD_lt (by decide)
 split
 ·exact infD_lt _
 ·exact rndD_lt _ _ _
theorem numV_B {md:Int} {r:Rat} {n:Nat} (h:QB r n):(numV md r).B n:=by
 unfold numV
 split
 ·exact h
 ·exact frD_lt r
theorem QB_int {n:Int} (h:n.natAbs<18446744073709551616):QB (n:Rat) 1:=⟨len_wordsOf (show n.natAbs<18446744073709551616^1 by simpa using h),len_wordsOf (show(1:Nat)<18446744073709551616^1 by decide)⟩
theorem int_ne {q:Int} (h:q≠0):(q:Rat)≠0:=fun e=>h (by
  have:=(Rat.num_eq_zero).2 e
  exact this)
theorem QB_div {p q:Int} (hq:q≠0) (hp:p.natAbs<18446744073709551616) (hq2:q.natAbs<18446744073709551616):QB ((p:Rat)/(q:Rat)) 2:=by
 rw[Rat.div_def]
 exact QB_mul (QB_int hp) (QB_inv (int_ne hq) (QB_int hq2))
theorem fail0_ok (h:Heap) (m id k:Nat) (md:Int) (mc:AV) (tie:Bool) (hb:∀l,Lab.pool l=false→h l=none) (hk:h (.obj id)=some (bankG md mc k tie)):
  Ret Tryz.prog 183 [.ptr id,.int .i64 0] h m [] h m:=by
 have hl:∀d j,h (.loc d j)=none:=fun d j=>hb _ rfl
 refine Ret.iF Tryz.func183 [] ?_
 have hk2:=hk
 unfold bankG at hk2
 simp-implicitDefEqProofs+decide only[go_sem,hk2,hl]
 refine endF.vals [] (.inl rfl) vals_nil ?_ rfl
 intro l hp
 show h l=upd h (.obj id) _ l
 by_cases e:l=.obj id
 ·subst e;rw[upd_same,hk];rfl
 ·rw[upd_ne _ _ _ _ e]
theorem quotG_ok (h:Heap) (m id k:Nat) (md:Int) (mc:AV) (tie:Bool) (p q:Int) (hb:∀l,Lab.pool l=false→h l=none) (hk:h (.obj id)=some (bankG md mc k tie)) (hq:q≠0) (hp1: -9223372036854775808≤p) (hp2:p≤9223372036854775807) (hq1: -9223372036854775808≤q) (hq2:q≤9223372036854775807):
  Ret Tryz.prog 118 [.ptr id,.int .i64 p,.int .i64 q] h m [.t (qR ((p:Rat)/(q:Rat))).T] h m:=by
 have hl:∀d j,h (.loc d j)=none:=fun d j=>hb _ rfl
 have c1:=of_okQ q hq1 hq2
 have c2:=of_okQ p hp1 hp2
 have c3:=div_okQ (p:Rat) (q:Rat) (int_ne hq) ((QB_int (by omega)).mono (by decide)) ((QB_int (by omega)).mono (by decide))
 have c4:=fail0_ok h m id k md mc tie hb hk
 generalize (p:Rat)/(q:Rat)=t at*
 generalize (p:Rat)=x at*
 generalize (q:Rat)=y at*
 rw[qT]at c1 c2
 rw[qT,qT,qT]at c3
 rw[qT]
 refine Ret.iC Tryz.func118 [.c 6 65] ?_
 refine SmB ?_
 refine CallG.PS _ Tryz.call181 (c1) ?_
 refine SmB ?_
 refine Goes.dP ?_
 refine SmB ?_
 refine CallD.PS _ Tryz.call181 c2 ?_
 refine SmB ?_
 refine CallD.PS _ Tryz.call182 c3 ?_
 refine SmB ?_
 refine⟨.mk (by kernel_rfl),?_⟩
 apply run_sound 200
 refine SmB ?_
 refine CallG.Q _ Tryz.call183 c4 ?_
 refine SmC ?_
 exact endC.O
theorem numG_ok (h:Heap) (m id k:Nat) (md:Int) (mc:AV) (tie:Bool) (p q:Int) (hmd:md=0∨md=1) (hb:∀l,Lab.pool l=false→h l=none) (hk:h (.obj id)=some (bankG md mc k tie)) (hq:q≠0) (hp1: -9223372036854775808≤p) (hp2:p≤9223372036854775807) (hq1: -9223372036854775808≤q) (hq2:q≤9223372036854775807):
  Ret Tryz.prog 64 [.ptr id,.int .i64 p,.int .i64 q] h m [.t (numV md ((p:Rat)/(q:Rat))).T] h m:=by
 have hl:∀d j,h (.loc d j)=none:=fun d j=>hb _ rfl
 have c1:=failsG_ok h m id k md mc tie hb hk
 have c2:=quotG_ok h m id k md mc tie p q hb hk hq hp1 hp2 hq1 hq2
 have c3:=fFrom_ok ((p:Rat)/(q:Rat)) ((QB_div hq (by omega) (by omega)).mono (by decide))
 generalize (p:Rat)/(q:Rat)=t at*
 rw[qT]at c2 c3
 have hk2:=hk
 unfold bankG at hk2
 refine Ret.introC Tryz.func64 rfl (rv:=[.c 6 68]) rfl (by simp[Tryz.ntmps64]) (by decide) (sites:=fun _=>false) hb (Keeps.refl _) ?_
 rcases hmd with rfl|rfl
 ·show Goes _ (endC _ _ [.t (Vx.q t).T] _ _) _ _ _
  rw[Vx_q,vT_eq]
  apply run_sound 200
  refine SmB ?_
  refine CallG.Q _ Tryz.call117 c1 ?_
  refine SmB ?_
  refine CallG.Q _ Tryz.call118 c2 ?_
  simp-implicitDefEqProofs+decide only[go_sem,hl,hk2,sW]
  exact endC.O
 ·show Goes _ (endC _ _ [.t (Vx.d (frD t)).T] _ _) _ _ _
  rw[Vx_d]
  apply run_sound 200
  refine SmB ?_
  refine CallG.Q _ Tryz.call117 c1 ?_
  refine SmB ?_
  refine CallG.Q _ Tryz.call118 c2 ?_
  simp-implicitDefEqProofs+decide only[go_sem,hl,hk2,sW]
  simp only[sW]at c3
  refine CallG.P _ Tryz.call119 (c3) ?_
  refine SmC ?_
  exact endC.O
def divD (a b:Nat):Nat:=
 if kindD a=4∨kindD b=4∨(kindD a=kindD b∧(kindD a=3∨kindD a=0)) then nanD else if kindD a=3∨kindD b=0 then infD (!decide (negD a=negD b)) else if kindD a=0∨kindD b=3 then sgnD (!decide (negD a=negD b)) 0 else
  rndD (!decide (negD a=negD b)) (quoS (partM a) (partM b) (62-bitLen (partM a)+bitLen (partM b))) (partE a-partE b-((62-bitLen (partM a)+bitLen (partM b):Nat):Int)-1)
theorem quo_low {m n S:Nat} (hn:n≠0):(if m*2^(S+1)%n=0 then m*2^(S+1)/n else m*2^(S+1)/n/2*2+1)=quoS m n S:=by
 have hn0:0<n:=Nat.pos_of_ne_zero hn
 have e:m*2^(S+1)=2*(m*2^S):=by rw[Nat.pow_succ];simp only[Nat.mul_comm,Nat.mul_left_comm,Nat.mul_assoc]
 rw[e]
 unfold quoS
 generalize m*2^S=P
 obtain⟨A,r,hP,hr⟩:∃A r,P=n*A+r∧r<n:=⟨P/n,P%n,(Nat.div_add_mod P n).symm,Nat.mod_lt _ hn0⟩
 have eA:P/n=A:=by rw[hP,Nat.add_comm,Nat.add_mul_div_left _ _ hn0,Nat.div_eq_of_lt hr,Nat.zero_add]
 have er:P%n=r:=by rw[hP,Nat.mul_add_mod,Nat.mod_eq_of_lt hr]
 have e2:2*P=n*(2*A)+2*r:=by rw[hP,Nat.mul_add,Nat.mul_left_comm]
 have eQ:2*P/n=2*A+2*r/n:=by rw[e2,Nat.add_comm,Nat.add_mul_div_left _ _ hn0,Nat.add_comm]
 have eR:2*P%n=2*r%n:=by rw[e2,Nat.mul_add_mod]
 rw[eA,er,eQ,eR]
 have hlt:2*r/n<2:=(Nat.div_lt_iff_lt_mul hn0).2 (by omega)
 have hdm:=Nat.div_add_mod (2*r) n
 generalize 2*r/n=b at*
 generalize 2*r%n=c at*
 have hb:b=0∨b=1:=by omega
 rcases hb with rfl|rfl
 ·rw[Nat.mul_zero]at hdm
  split<;>split<;>omega
 ·rw[Nat.mul_one]at hdm
  split<;>split<;>omega
theorem quo_cut {m n s c:Nat}:m*2^(s+c)/(n*2^c)=m*2^s/n∧m*2^(s+c)%(n*2^c)=m*2^s%n*2^c:=by
 rw[Nat.pow_add,←Nat.mul_assoc]
 exact⟨Nat.mul_div_mul_right _ _ (Nat.two_pow_pos c),Nat.mul_mod_mul_right _ _ _⟩
theorem shl_bnd {m k:Nat} (hm:m≠0) (hk:bitLen m≤k) (h1:1≤k):2^(k-1)≤m*2^(k-bitLen m)∧m*2^(k-bitLen m)<2^k:=by
 obtain⟨b1,b2,b3⟩:=bitLen_bounds hm
 constructor
 ·have:=Nat.mul_le_mul_right (2^(k-bitLen m)) b1
  rw[←Nat.pow_add,show bitLen m-1+(k-bitLen m)=k-1 by omega]at this
  exact this
 ·have:=Nat.mul_lt_mul_of_pos_right b2 (Nat.two_pow_pos (k-bitLen m))
  rw[←Nat.pow_add,show bitLen m+(k-bitLen m)=k by omega]at this
  exact this
theorem kind_zero {b:Nat} (h3:kindD b≠3) (h4:kindD b≠4) (h0:kindD b≠0):partM b≠0:=by
 unfold kindD at h3 h4 h0
 unfold partM
 split at h3
 ·split at h3<;>simp_all
 ·rename_i hf
  split at h3
  ·rename_i hz
   rw[if_pos hz]
   split at h3
   ·simp_all
   ·assumption
  ·rename_i hz
   rw[if_neg hz];omega
theorem fsign0_ok (neg:Bool):Pure Tryz.prog 278 [.bool neg] [.t (.int .u64 (sgnD neg 0:Nat))]:=by
 have c1:=make0_ok neg 0
 refine Pure.I Tryz.func278 [2] ?_
 refine Sm ?_
 refine CallG.P _ Tryz.call243 (c1) ?_
 refine Sm ?_
 exact endF.V1 2 (.int .u64 (sgnD neg 0:Nat))
set_option maxHeartbeats 4000000 in
theorem fdiv_ok (a b:Nat) (ha:a<18446744073709551616) (hb:b<18446744073709551616):Pure Tryz.prog 222 [.int .u64 a,.int .u64 b] [.t (.int .u64 (divD a b:Nat))]:=by
 have c1:=kind_ok a ha
 have c2:=kind_ok b hb
 have c3:=fnan_ok
 have n1:=fneg_ok a ha
 have n2:=fneg_ok b hb
 have p1:=parts_ok a ha
 have p2:=parts_ok b hb
 have b1:=@partE_bnd a
 have b2:=@partE_bnd b
 have m1:=partM_lt a
 have m2:=partM_lt b
 have ka:kindD a≠3→kindD a≠4→fieldD a≠2047:=fun h3 h4=>kind_fin h3 h4
 have kb:kindD b≠3→kindD b≠4→fieldD b≠2047:=fun h3 h4=>kind_fin h3 h4
 have za:=@kind_zero a
 have zb:=@kind_zero b
 obtain⟨r,hr⟩:∃r,divD a b=r:=⟨_,rfl⟩
 rw[hr]
 unfold divD at hr
 have ci:=finf_ok (!decide (negD a=negD b))
 have cz:=fsign0_ok (!decide (negD a=negD b))
 generalize kindD a=k at*
 generalize kindD b=l at*
 generalize negD a=s at*
 generalize negD b=t at*
 generalize partM a=m at*
 generalize partM b=n at*
 generalize partE a=e at*
 generalize partE b=f at*
 refine Pure.I Tryz.func222 [4] ?_
 refine Sm ?_
 refine CallG.P _ Tryz.call271 (c1) ?_
 refine Sm ?_
 refine CallG.P _ Tryz.call271 (c2) ?_
 refine Sm ?_
 refine CallG.P _ Tryz.call275 (n1) ?_
 refine Sm ?_
 refine CallG.P _ Tryz.call275 (n2) ?_
 refine Sm ?_
 by_cases h1:k=4∨l=4∨(k=l∧(k=3∨k=0))
 ·rw [if_pos h1] at hr
  subst hr
  by_cases g1:k=4
  ·have d1:decide (k=4)=true:=decide_eq_true g1
   simp-implicitDefEqProofs+decide only[go_sem,d1]
   refine CallG.P _ Tryz.call272 (c3) ?_
   refine Sm ?_
   exact endF.V1 4 (.int .u64 (nanD:Nat))
  ·have d1:decide (k=4)=false:=decide_eq_false g1
   by_cases g2:l=4
   ·have d2:decide (l=4)=true:=decide_eq_true g2
    simp-implicitDefEqProofs+decide only[go_sem,d1,d2]
    refine CallG.P _ Tryz.call272 (c3) ?_
    refine Sm ?_
    exact endF.V1 4 (.int .u64 (nanD:Nat))
   ·have d2:decide (l=4)=false:=decide_eq_false g2
    obtain⟨g3,g4⟩:k=l∧(k=3∨k=0):=by
     rcases h1 with h|h|h
     ·exact absurd h g1
     ·exact absurd h g2
     ·exact h
    subst g3
    rcases g4 with rfl|rfl
    ·refine Sm ?_
     refine CallG.P _ Tryz.call272 (c3) ?_
     refine Sm ?_
     exact endF.V1 4 (.int .u64 (nanD:Nat))
    ·refine Sm ?_
     refine CallG.P _ Tryz.call272 (c3) ?_
     refine Sm ?_
     exact endF.V1 4 (.int .u64 (nanD:Nat))
 rw[if_neg h1]at hr
 have d1:decide (k=4)=false:=decide_eq_false (fun h=>h1 (.inl h))
 have d2:decide (l=4)=false:=decide_eq_false (fun h=>h1 (.inr (.inl h)))
 by_cases hkl:k=l
 ·have dkl:decide (k=l)=true:=decide_eq_true hkl
  have g3:k≠3:=fun h=>h1 (.inr (.inr ⟨hkl,.inl h⟩))
  have g0:k≠0:=fun h=>h1 (.inr (.inr ⟨hkl,.inr h⟩))
  have d3:decide (k=3)=false:=decide_eq_false g3
  have d4:decide (k=0)=false:=decide_eq_false g0
  have h2:¬(k=3∨l=0):=by omega
  have h3:¬(k=0∨l=3):=by omega
  rw[if_neg h2]at hr
  have e1:decide (k=3)=false:=d3
  have e2:decide (l=0)=false:=decide_eq_false (by omega)
  rw[if_neg h3]at hr
  have e3:decide (k=0)=false:=decide_eq_false (by omega)
  have e4:decide (l=3)=false:=decide_eq_false (by omega)
  have fa:=ka (by omega) (fun h=>h1 (.inl h))
  have fb:=kb (by omega) (fun h=>h1 (.inr (.inl h)))
  have p1:=p1 fa
  have p2:=p2 fb
  have b1:=b1 fa
  have b2:=b2 fb
  have hm:=za (by omega) (fun h=>h1 (.inl h)) (by omega)
  have hn:=zb (by omega) (fun h=>h1 (.inr (.inl h))) (by omega)
  have l1:=limbLen_ok m (by omega)
  have l2:=limbLen_ok n (by omega)
  have lm:bitLen m≤53:=bitLen_lt (by omega)
  have ln:bitLen n≤53:=bitLen_lt (by omega)
  have w1:IntKind.wrap .i64 (63-(bitLen m:Int))=((63-bitLen m:Nat):Int):=by rw[show 63-(bitLen m:Int)=((63-bitLen m:Nat):Int) by omega,w64]<;>omega
  have w2:IntKind.wrap .i64 (64-(bitLen n:Int))=((64-bitLen n:Nat):Int):=by rw[show 64-(bitLen n:Int)=((64-bitLen n:Nat):Int) by omega,w64]<;>omega
  have B1:=shl_bnd hm (show bitLen m≤63 by omega) (by decide)
  have B2:=shl_bnd hn (show bitLen n≤64 by omega) (by decide)
  have hmod1:m*2^(63-bitLen m)%18446744073709551616=m*2^(63-bitLen m):=Nat.mod_eq_of_lt (Nat.lt_trans B1.2 (by decide))
  have hmod2:n*2^(64-bitLen n)%18446744073709551616=n*2^(64-bitLen n):=Nat.mod_eq_of_lt B2.2
  obtain⟨S,hS⟩:∃S,62-bitLen m+bitLen n=S:=⟨_,rfl⟩
  have eX:m*2^(63-bitLen m)*18446744073709551616=m*2^(S+1+(64-bitLen n)):=by
   rw[show(18446744073709551616:Nat)=2^64 from rfl,Nat.mul_assoc,←Nat.pow_add]
   congr 2
   omega
  obtain⟨cut1,cut2⟩:=quo_cut (m:=m) (n:=n) (s:=S+1) (c:=64-bitLen n)
  have cd:=limbDiv_ok (m*2^(63-bitLen m)) 0 (n*2^(64-bitLen n)) (Nat.lt_of_lt_of_le B1.2 B2.1) (by decide) B2.2
  rw[Nat.add_zero,eX,cut1,cut2]at cd
  have hQ:m*2^(S+1)/n<18446744073709551616:=by
   rw[←cut1,←eX]
   refine(Nat.div_lt_iff_lt_mul (Nat.lt_of_lt_of_le (by decide) B2.1)).2 ?_
   rw[Nat.mul_comm 18446744073709551616]
   exact Nat.mul_lt_mul_of_pos_right (Nat.lt_of_lt_of_le B1.2 B2.1) (by decide)
  have hq:=quo_low (m:=m) (S:=S) hn
  rw[hS]at hr
  have dR:decide (((m*2^(S+1)%n*2^(64-bitLen n):Nat):Int)≠0)=decide (¬m*2^(S+1)%n=0):=decide_eq_decide.2 (by
    have:=Nat.two_pow_pos (64-bitLen n)
    rw[Ne,Int.natCast_eq_zero,Nat.mul_eq_zero]
    omega)
  have w3:IntKind.wrap .i64 (IntKind.wrap .i64 (IntKind.wrap .i64 (IntKind.wrap .i64 (e-((63-bitLen m:Nat):Int))-f)+((64-bitLen n:Nat):Int))-64)=e-f-(S:Int)-1:=by
   rw[@w64 (e-((63-bitLen m:Nat):Int)) (by omega) (by omega),@w64 (e-((63-bitLen m:Nat):Int)-f) (by omega) (by omega),@w64 (e-((63-bitLen m:Nat):Int)-f+((64-bitLen n:Nat):Int)) (by omega) (by omega),w64 (by omega) (by omega)]
   omega
  have cw:=word_ok (!decide (s=t)) (quoS m n S) (e-f-(S:Int)-1) (by
    rw[←hq]
    split<;>omega) (by omega) (by omega)
  rw[hr,←hq]at cw
  generalize m*2^(S+1)/n=Q at*
  generalize m*2^(S+1)%n=R at*
  simp-implicitDefEqProofs+decide only[go_sem,d1,d2,dkl,d3,d4,e1,e2,e3,e4]
  refine CallG.P _ Tryz.call276 (p1) ?_
  refine Sm ?_
  refine CallG.P _ Tryz.call276 (p2) ?_
  refine Sm ?_
  refine CallG.P _ Tryz.call242 (l1) ?_
  simp-implicitDefEqProofs+decide only[go_sem,w1]
  refine CallG.P _ Tryz.call242 (l2) ?_
  simp-implicitDefEqProofs+decide only[go_sem,w2]
  refine Goes.drawN mixed ?_
  simp-implicitDefEqProofs+decide only[go_sem,ushlN m (63-bitLen m) (by omega),ushlN n (64-bitLen n) (by omega),hmod1,hmod2]
  refine CallD.P _ Tryz.call279 cd ?_
  refine Sm ?_
  refine⟨.mk (by kernel_rfl),?_⟩
  apply run_sound 200
  simp-implicitDefEqProofs+decide only[go_sem,dR]
  apply selP_dec<;>intro h5
  ·rw[if_neg h5]at hq cw
   simp-implicitDefEqProofs+decide only[go_sem,uorO hQ,w3]
   refine CallG.P _ Tryz.call251 (cw) ?_
   refine Sm ?_
   exact endF.V1 4 (.int .u64 (r:Nat))
  ·rw[if_pos (by omega)]at hq cw
   simp-implicitDefEqProofs+decide only[go_sem,w3]
   refine CallG.P _ Tryz.call251 (cw) ?_
   refine Sm ?_
   exact endF.V1 4 (.int .u64 (r:Nat))
 ·have dkl:decide (k=l)=false:=decide_eq_false hkl
  have d3:=dkl
  have d4:=dkl
  by_cases h2:k=3∨l=0
  ·rw[if_pos h2]at hr
   subst hr
   by_cases g1:k=3
   ·have e1:decide (k=3)=true:=decide_eq_true g1
    simp-implicitDefEqProofs+decide only[go_sem,d1,d2,dkl,d3,d4,e1]
    refine CallG.P _ Tryz.call187 (ci) ?_
    refine Sm ?_
    exact endF.V1 4 (.int .u64 (infD (!decide (s=t)):Nat))
   ·have e1:decide (k=3)=false:=decide_eq_false g1
    have e2:decide (l=0)=true:=decide_eq_true (by omega)
    simp-implicitDefEqProofs+decide only[go_sem,d1,d2,dkl,d3,d4,e1,e2]
    refine CallG.P _ Tryz.call187 (ci) ?_
    refine Sm ?_
    exact endF.V1 4 (.int .u64 (infD (!decide (s=t)):Nat))
  rw[if_neg h2]at hr
  have e1:decide (k=3)=false:=decide_eq_false (by omega)
  have e2:decide (l=0)=false:=decide_eq_false (by omega)
  by_cases h3:k=0∨l=3
  ·rw[if_pos h3]at hr
   subst hr
   by_cases g1:k=0
   ·have e3:decide (k=0)=true:=decide_eq_true g1
    simp-implicitDefEqProofs+decide only[go_sem,d1,d2,dkl,d3,d4,e1,e2,e3]
    refine CallG.P _ Tryz.call278 (cz) ?_
    refine Sm ?_
    exact endF.V1 4 (.int .u64 (sgnD (!decide (s=t)) 0:Nat))
   ·have e3:decide (k=0)=false:=decide_eq_false g1
    have e4:decide (l=3)=true:=decide_eq_true (by omega)
    simp-implicitDefEqProofs+decide only[go_sem,d1,d2,dkl,d3,d4,e1,e2,e3,e4]
    refine CallG.P _ Tryz.call278 (cz) ?_
    refine Sm ?_
    exact endF.V1 4 (.int .u64 (sgnD (!decide (s=t)) 0:Nat))
  rw[if_neg h3]at hr
  have e3:decide (k=0)=false:=decide_eq_false (by omega)
  have e4:decide (l=3)=false:=decide_eq_false (by omega)
  have fa:=ka (by omega) (fun h=>h1 (.inl h))
  have fb:=kb (by omega) (fun h=>h1 (.inr (.inl h)))
  have p1:=p1 fa
  have p2:=p2 fb
  have b1:=b1 fa
  have b2:=b2 fb
  have hm:=za (by omega) (fun h=>h1 (.inl h)) (by omega)
  have hn:=zb (by omega) (fun h=>h1 (.inr (.inl h))) (by omega)
  have l1:=limbLen_ok m (by omega)
  have l2:=limbLen_ok n (by omega)
  have lm:bitLen m≤53:=bitLen_lt (by omega)
  have ln:bitLen n≤53:=bitLen_lt (by omega)
  have w1:IntKind.wrap .i64 (63-(bitLen m:Int))=((63-bitLen m:Nat):Int):=by rw[show 63-(bitLen m:Int)=((63-bitLen m:Nat):Int) by omega,w64]<;>omega
  have w2:IntKind.wrap .i64 (64-(bitLen n:Int))=((64-bitLen n:Nat):Int):=by rw[show 64-(bitLen n:Int)=((64-bitLen n:Nat):Int) by omega,w64]<;>omega
  have B1:=shl_bnd hm (show bitLen m≤63 by omega) (by decide)
  have B2:=shl_bnd hn (show bitLen n≤64 by omega) (by decide)
  have hmod1:m*2^(63-bitLen m)%18446744073709551616=m*2^(63-bitLen m):=Nat.mod_eq_of_lt (Nat.lt_trans B1.2 (by decide))
  have hmod2:n*2^(64-bitLen n)%18446744073709551616=n*2^(64-bitLen n):=Nat.mod_eq_of_lt B2.2
  obtain⟨S,hS⟩:∃S,62-bitLen m+bitLen n=S:=⟨_,rfl⟩
  have eX:m*2^(63-bitLen m)*18446744073709551616=m*2^(S+1+(64-bitLen n)):=by
   rw[show(18446744073709551616:Nat)=2^64 from rfl,Nat.mul_assoc,←Nat.pow_add]
   congr 2
   omega
  obtain⟨cut1,cut2⟩:=quo_cut (m:=m) (n:=n) (s:=S+1) (c:=64-bitLen n)
  have cd:=limbDiv_ok (m*2^(63-bitLen m)) 0 (n*2^(64-bitLen n)) (Nat.lt_of_lt_of_le B1.2 B2.1) (by decide) B2.2
  rw[Nat.add_zero,eX,cut1,cut2]at cd
  have hQ:m*2^(S+1)/n<18446744073709551616:=by
   rw[←cut1,←eX]
   refine(Nat.div_lt_iff_lt_mul (Nat.lt_of_lt_of_le (by decide) B2.1)).2 ?_
   rw[Nat.mul_comm 18446744073709551616]
   exact Nat.mul_lt_mul_of_pos_right (Nat.lt_of_lt_of_le B1.2 B2.1) (by decide)
  have hq:=quo_low (m:=m) (S:=S) hn
  rw[hS]at hr
  have dR:decide (((m*2^(S+1)%n*2^(64-bitLen n):Nat):Int)≠0)=decide (¬m*2^(S+1)%n=0):=decide_eq_decide.2 (by
    have:=Nat.two_pow_pos (64-bitLen n)
    rw[Ne,Int.natCast_eq_zero,Nat.mul_eq_zero]
    omega)
  have w3:IntKind.wrap .i64 (IntKind.wrap .i64 (IntKind.wrap .i64 (IntKind.wrap .i64 (e-((63-bitLen m:Nat):Int))-f)+((64-bitLen n:Nat):Int))-64)=e-f-(S:Int)-1:=by
   rw[@w64 (e-((63-bitLen m:Nat):Int)) (by omega) (by omega),@w64 (e-((63-bitLen m:Nat):Int)-f) (by omega) (by omega),@w64 (e-((63-bitLen m:Nat):Int)-f+((64-bitLen n:Nat):Int)) (by omega) (by omega),w64 (by omega) (by omega)]
   omega
  have cw:=word_ok (!decide (s=t)) (quoS m n S) (e-f-(S:Int)-1) (by
    rw[←hq]
    split<;>omega) (by omega) (by omega)
  rw[hr,←hq]at cw
  generalize m*2^(S+1)/n=Q at*
  generalize m*2^(S+1)%n=R at*
  simp-implicitDefEqProofs+decide only[go_sem,d1,d2,dkl,d3,d4,e1,e2,e3,e4]
  refine CallG.P _ Tryz.call276 (p1) ?_
  refine Sm ?_
  refine CallG.P _ Tryz.call276 (p2) ?_
  refine Sm ?_
  refine CallG.P _ Tryz.call242 (l1) ?_
  simp-implicitDefEqProofs+decide only[go_sem,w1]
  refine CallG.P _ Tryz.call242 (l2) ?_
  simp-implicitDefEqProofs+decide only[go_sem,w2]
  refine Goes.drawN mixed ?_
  simp-implicitDefEqProofs+decide only[go_sem,ushlN m (63-bitLen m) (by omega),ushlN n (64-bitLen n) (by omega),hmod1,hmod2]
  refine CallD.P _ Tryz.call279 cd ?_
  refine Sm ?_
  refine⟨.mk (by kernel_rfl),?_⟩
  apply run_sound 200
  simp-implicitDefEqProofs+decide only[go_sem,dR]
  apply selP_dec<;>intro h5
  ·rw[if_neg h5]at hq cw
   simp-implicitDefEqProofs+decide only[go_sem,uorO hQ,w3]
   refine CallG.P _ Tryz.call251 (cw) ?_
   refine Sm ?_
   exact endF.V1 4 (.int .u64 (r:Nat))
  ·rw[if_pos (by omega)]at hq cw
   simp-implicitDefEqProofs+decide only[go_sem,w3]
   refine CallG.P _ Tryz.call251 (cw) ?_
   refine Sm ?_
   exact endF.V1 4 (.int .u64 (r:Nat))
end Go.Fm
