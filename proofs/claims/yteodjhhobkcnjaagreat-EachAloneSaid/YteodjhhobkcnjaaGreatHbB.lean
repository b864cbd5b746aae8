/- Words: sums, differences, products. -/
import Derived.Test.YteodjhhobkcnjaaGreatHbA
set_option linter.unusedVariables false
set_option linter.unusedSimpArgs false
namespace Go.Fm
open Go.Proofs
set_option maxRecDepth 100000
attribute [local irreducible] tiOf
theorem limbAdd_ok (a b c:Nat) (ha:a<18446744073709551616) (hb:b<18446744073709551616) (hc:c<18446744073709551616):
  Pure Tryz.prog 290 [.int .u64 a,.int .u64 b,.int .u64 c] [.t (.int .u64 ((a+b+c)%18446744073709551616:Nat)),.t (.int .u64 ((a+b+c)/18446744073709551616:Nat))]:=by
 refine Pure.I Tryz.func290 [6,7] ?_
 refine Sm ?_
 apply selP_dec<;>intro h1
 ·refine Sm ?_
  apply selP_dec<;>intro h2
  ·refine Sm ?_
   exact endF.twoI (.inr rfl) (by simp-implicitDefEqProofs+decide only[go_sem];rfl) (by simp-implicitDefEqProofs+decide only[go_sem];rfl) (by omega) (by omega) (fun _ _=>rfl) rfl
  ·refine Sm ?_
   exact endF.twoI (.inr rfl) (by simp-implicitDefEqProofs+decide only[go_sem];rfl) (by simp-implicitDefEqProofs+decide only[go_sem];rfl) (by omega) (by omega) (fun _ _=>rfl) rfl
 ·refine Sm ?_
  apply selP_dec<;>intro h2
  ·refine Sm ?_
   exact endF.twoI (.inr rfl) (by simp-implicitDefEqProofs+decide only[go_sem];rfl) (by simp-implicitDefEqProofs+decide only[go_sem];rfl) (by omega) (by omega) (fun _ _=>rfl) rfl
  ·refine Sm ?_
   exact endF.twoI (.inr rfl) (by simp-implicitDefEqProofs+decide only[go_sem];rfl) (by simp-implicitDefEqProofs+decide only[go_sem];rfl) (by omega) (by omega) (fun _ _=>rfl) rfl
theorem limbSub_ok (a b c:Nat) (ha:a<18446744073709551616) (hb:b<18446744073709551616) (hc:c<18446744073709551616):
  Pure Tryz.prog 301 [.int .u64 a,.int .u64 b,.int .u64 c] [.t (.int .u64 ((a+(18446744073709551616+18446744073709551616-b-c))%18446744073709551616:Nat)),.t (.int .u64 (2-(a+(18446744073709551616+18446744073709551616-b-c))/18446744073709551616:Nat))]:=by
 have e1:=usub a b (by omega)
 have e2:=usub ((a+(18446744073709551616-b))%18446744073709551616) c (by omega)
 refine Pure.I Tryz.func301 [6,7] ?_
 simp-implicitDefEqProofs+decide only[go_sem,e1]
 apply selP_dec<;>intro h1
 ·simp-implicitDefEqProofs+decide only[go_sem,e1,e2,u01,u11]
  apply selP_dec<;>intro h2
  ·simp-implicitDefEqProofs+decide only[go_sem,e1,e2,u01,u11]
   exact endF.twoI (.inr rfl) (by simp-implicitDefEqProofs+decide only[go_sem];rfl) (by simp-implicitDefEqProofs+decide only[go_sem];rfl) (by omega) (by omega) (fun _ _=>rfl) rfl
  ·simp-implicitDefEqProofs+decide only[go_sem,e1,e2,u01,u11]
   exact endF.twoI (.inr rfl) (by simp-implicitDefEqProofs+decide only[go_sem];rfl) (by simp-implicitDefEqProofs+decide only[go_sem];rfl) (by omega) (by omega) (fun _ _=>rfl) rfl
 ·simp-implicitDefEqProofs+decide only[go_sem,e1,e2,u01,u11]
  apply selP_dec<;>intro h2
  ·simp-implicitDefEqProofs+decide only[go_sem,e1,e2,u01,u11]
   exact endF.twoI (.inr rfl) (by simp-implicitDefEqProofs+decide only[go_sem];rfl) (by simp-implicitDefEqProofs+decide only[go_sem];rfl) (by omega) (by omega) (fun _ _=>rfl) rfl
  ·simp-implicitDefEqProofs+decide only[go_sem,e1,e2,u01,u11]
   exact endF.twoI (.inr rfl) (by simp-implicitDefEqProofs+decide only[go_sem];rfl) (by simp-implicitDefEqProofs+decide only[go_sem];rfl) (by omega) (by omega) (fun _ _=>rfl) rfl
theorem mul_halves (a b:Nat) (ha:a<18446744073709551616) (hb:b<18446744073709551616):
  let ll:=a%4294967296*(b%4294967296)
  let lh:=a%4294967296*(b/4294967296)+ll/4294967296
  let hl:=a/4294967296*(b%4294967296)+lh%4294967296
  a/4294967296*(b/4294967296)+lh/4294967296+hl/4294967296=a*b/18446744073709551616∧hl*4294967296%18446744073709551616+ll%4294967296=a*b%18446744073709551616∧ll<18446744073709551616∧lh<18446744073709551616∧hl<18446744073709551616∧a/4294967296*(b/4294967296)+lh/4294967296+hl/4294967296<18446744073709551616:=by
 intro ll lh hl
 have ha1:a/4294967296<4294967296:=by omega
 have hb1:b/4294967296<4294967296:=by omega
 have ha0:a%4294967296<4294967296:=Nat.mod_lt _ (by decide)
 have hb0:b%4294967296<4294967296:=Nat.mod_lt _ (by decide)
 have ea:a=a/4294967296*4294967296+a%4294967296:=by omega
 have eb:b=b/4294967296*4294967296+b%4294967296:=by omega
 have key:a*b=(a/4294967296*(b/4294967296))*18446744073709551616+(a/4294967296*(b%4294967296)+a%4294967296*(b/4294967296))*4294967296+ll:=by
  conv=>lhs;rw[ea,eb]
  show(a/4294967296*4294967296+a%4294967296)*(b/4294967296*4294967296+b%4294967296)=_+a%4294967296*(b%4294967296)
  rw[show(18446744073709551616:Nat)=4294967296*4294967296 from rfl]
  simp only[Nat.add_mul,Nat.mul_add]
  ac_nf
 have m1:a%4294967296*(b%4294967296)≤4294967295*4294967295:=Nat.mul_le_mul (by omega) (by omega)
 have m2:a%4294967296*(b/4294967296)≤4294967295*4294967295:=Nat.mul_le_mul (by omega) (by omega)
 have m3:a/4294967296*(b%4294967296)≤4294967295*4294967295:=Nat.mul_le_mul (by omega) (by omega)
 have m4:a/4294967296*(b/4294967296)≤4294967295*4294967295:=Nat.mul_le_mul (by omega) (by omega)
 simp only[ll,lh,hl]
 simp only[ll]at key
 generalize a%4294967296*(b%4294967296)=p at*
 generalize a%4294967296*(b/4294967296)=q at*
 generalize a/4294967296*(b%4294967296)=r at*
 generalize a/4294967296*(b/4294967296)=t at*
 generalize a*b=z at*
 omega
theorem limbMul_ok (a b:Nat) (ha:a<18446744073709551616) (hb:b<18446744073709551616):
  Pure Tryz.prog 277 [.int .u64 a,.int .u64 b] [.t (.int .u64 (a*b/18446744073709551616:Nat)),.t (.int .u64 (a*b%18446744073709551616:Nat))]:=by
 obtain⟨k1,k2,k3,k4,k5,k6⟩:=mul_halves a b ha hb
 have o1:=uor32 (a/4294967296*(b%4294967296)+(a%4294967296*(b/4294967296)+a%4294967296*(b%4294967296)/4294967296)%4294967296)
 refine Pure.I Tryz.func277 [4,5] ?_
 refine Sm ?_
 have b1:a/4294967296*(b/4294967296)<18446744073709551616:=by omega
 have b2:a/4294967296*(b/4294967296)+(a%4294967296*(b/4294967296)+a%4294967296*(b%4294967296)/4294967296)/4294967296<18446744073709551616:=by omega
 have b3:a/4294967296*(b%4294967296)<18446744073709551616:=by omega
 have b4:a%4294967296*(b/4294967296)<18446744073709551616:=by omega
 have o1:=uor32 (a/4294967296*(b%4294967296)+(a%4294967296*(b/4294967296)+a%4294967296*(b%4294967296)/4294967296)%4294967296) (a%4294967296*(b%4294967296)%4294967296) (Nat.mod_lt _ (by decide))
 refine endF.twoI (.inr rfl) (by simp-implicitDefEqProofs+decide only[go_sem];rfl) (by simp-implicitDefEqProofs+decide only[go_sem];rfl) ?_ ?_ (fun _ _=>rfl) rfl
 ·simp-implicitDefEqProofs+decide only[go_sem,Nat.mod_eq_of_lt k3,Nat.mod_eq_of_lt k4,Nat.mod_eq_of_lt k5,Nat.mod_eq_of_lt k6,Nat.mod_eq_of_lt b1,Nat.mod_eq_of_lt b2,Nat.mod_eq_of_lt b3,Nat.mod_eq_of_lt b4,k1,Nat.mod_eq_of_lt (k1▸k6)]
 ·simp-implicitDefEqProofs+decide only[go_sem,Nat.mod_eq_of_lt k3,Nat.mod_eq_of_lt k4,Nat.mod_eq_of_lt k5,Nat.mod_eq_of_lt k6,Nat.mod_eq_of_lt b1,Nat.mod_eq_of_lt b2,Nat.mod_eq_of_lt b3,Nat.mod_eq_of_lt b4,o1,k2]
theorem limbLen_ok (x:Nat) (hx:x<18446744073709551616):Pure Tryz.prog 242 [.int .u64 x] [.t (.int .i64 (bitLen x:Nat))]:=by
 refine Pure.I Tryz.func242 [2] ?_
 refine Sm ?_
 refine Goes.loop (X:=Nat×Nat×Nat) (fun y=>⟨ofL [(0,.t (.int .u64 y.1)),(3,.t (.int .i64 y.2.1)),(4,.t (.int .i64 y.2.2))],fun _=>none,0⟩)
  (fun y=>x/2^y.2.1=y.1∧(x≠0→y.1≠0)∧(x=0→y.2.1=0)∧y.2.1+2*y.2.2≤64∧((y.2.2=0∧y.1<2)∨(y.2.2=1∧y.1<4)∨(y.2.2=2∧y.1<16)∨(y.2.2=4∧y.1<256)∨(y.2.2=8∧y.1<65536)∨(y.2.2=16∧y.1<4294967296)∨(y.2.2=32∧y.1<18446744073709551616))) (fun y=>y.2.2) (x,0,32) ?_ ?_ ?_
 ·exact Wk.slots _ rfl rfl (by simp-implicitDefEqProofs+decide only[go_sem];rfl) (by simp-implicitDefEqProofs+decide only[go_sem])
 ·simp;omega
 rintro ⟨y,n,s⟩ ⟨h1,h2,h3,h4,h5⟩ J hJ
 dsimp only at h1 h2 h3 h4 h5 hJ⊢
 have hs:s≤64:=by omega
 apply run_sound 200
 refine Sm ?_
 apply selP_dec<;>intro hc
 ·simp-implicitDefEqProofs+decide only[go_sem,ushrN y s hs]
  apply selP_dec<;>intro hd
  ·have hw:IntKind.wrap .i64 ((n:Int)+s)=((n+s:Nat):Int):=by rw[w64]<;>omega
   simp-implicitDefEqProofs+decide only[go_sem,ushrN y s hs,i64half]
   refine hJ (y/2^s,n+s,s/2) _ ⟨?_,?_,?_,?_,?_⟩ (by dsimp only;omega) (Wk.slots _ rfl rfl (by simp-implicitDefEqProofs+decide only[go_sem,hw]) (by simp-implicitDefEqProofs+decide only[go_sem]))
   ·rw[←h1,Nat.div_div_eq_div_mul,←Nat.pow_add]
   ·intro _;dsimp only;omega
   ·intro h0
    subst h0
    rw[Nat.zero_div]at h1;subst h1
    simp at hd
   ·dsimp only;omega
   ·dsimp only
    rcases h5 with ⟨rfl,h5⟩|⟨rfl,h5⟩|⟨rfl,h5⟩|⟨rfl,h5⟩|⟨rfl,h5⟩|⟨rfl,h5⟩|⟨rfl,h5⟩<;>omega
  ·simp-implicitDefEqProofs+decide only[go_sem,ushrN y s hs,i64half]
   refine hJ (y,n,s/2) _ ⟨h1,h2,h3,?_,?_⟩ (by dsimp only;omega) (Wk.slots _ rfl rfl (by simp-implicitDefEqProofs+decide only[go_sem]) (by simp-implicitDefEqProofs+decide only[go_sem]))
   ·dsimp only;omega
   ·dsimp only
    rcases h5 with ⟨rfl,h5⟩|⟨rfl,h5⟩|⟨rfl,h5⟩|⟨rfl,h5⟩|⟨rfl,h5⟩|⟨rfl,h5⟩|⟨rfl,h5⟩<;>omega
 ·have hs0:s=0:=by omega
  subst hs0
  have hy2:y<2:=by omega
  have hy:IntKind.wrap .i64 (y:Int)=y:=by rw[w64]<;>omega
  have hw:IntKind.wrap .i64 ((n:Int)+y)=((n+y:Nat):Int):=by rw[w64]<;>omega
  have he:n+y=bitLen x:=by
   by_cases h0:x=0
   ·have:=h3 h0
    subst h0;subst this
    rw[Nat.zero_div]at h1;subst h1;rfl
   ·have hy1:y=1:=by have:=h2 h0;omega
    subst hy1
    exact(bitLen_eq h1).symm
  simp-implicitDefEqProofs+decide only[go_sem,hy,hw]
  refine endF.oneI (.inr rfl) (by simp-implicitDefEqProofs+decide only[go_sem,hy,hw];rfl) (by rw[he]) (fun _ _=>rfl) rfl
theorem digit_lin (rest next z m:Nat) (h:z+m=rest*4294967296+next) (hm:m<18446744073709551616):(((rest*4294967296%18446744073709551616+next)%18446744073709551616+(18446744073709551616-z%18446744073709551616))%18446744073709551616)=m:=by omega
theorem digit_end (rest next d q:Nat) (hd:d<18446744073709551616) (hn:next<4294967296) (hq:q=(rest*4294967296+next)/d) (h0:0<d):
  (((rest*4294967296%18446744073709551616+next)%18446744073709551616+(18446744073709551616-q*d%18446744073709551616))%18446744073709551616)=(rest*4294967296+next)%d:=by
 have h1:=Nat.div_add_mod (rest*4294967296+next) d
 have h2:=Nat.mod_lt (rest*4294967296+next) h0
 rw[←hq,Nat.mul_comm]at h1
 exact digit_lin rest next _ _ h1 (by omega)
theorem digit_up (rest next d q r:Nat) (hr:rest<d) (hn:next<4294967296) (hd:d<18446744073709551616) (hinv:q*(d/4294967296)+r=rest) (hge:(rest*4294967296+next)/d≤q) (hle:q*(d%4294967296)≤r*4294967296+next):q=(rest*4294967296+next)/d:=by
 refine Nat.le_antisymm ?_ hge
 rw[Nat.le_div_iff_mul_le (by omega)]
 have e:d=d/4294967296*4294967296+d%4294967296:=by omega
 have:q*d=q*(d/4294967296)*4294967296+q*(d%4294967296):=by
  conv=>lhs;rw[e]
  rw[Nat.mul_add,Nat.mul_assoc]
 rw[this,←hinv,Nat.add_mul]
 omega
theorem down_lin (rest r next z y:Nat) (h1:z+r=rest) (h2:r*4294967296+next<y):rest*4294967296+next<z*4294967296+y:=by
 rw[←h1,Nat.add_mul,Nat.add_assoc]
 exact Nat.add_lt_add_left h2 _
theorem digit_down (rest next d q r:Nat) (hr:rest<d) (hn:next<4294967296) (hinv:q*(d/4294967296)+r=rest) (hgt:4294967296≤q∨r*4294967296+next<q*(d%4294967296)):(rest*4294967296+next)/d+1≤q:=by
 rcases hgt with h|h
 ·have:(rest*4294967296+next)/d<4294967296:=by
   rw[Nat.div_lt_iff_lt_mul (by omega),Nat.mul_comm]
   omega
  omega
 ·have:(rest*4294967296+next)/d<q:=by
   rw[Nat.div_lt_iff_lt_mul (by omega)]
   have e:d=d/4294967296*4294967296+d%4294967296:=by omega
   have:q*d=q*(d/4294967296)*4294967296+q*(d%4294967296):=by
    conv=>lhs;rw[e]
    rw[Nat.mul_add,Nat.mul_assoc]
   rw[this]
   exact down_lin _ _ _ _ _ hinv h
  exact this
theorem digit_ok (rest next d:Nat) (h63:9223372036854775808≤d) (hd:d<18446744073709551616) (hr:rest<d) (hn:next<4294967296):
  Pure Tryz.prog 298 [.int .u64 rest,.int .u64 next,.int .u64 d] [.t (.int .u64 ((rest*4294967296+next)/d:Nat)),.t (.int .u64 ((rest*4294967296+next)%d:Nat))]:=by
 have hd1:d/4294967296≠0:=by omega
 have hd1':2147483648≤d/4294967296:=by omega
 have hq0:rest/(d/4294967296)≤4294967296+1:=by
  have:rest/(d/4294967296)<4294967296+2:=by
   rw[Nat.div_lt_iff_lt_mul (by omega)]
   omega
  omega
 have hge0:(rest*4294967296+next)/d≤rest/(d/4294967296):=by
  rw[Nat.le_div_iff_mul_le (by omega)]
  have h1:=Nat.div_mul_le_self (rest*4294967296+next) d
  have e:d=d/4294967296*4294967296+d%4294967296:=by omega
  have key:∀Q:Nat,Q*d≤rest*4294967296+next→Q*(d/4294967296)≤rest:=fun Q hQ=>by
   have:Q*d=Q*(d/4294967296)*4294967296+Q*(d%4294967296):=by
    conv=>lhs;rw[e]
    rw[Nat.mul_add,Nat.mul_assoc]
   omega
  exact key _ h1
 have hz:((d/4294967296:Nat):Int)=0↔False:=⟨fun h=>by omega,False.elim⟩
 have tail:∀q:Nat,q=(rest*4294967296+next)/d→IntKind.wrap .u64 ((((rest*4294967296%18446744073709551616+next)%18446744073709551616:Nat):Int)-((q*d%18446744073709551616:Nat):Int))=(((rest*4294967296+next)%d:Nat):Int):=fun q hq=>by
  rw[usub _ _ (by omega),digit_end rest next d q hd hn hq (by omega)]
 refine Pure.I Tryz.func298 [6,7] ?_
 simp-implicitDefEqProofs+decide only[go_sem,hz]
 have hm1:rest/(d/4294967296)%18446744073709551616=rest/(d/4294967296):=Nat.mod_eq_of_lt (by omega)
 rw[hm1]
 refine Goes.loop (X:=Nat×Nat) (fun y=>⟨ofL [(0,.t (.int .u64 rest)),(1,.t (.int .u64 next)),(2,.t (.int .u64 d)),(8,.t (.int .u64 (d%4294967296:Nat))),(9,.t (.int .u64 (d/4294967296:Nat))),(10,.t (.int .u64 y.1)),(11,.t (.int .u64 y.2))],fun _=>none,0⟩)
  (fun y=>y.1*(d/4294967296)+y.2=rest∧(rest*4294967296+next)/d≤y.1∧y.1≤4294967296+1∧y.2<4294967296) (fun y=>y.1) (rest/(d/4294967296),rest%(d/4294967296)) ?_ ?_ ?_
 ·exact Wk.slots _ rfl rfl (by simp-implicitDefEqProofs+decide only[go_sem]) (by simp-implicitDefEqProofs+decide only[go_sem])
 ·refine⟨?_,hge0,hq0,?_⟩
  ·dsimp only;rw[Nat.mul_comm];exact Nat.div_add_mod _ _
  ·dsimp only;have:=Nat.mod_lt rest (show 0<d/4294967296 by omega);omega
 rintro ⟨q,r⟩ ⟨h1,h2,h3,h4⟩ J hJ
 dsimp only at h1 h2 h3 h4 hJ⊢
 have goDown:4294967296≤q∨r*4294967296+next<q*(d%4294967296)→(rest*4294967296+next)/d+1≤q:=digit_down rest next d q r hr hn h1
 have hs1:∀q:Nat,q*(d/4294967296)=q*(d/4294967296):=fun _=>rfl
 apply run_sound 200
 refine Sm ?_
 have step:(rest*4294967296+next)/d+1≤q→∃q',q=q'+1:=fun h=>⟨q-1,(Nat.succ_pred_eq_of_pos (Nat.lt_of_lt_of_le (Nat.succ_pos _) h)).symm⟩
 apply selP_dec<;>intro hc
 ·obtain⟨q',rfl⟩:=step (goDown (.inl (by omega)))
  have hdn:=goDown (.inl (by omega))
  have hw:IntKind.wrap .u64 (((q'+1:Nat):Int)-1)=q':=by rw[u64];omega
  have hm:(r+d/4294967296)%18446744073709551616=r+d/4294967296:=Nat.mod_eq_of_lt (by omega)
  have hinv:q'*(d/4294967296)+(r+d/4294967296)=rest:=by rw[Nat.add_mul]at h1;omega
  simp-implicitDefEqProofs+decide only[go_sem,hw,hm]
  apply selP_dec<;>intro he
  ·have hq:q'=(rest*4294967296+next)/d:=digit_up rest next d q' (r+d/4294967296) hr hn hd hinv (by omega) (by
     have:q'*(d%4294967296)≤4294967296*4294967296:=Nat.mul_le_mul (by omega) (by omega)
     omega)
   have ht:=tail q' hq
   simp-implicitDefEqProofs+decide only[go_sem,ht]
   refine endF.twoI (.inr rfl) (by simp-implicitDefEqProofs+decide only[go_sem]<;>rfl) (by simp-implicitDefEqProofs+decide only[go_sem,ht]<;>rfl) (by rw[hq]) rfl (fun _ _=>rfl) rfl
  ·refine Sm ?_
   refine hJ (q',r+d/4294967296) _ ⟨hinv,by dsimp only;omega,by dsimp only;omega,by dsimp only;omega⟩ (by dsimp only;omega) (Wk.slots _ rfl rfl (by simp-implicitDefEqProofs+decide only[go_sem,hw,hm]) (by simp-implicitDefEqProofs+decide only[go_sem]))
 ·have hqlow:q<4294967296:=by omega
  have hm2:q*(d%4294967296)%18446744073709551616=q*(d%4294967296):=Nat.mod_eq_of_lt (by
    have:q*(d%4294967296)≤4294967295*4294967295:=Nat.mul_le_mul (by omega) (by omega)
    omega)
  have ho:=uor32 r next hn
  have hm3:r*4294967296%18446744073709551616=r*4294967296:=Nat.mod_eq_of_lt (by omega)
  rw[hm3]at ho
  simp-implicitDefEqProofs+decide only[go_sem,hm2,hm3,ho]
  apply selP_dec<;>intro hc2
  ·obtain⟨q',rfl⟩:=step (goDown (.inr (by omega)))
   have hdn:=goDown (.inr (by omega))
   have hw:IntKind.wrap .u64 (((q'+1:Nat):Int)-1)=q':=by rw[u64];omega
   have hm:(r+d/4294967296)%18446744073709551616=r+d/4294967296:=Nat.mod_eq_of_lt (by omega)
   have hinv:q'*(d/4294967296)+(r+d/4294967296)=rest:=by rw[Nat.add_mul]at h1;omega
   simp-implicitDefEqProofs+decide only[go_sem,hw,hm]
   apply selP_dec<;>intro he
   ·have hq:q'=(rest*4294967296+next)/d:=digit_up rest next d q' (r+d/4294967296) hr hn hd hinv (by omega) (by
      have:q'*(d%4294967296)≤4294967296*4294967296:=Nat.mul_le_mul (by omega) (by omega)
      omega)
    have ht:=tail q' hq
    simp-implicitDefEqProofs+decide only[go_sem,ht]
    refine endF.twoI (.inr rfl) (by simp-implicitDefEqProofs+decide only[go_sem]<;>rfl) (by simp-implicitDefEqProofs+decide only[go_sem,ht]<;>rfl) (by rw[hq]) rfl (fun _ _=>rfl) rfl
   ·refine Sm ?_
    refine hJ (q',r+d/4294967296) _ ⟨hinv,by dsimp only;omega,by dsimp only;omega,by dsimp only;omega⟩ (by dsimp only;omega) (Wk.slots _ rfl rfl (by simp-implicitDefEqProofs+decide only[go_sem,hw,hm]) (by simp-implicitDefEqProofs+decide only[go_sem]))
  ·have hq:q=(rest*4294967296+next)/d:=digit_up rest next d q r hr hn hd h1 h2 (by omega)
   have ht:=tail q hq
   simp-implicitDefEqProofs+decide only[go_sem,ht]
   refine endF.twoI (.inr rfl) (by simp-implicitDefEqProofs+decide only[go_sem]<;>rfl) (by simp-implicitDefEqProofs+decide only[go_sem,ht]<;>rfl) (by rw[hq]) rfl (fun _ _=>rfl) rfl
theorem limbDiv_ok (hi lo d:Nat) (hhi:hi<d) (hlo:lo<18446744073709551616) (hd:d<18446744073709551616):
  Pure Tryz.prog 279 [.int .u64 hi,.int .u64 lo,.int .u64 d] [.t (.int .u64 ((hi*18446744073709551616+lo)/d:Nat)),.t (.int .u64 ((hi*18446744073709551616+lo)%d:Nat)),.t (.bool true)]:=by
 obtain⟨s,hs⟩:∃s,s=64-bitLen d:=⟨_,rfl⟩
 obtain⟨n1,n2,n3,n4,n5,n6,n7⟩:=div_norm hi lo d s (by omega) hhi hlo hd hs
 have hbl:=bitLen_le hd
 have hc:((d:Int)≤hi)=False:=by simp;omega
 have w1:IntKind.wrap .i64 (64-((bitLen d:Nat):Int))=(s:Int):=by rw[w64]<;>omega
 have w2:IntKind.wrap .i64 (63-(s:Int))=((63-s:Nat):Int):=by rw[w64]<;>omega
 have hneg:((s:Int)<0)=False:=by simp
 have hor:=uorM (hi*2^s) (lo/2/2^(63-s)) n4 (by omega)
 rw[or_add _ _ s n5]at hor
 refine Pure.I Tryz.func279 [6,7,8] ?_
 simp-implicitDefEqProofs+decide only[go_sem,hc]
 refine CallG.pure _ Tryz.call242 (limbLen_ok d hd) rfl rfl ?_
 apply run_sound 200
 simp-implicitDefEqProofs+decide only[go_sem,w1,ushlN d s (by omega),Nat.mod_eq_of_lt n3]
 refine Goes.drawN mixed ?_
 simp-implicitDefEqProofs+decide only[go_sem,w1,w2,ushlN hi s (by omega),ushrN (lo/2) (63-s) (by omega),Nat.mod_eq_of_lt n4,hor]
 refine⟨.mk (by kernel_rfl),?_⟩
 generalize hA:hi*2^s+lo/2/2^(63-s)=a at*
 apply run_sound 200
 simp-implicitDefEqProofs+decide only[go_sem,ushlN lo s (by omega)]
 generalize hB:lo*2^s%18446744073709551616=b at*
 have hb64:b<18446744073709551616:=by rw[←hB];exact Nat.mod_lt _ (by decide)
 have d1:=digit_ok a (b/4294967296) (d*2^s) n2 n3 n6 (by omega)
 obtain⟨q1,hQ1⟩:∃q,(a*4294967296+b/4294967296)/(d*2^s)=q:=⟨_,rfl⟩
 obtain⟨r1,hR1⟩:∃q,(a*4294967296+b/4294967296)%(d*2^s)=q:=⟨_,rfl⟩
 rw[hQ1,hR1]at d1
 have hr1:r1<d*2^s:=by rw[←hR1];exact Nat.mod_lt _ (by omega)
 refine CallG.pure _ Tryz.call298 d1 rfl rfl ?_
 apply run_sound 200
 refine Sm ?_
 have d2:=digit_ok r1 (b%4294967296) (d*2^s) n2 n3 hr1 (Nat.mod_lt _ (by decide))
 obtain⟨j1,j2⟩:=div_join ((hi*18446744073709551616+lo)*2^s) (d*2^s) a b q1 r1 (by omega) n7.symm hQ1.symm hR1.symm
 obtain⟨k1,k2⟩:=div_back (hi*18446744073709551616+lo) d s
 obtain⟨q0,hQ0⟩:∃q,(r1*4294967296+b%4294967296)/(d*2^s)=q:=⟨_,rfl⟩
 obtain⟨r0,hR0⟩:∃q,(r1*4294967296+b%4294967296)%(d*2^s)=q:=⟨_,rfl⟩
 rw[hQ0]at d2 j1
 rw[hR0]at d2 j2
 refine CallG.pure _ Tryz.call298 d2 rfl rfl ?_
 apply run_sound 200
 refine Sm ?_
 have hq0:q0<4294967296:=by
  rw[←hQ0,Nat.div_lt_iff_lt_mul (by omega)]
  have:=Nat.mod_lt b (show 0<4294967296 by decide)
  have:(r1+1)*4294967296≤d*2^s*4294967296:=Nat.mul_le_mul_right _ hr1
  omega
 have ho:=uor32 q1 q0 hq0
 have hQ:(hi*18446744073709551616+lo)/d<18446744073709551616:=by
  rw[Nat.div_lt_iff_lt_mul (by omega)]
  have:(hi+1)*18446744073709551616≤d*18446744073709551616:=Nat.mul_le_mul_right _ hhi
  omega
 have hq1:q1*4294967296%18446744073709551616=q1*4294967296:=Nat.mod_eq_of_lt (by omega)
 rw[hq1]at ho
 refine Goes.drawN mixed ?_
 simp-implicitDefEqProofs+decide only[go_sem,hq1,ho,ushrN r0 s (by omega)]
 refine⟨.mk (by kernel_rfl),?_⟩
 apply run_sound 200
 refine Sm ?_
 refine endF.threeI (.inr rfl) (by simp-implicitDefEqProofs+decide only[go_sem]<;>rfl) (by simp-implicitDefEqProofs+decide only[go_sem]<;>rfl) (by simp-implicitDefEqProofs+decide only[go_sem]) (by rw[←k1,←j1]) (by rw[←k2,←j2]) (fun _ _=>rfl) rfl
theorem size_ok (l:List Nat) (hl:l.length<4000000000):Pure Tryz.prog 241 [sW l] [.t (.int .i64 (sizeW l:Nat))]:=by
 refine Pure.I Tryz.func241 [2] ?_
 refine SmV ?_
 refine Goes.loop (X:=Nat) (fun n=>⟨ofL [(0,tW l),(3,.t (.int .i64 n))],fun _=>none,0⟩) (fun n=>n≤l.length∧∀i x,n≤i→l[i]?=some x→x=0) (fun n=>n) l.length ?_ ?_ ?_
 ·exact(Wk.slots _ rfl rfl (by simp-implicitDefEqProofs+decide only[go_sem,tW,sW]) (by simp-implicitDefEqProofs+decide only[go_sem,tW,sW]))
 ·refine⟨Nat.le_refl _,fun i x hi hx=> ?_⟩
  rw[List.getElem?_eq_none hi]at hx;cases hx
 rintro n ⟨hn,h0⟩ J hJ
 apply run_sound 200
 refine SmW ?_
 apply selP_dec<;>intro hc
 ·obtain⟨n',rfl⟩:∃n',n=n'+1:=⟨n-1,by omega⟩
  obtain⟨x,hx⟩:=getI (show n'<l.length by omega)
  have hw:IntKind.wrap .i64 (((n'+1:Nat):Int)-1)=n':=by rw[w64]<;>omega
  simp-implicitDefEqProofs+decide only[go_sem,tW,sW,hw,hx]
  apply selP_dec<;>intro hz
  ·simp-implicitDefEqProofs+decide only[go_sem,tW,sW,hw,hx]
   refine hJ n' _ ⟨by omega,fun i y hi hy=> ?_⟩ (by omega) (Wk.slots _ rfl rfl (by simp-implicitDefEqProofs+decide only[go_sem,tW,sW,hw]) (by simp-implicitDefEqProofs+decide only[go_sem,tW,sW,hw]))
   by_cases e:i=n'
   ·subst e;rw[hx]at hy;cases hy;omega
   ·exact h0 i y (by omega) hy
  ·have he:=sizeW_unique hn h0 (.inr ⟨x,by simpa using hx,by omega⟩)
   simp-implicitDefEqProofs+decide only[go_sem,tW,sW,hw,hx]
   refine endF.oneI (.inr rfl) (by simp-implicitDefEqProofs+decide only[go_sem]<;>rfl) (by rw[he]) (fun _ _=>rfl) rfl
 ·have he:=sizeW_unique hn h0 (.inl (by omega))
  refine SmW ?_
  refine endF.oneI (.inr rfl) (by simp-implicitDefEqProofs+decide only[go_sem]<;>rfl) (by rw[he]) (fun _ _=>rfl) rfl
theorem trim_ok (l:List Nat) (hl:l.length<4000000000):Pure Tryz.prog 245 [sW l] [.own 1 ((trimW l).map U)]:=by
 have hle:=sizeW_le l
 have hb:sizeW l<big:=by unfold big;omega
 refine Pure.I Tryz.func245 [2] ?_
 refine SmV ?_
 refine CallG.pure _ Tryz.call241 (size_ok l (by omega)) (by rw[List.all_cons,noPtr_us];rfl) rfl ?_
 apply run_sound 200
 refine SmV ?_
 simp-implicitDefEqProofs+decide only[go_sem,sW,take_map_r,hle,hb,List.drop_zero,List.length_take,Nat.min_eq_left hle]
 exact endF.own (lab:=.loc 3 0) (v:=1) (len:=sizeW l) (.inr rfl) (by simp-implicitDefEqProofs+decide only[go_sem]) (by simp-implicitDefEqProofs+decide only[go_sem,trimW]) (by simp[trimW,hle]) rfl (fun l hp=>by cases l<;>first|rfl|cases hp) rfl
theorem natRight_ok (l:List Nat) (hl:l.length<1000000000):Pure Tryz.prog 291 [sW l] [.t (.bool (decide (sizeW l=l.length)))]:=by
 refine Pure.I Tryz.func291 [2] ?_
 refine SmV ?_
 apply selP_dec<;>intro h0
 ·have:l=[]:=List.length_eq_zero_iff.1 (by omega)
  subst this
  refine SmV ?_
  exact endF.one (.inr rfl) (by simp-implicitDefEqProofs+decide only[go_sem,sizeW]) rfl (fun _ _=>rfl) rfl
 ·obtain⟨n,hn⟩:∃n,l.length=n+1:=⟨l.length-1,by omega⟩
  obtain⟨x,hx⟩:=getI (show n<l.length by omega)
  have hw:IntKind.wrap .i64 (((l.length:Nat):Int)-1)=n:=by rw[w64]<;>omega
  have hd:decide (sizeW l=l.length)=decide ((x:Int)≠0):=by
   by_cases hz:x=0
   ·have:¬sizeW l=l.length:=fun e=>by
     obtain⟨y,k1,k2⟩:=sizeW_top l (by omega)
     rw[e,hn,Nat.add_sub_cancel,hx]at k1
     cases k1;exact k2 hz
    simp[this,hz]
   ·have:sizeW l=l.length:=(sizeW_unique (Nat.le_refl _) (fun i y hi hy=>by rw[List.getElem?_eq_none hi]at hy;cases hy) (.inr ⟨x,by rw[hn,Nat.add_sub_cancel];exact hx,hz⟩)).symm
    simp[this,hz]
  rw[hd]
  simp-implicitDefEqProofs+decide only[go_sem,sW,hw,hx]
  exact endF.one (.inr rfl) (by simp-implicitDefEqProofs+decide only[go_sem]) rfl (fun _ _=>rfl) rfl
theorem natOf_ok (x:Nat) (h:x<18446744073709551616):Pure Tryz.prog 238 [.int .u64 x] [.own 1 ((wordsOf x).map U)]:=by
 have ht:trimW [x]=wordsOf x:=by
  rw[trimW_eq (fun y hy=>by simp at hy;omega)]
  simp[nv]
 have h1:=trim_ok [x] (by simp)
 rw[ht]at h1
 refine Pure.I Tryz.func238 [2] ?_
 refine Sm ?_
 refine CallG.pureAd _ 5 Tryz.call245 h1 rfl (by simp[flat_us]) (fun j size es _=>by cases j<;>rfl) ?_
 apply run_sound 200
 refine Sm ?_
 exact endF.own (lab:=.loc 5 0) (v:=0) (len:=(wordsOf x).length) (.inr rfl) (by simp-implicitDefEqProofs+decide only[go_sem]) (by simp-implicitDefEqProofs+decide only[go_sem]) (by simp) rfl (fun l hp=>by cases l<;>first|rfl|cases hp) rfl
theorem natCmp_ok (a b:List Nat) (ha:WOK a) (hb:WOK b) (hla:a.length<1000000000) (hlb:b.length<1000000000):Pure Tryz.prog 246 [sW a,sW b] [.t (.int .i64 (cmpI (nv a) (nv b)))]:=by
 have ha2:=sizeW_le a
 have hb2:=sizeW_le b
 refine Pure.I Tryz.func246 [4] ?_
 refine SmV ?_
 refine CallG.pure _ Tryz.call241 (size_ok a (by omega)) (by rw[List.all_cons,noPtr_us];rfl) rfl ?_
 apply run_sound 200
 refine SmV ?_
 refine CallG.pure _ Tryz.call241 (size_ok b (by omega)) (by rw[List.all_cons,noPtr_us];rfl) rfl ?_
 apply run_sound 200
 refine SmV ?_
 apply selP_dec<;>intro hne
 ·refine Sm ?_
  apply selP_dec<;>intro hlt
  ·have:=nv_size_cmp ha (show sizeW a<sizeW b by omega)
   rw[show cmpI (nv a) (nv b)= -1 by simp[cmpI,this]]
   refine Sm ?_
   exact endF.one (.inr rfl) (by simp-implicitDefEqProofs+decide only[go_sem]) rfl (fun _ _=>rfl) rfl
  ·have:=nv_size_cmp hb (show sizeW b<sizeW a by omega)
   rw[show cmpI (nv a) (nv b)=1 by unfold cmpI;rw[if_neg (by omega),if_pos this]]
   refine Sm ?_
   exact endF.one (.inr rfl) (by simp-implicitDefEqProofs+decide only[go_sem]) rfl (fun _ _=>rfl) rfl
 have hs:sizeW a=sizeW b:=by omega
 refine Sm ?_
 refine Goes.loop (X:=Nat) (fun n=>⟨ofL [(0,tW a),(1,tW b),(4,.t (.int .i64 0)),(7,.t (.int .i64 ((n:Int)-1)))],fun _=>none,0⟩) (fun n=>n≤sizeW a∧nv (a.drop n)=nv (b.drop n)) (fun n=>n) (sizeW a) ?_ ?_ ?_
 ·have hw:IntKind.wrap .i64 (((sizeW a:Nat):Int)-1)=(sizeW a:Int)-1:=by rw[w64]<;>omega
  exact(Wk.slots _ rfl rfl (by simp-implicitDefEqProofs+decide only[go_sem,tW,sW,hw]) (by simp-implicitDefEqProofs+decide only[go_sem,tW,sW,hw]))
 ·exact⟨Nat.le_refl _,by rw[nv_drop_size (Nat.le_refl _),nv_drop_size (by omega)]⟩
 rintro n ⟨hn,h0⟩ J hJ
 apply run_sound 200
 refine SmW ?_
 apply selP_dec<;>intro hc
 ·obtain⟨n',rfl⟩:∃n',n=n'+1:=⟨n-1,by omega⟩
  obtain⟨x,hx⟩:=getI (show n'<a.length by omega)
  obtain⟨y,hy⟩:=getI (show n'<b.length by omega)
  have hw:(((n'+1:Nat):Int)-1)=n':=by omega
  have hw2:IntKind.wrap .i64 ((n':Int)-1)=(n':Int)-1:=by rw[w64]<;>omega
  rw[hw]
  refine Sm ?_
  refine Goes.drawN mixed ?_
  simp-implicitDefEqProofs+decide only[go_sem,tW,sW,hx,hy]
  refine⟨.mk (by kernel_rfl),?_⟩
  apply run_sound 200
  refine Sm ?_
  apply selP_dec<;>intro h1
  ·have:=nv_top_lt ha hx hy h0 (by omega)
   rw[show cmpI (nv a) (nv b)= -1 by simp[cmpI,this]]
   refine Sm ?_
   exact endF.one (.inr rfl) (by simp-implicitDefEqProofs+decide only[go_sem]) rfl (fun _ _=>rfl) rfl
  ·refine Sm ?_
   refine Goes.drawN mixed ?_
   simp-implicitDefEqProofs+decide only[go_sem,tW,sW,hx,hy]
   refine⟨.mk (by kernel_rfl),?_⟩
   apply run_sound 200
   refine Sm ?_
   apply selP_dec<;>intro h2
   ·have:=nv_top_lt hb hy hx h0.symm (by omega)
    rw[show cmpI (nv a) (nv b)=1 by unfold cmpI;rw[if_neg (by omega),if_pos this]]
    refine Sm ?_
    exact endF.one (.inr rfl) (by simp-implicitDefEqProofs+decide only[go_sem]) rfl (fun _ _=>rfl) rfl
   ·refine Sm ?_
    have hxy:x=y:=by omega
    subst hxy
    refine hJ n' _ ⟨by omega,nv_drop_eq hx hy h0⟩ (by omega) (Wk.slots _ rfl rfl (by simp-implicitDefEqProofs+decide only[go_sem,tW,sW,hw2]) (by simp-implicitDefEqProofs+decide only[go_sem,tW,sW,hw2]))
 ·have:n=0:=by omega
  subst this
  rw[List.drop_zero,List.drop_zero]at h0
  rw[show cmpI (nv a) (nv b)=0 by unfold cmpI;rw[if_neg (by omega),if_neg (by omega)]]
  refine Sm ?_
  exact endF.one (.inr rfl) (by simp-implicitDefEqProofs+decide only[go_sem]) rfl (fun _ _=>rfl) rfl
theorem natWord_ok (a:List Nat) (ha:WOK a) (hla:a.length<1000000000):Pure Tryz.prog 250 [sW a] [.t (.int .u64 (if sizeW a≤1 then nv a else 0:Nat)),.t (.bool (decide (sizeW a≤1)))]:=by
 have hle:=sizeW_le a
 refine Pure.I Tryz.func250 [2,3] ?_
 refine SmV ?_
 refine CallG.pure _ Tryz.call241 (size_ok a (by omega)) (by rw[List.all_cons,noPtr_us];rfl) rfl ?_
 apply run_sound 200
 refine SmV ?_
 apply selP_dec<;>intro h0
 ·have h0:sizeW a=0:=by omega
  rw[if_pos (by omega),(nv_zero a).1 h0,decide_eq_true (by omega)]
  refine Sm ?_
  exact endF.two (.inr rfl) (by simp-implicitDefEqProofs+decide only[go_sem]) rfl (by simp-implicitDefEqProofs+decide only[go_sem]) rfl (fun _ _=>rfl) rfl
 refine Sm ?_
 apply selP_dec<;>intro h1
 ·have h1:sizeW a=1:=by omega
  obtain⟨x,hx⟩:=getI (show 0<a.length by omega)
  have hv:nv a=x:=by
   rw[nv_split (l:=a) (i:=1) (by omega),nv_drop_size (by omega)]
   have:a.take 1=[x]:=by
    cases a with
    |nil=>cases hx
    |cons y r=>simp at hx;subst hx;rfl
   rw[this];simp[nv]
  rw[if_pos (by omega),hv,decide_eq_true (by omega)]
  simp-implicitDefEqProofs+decide only[go_sem,sW,hx]
  exact endF.two (.inr rfl) (by simp-implicitDefEqProofs+decide only[go_sem]) rfl (by simp-implicitDefEqProofs+decide only[go_sem]) rfl (fun _ _=>rfl) rfl
 ·rw[if_neg (by omega),decide_eq_false (by omega)]
  refine Sm ?_
  exact endF.two (.inr rfl) (by simp-implicitDefEqProofs+decide only[go_sem]) rfl (by simp-implicitDefEqProofs+decide only[go_sem]) rfl (fun _ _=>rfl) rfl
theorem natBits_ok (a:List Nat) (ha:WOK a) (hla:a.length<1000000000):Pure Tryz.prog 184 [sW a] [.t (.int .i64 (bitLen (nv a):Nat))]:=by
 have hle:=sizeW_le a
 refine Pure.I Tryz.func184 [2] ?_
 refine SmV ?_
 refine CallG.pure _ Tryz.call241 (size_ok a (by omega)) (by rw[List.all_cons,noPtr_us];rfl) rfl ?_
 apply run_sound 200
 refine SmV ?_
 apply selP_dec<;>intro h0
 ·rw[(nv_zero a).1 (by omega)]
  refine Sm ?_
  refine endF.oneI (.inr rfl) (by simp-implicitDefEqProofs+decide only[go_sem]<;>rfl) rfl (fun _ _=>rfl) rfl
 ·obtain⟨n,hn⟩:∃n,sizeW a=n+1:=⟨sizeW a-1,by omega⟩
  obtain⟨x,hx⟩:=getI (show n<a.length by omega)
  have hb:=bits_top ha (x:=x) (by omega) (by rw[hn];exact hx)
  have hxl:=bitLen_le (ha.get hx)
  rw[hn,Nat.add_sub_cancel]at hb
  have w1:IntKind.wrap .i64 ((sizeW a:Int)-1)=n:=by rw[w64]<;>omega
  have w2:IntKind.wrap .i64 (64*(n:Int))=((64*n:Nat):Int):=by rw[w64]<;>omega
  have w3:IntKind.wrap .i64 (((64*n:Nat):Int)+((bitLen x:Nat):Int))=((64*n+bitLen x:Nat):Int):=by rw[w64]<;>omega
  simp-implicitDefEqProofs+decide only[go_sem,sW,w1,w2,hx]
  refine CallG.pure _ Tryz.call242 (limbLen_ok x (ha.get hx)) rfl rfl ?_
  apply run_sound 200
  simp-implicitDefEqProofs+decide only[go_sem,w3]
  refine endF.oneI (.inr rfl) (by simp-implicitDefEqProofs+decide only[go_sem]<;>rfl) (by rw[hb]) (fun _ _=>rfl) rfl
theorem quotWord_ok (a:List Nat) (d:Nat) (ha:WOK a) (hd0:d≠0) (hd:d<18446744073709551616) (hla:a.length<1000000000):
  Pure Tryz.prog 247 [sW a,.int .u64 d] [.own 1 ((wordsOf (nv a/d)).map U),.t (.int .u64 (nv a%d:Nat)),.t (.bool true)]:=by
 have hb:a.length<big:=by unfold big;omega
 have hz:((d:Int)=0)=False:=by simp;omega
 refine Pure.I Tryz.func247 [4,5,6] ?_
 simp-implicitDefEqProofs+decide only[go_sem,sW,hz,hb]
 have w0:IntKind.wrap .i64 (((a.length:Nat):Int)-1)=(a.length:Int)-1:=by rw[w64]<;>omega
 refine Goes.loop (X:=Nat×List Nat×Nat) (fun x=>⟨ofL [(0,tW a),(1,.t (.int .u64 d)),(7,.sl (.loc 17 0) 0 0 a.length),(8,.t (.int .u64 x.2.2)),(9,.t (.int .i64 ((x.1:Int)-1)))],ofH (fun _=>none) [(.loc 17 0,.arr 1 (x.2.1.map U) 0 0)],0⟩)
  (fun x=>x.1≤a.length∧x.2.1.length=a.length∧WOK x.2.1∧x.2.2<d∧nv (a.drop x.1)=nv (x.2.1.drop x.1)*d+x.2.2) (fun x=>x.1) (a.length,List.replicate a.length 0,0) ?_ ?_ ?_
 ·refine Wk.rows _ _ (fun _ _=>rfl) rfl rfl ?_ (fun l hp=>by cases l<;>first|rfl|cases hp) ?_ ?_
  ·simp-implicitDefEqProofs+decide only[go_sem,replU]
  ·simp-implicitDefEqProofs+decide only[go_sem,tW,sW,w0]<;>rfl
  ·simp-implicitDefEqProofs+decide only[go_sem,tW,sW]
 ·refine⟨Nat.le_refl _,by simp,WOK.repl _,by dsimp only;omega,?_⟩
  dsimp only
  rw[List.drop_of_length_le (Nat.le_refl _),List.drop_of_length_le (by simp)];simp[nv]
 rintro ⟨n,out,rest⟩ ⟨hn,ho,hw,hr,he⟩ J hJ
 dsimp only at hn ho hw hr he hJ⊢
 apply run_sound 200
 simp-implicitDefEqProofs+decide only[go_sem,ofH,tW,sW]
 apply selP_dec<;>intro hc
 ·obtain⟨n',rfl⟩:∃n',n=n'+1:=⟨n-1,by omega⟩
  obtain⟨x,hx⟩:=getI (show n'<a.length by omega)
  obtain⟨y,hy⟩:=getI (show n'<out.length by omega)
  have hw1:(((n'+1:Nat):Int)-1)=n':=by omega
  have hw2:IntKind.wrap .i64 ((n':Int)-1)=(n':Int)-1:=by rw[w64]<;>omega
  have hlt:n'<a.length:=by omega
  have hdv:=limbDiv_ok rest x d hr (ha.get hx) hd
  rw[hw1]
  simp-implicitDefEqProofs+decide only[go_sem,ofH,tW,sW,hx]
  refine CallG.pure _ Tryz.call279 hdv rfl rfl ?_
  apply run_sound 200
  simp-implicitDefEqProofs+decide only[go_sem,ofH,tW,sW,hx,hy,hlt,hw2]
  have hq:(rest*18446744073709551616+x)/d<18446744073709551616:=by
   rw[Nat.div_lt_iff_lt_mul (by omega)]
   have:(rest+1)*18446744073709551616≤d*18446744073709551616:=Nat.mul_le_mul_right _ hr
   have:=ha.get hx
   omega
  refine hJ (n',out.set n' ((rest*18446744073709551616+x)/d),(rest*18446744073709551616+x)%d) _ ⟨by dsimp only;omega,by simpa using ho,hw.set hq,Nat.mod_lt _ (by omega),div_word hx (by omega) he⟩ (by dsimp only;omega) (Wk.rows _ _ (fun _ _=>rfl) rfl rfl ?_ (fun l hp=>by cases l<;>first|rfl|cases hp) ?_ ?_)
  ·simp-implicitDefEqProofs+decide only[go_sem,setU]
  ·simp-implicitDefEqProofs+decide only[go_sem,tW,sW,hw2]
  ·simp-implicitDefEqProofs+decide only[go_sem,tW,sW]
 ·have:n=0:=by omega
  subst this
  rw[List.drop_zero,List.drop_zero]at he
  have hq:nv a/d=nv out∧nv a%d=rest:=by
   rw[he,Nat.mul_comm,Nat.mul_add_div (by omega),Nat.mul_add_mod,Nat.div_eq_of_lt hr,Nat.mod_eq_of_lt hr]
   exact⟨by omega,rfl⟩
  have ht:=trim_ok out (by omega)
  rw[trimW_eq hw,←hq.1]at ht
  rw[hq.2]
  have hlo:out.length=a.length:=ho
  have hta:List.take a.length (out.map U)=out.map U:=List.take_of_length_le (by simp;omega)
  simp-implicitDefEqProofs+decide only[go_sem,ofH,hta]
  refine CallG.pureAd _ 42 Tryz.call245 ht (by rw[List.all_cons,noPtr_us];rfl) (by rw[List.all_cons,flat_us];rfl) (fun j size es _=>by cases j<;>rfl) ?_
  apply run_sound 200
  simp-implicitDefEqProofs+decide only[go_sem,List.length_map]
  exact endF.ownTT (lab:=.loc 42 0) (v:=0) (len:=(wordsOf (nv a/d)).length) (.inr rfl) (by simp-implicitDefEqProofs+decide only[go_sem,List.length_map]) (by simp-implicitDefEqProofs+decide only[go_sem]) (by simp) rfl (by simp-implicitDefEqProofs+decide only[go_sem]) rfl (by simp-implicitDefEqProofs+decide only[go_sem]) rfl (fun l hp=>by cases l<;>first|rfl|cases hp) rfl
theorem natShl_ok (a:List Nat) (n:Nat) (ha:WOK a) (hla:a.length<1000000000) (hn:n≤65536):Pure Tryz.prog 189 [sW a,.int .i64 n] [.own 1 ((wordsOf (nv a*2^n)).map U)]:=by
 obtain⟨w,b,hwb,hb,hw⟩:∃w b,n=64*w+b∧b≤63∧w≤1024:=⟨n/64,n%64,by omega,by omega,by omega⟩
 have hpow:2^n=18446744073709551616^w*2^b:=by rw[hwb,Nat.pow_add,Nat.pow_mul]
 have f1:((65536:Int)<n)=False:=by simp;omega
 have f2:IntKind.wrap .i64 (Int.tdiv (n:Int) 64)=w:=by rw[show(64:Int)=((64:Nat):Int) from rfl,←Int.ofNat_tdiv,w64]<;>omega
 have f3:Int.tmod (n:Int) 64=b:=by rw[show(64:Int)=((64:Nat):Int) from rfl,←Int.ofNat_tmod];omega
 have f4:IntKind.wrap .i64 ((w:Int)+a.length)=((w+a.length:Nat):Int):=by rw[w64]<;>omega
 have f5:=wS (show w+a.length<1000000000000 by omega)
 have hbig:w+a.length+1<big:=by unfold big;omega
 have hle:w≤w+a.length+1:=by omega
 refine Pure.I Tryz.func189 [4] ?_
 simp-implicitDefEqProofs+decide only[go_sem,sW,f1,f2,f3,f4,f5,hbig,hle]
 refine Goes.loop (X:=Nat×List Nat×Nat×Nat) (fun x=>⟨ofL [(6,.t (.int .i64 b)),(7,.sl (.loc 24 0) x.2.2.2 0 x.2.1.length),(8,.t (.int .u64 x.2.2.1)),(25,tW a),(26,.t (.int .i64 a.length)),(27,.t (.int .i64 x.1))],ofH (fun _=>none) [(.loc 24 0,.arr 1 (x.2.1.map U) x.2.2.2 0)],0⟩)
  (fun x=>x.1≤a.length∧x.2.1.length=w+x.1∧WOK x.2.1∧x.2.2.1<2^b∧nv x.2.1+18446744073709551616^(w+x.1)*x.2.2.1=nv (a.take x.1)*(18446744073709551616^w*2^b)) (fun x=>a.length-x.1) (0,List.replicate w 0,0,0) ?_ ?_ ?_
 ·refine Wk.rows _ _ (fun _ _=>rfl) rfl rfl ?_ (fun l hp=>by cases l<;>first|rfl|cases hp) ?_ ?_
  ·simp-implicitDefEqProofs+decide only[go_sem,replU]
  ·simp-implicitDefEqProofs+decide only[go_sem,tW,sW,List.length_replicate]<;>rfl
  ·simp-implicitDefEqProofs+decide only[go_sem,tW,sW]
 ·refine⟨Nat.zero_le _,by simp,WOK.repl _,Nat.two_pow_pos b,?_⟩
  simp[nv_repl,nv]
 rintro ⟨i,out,c,v⟩ ⟨hi,ho,hwk,hc,he⟩ J hJ
 dsimp only at hi ho hwk hc he hJ⊢
 have hb64:2^b≤18446744073709551616:=Nat.pow_le_pow_right (n:=2) (by decide) (show b≤64 by omega)
 apply run_sound 200
 simp-implicitDefEqProofs+decide only[go_sem,ofH,tW,sW]
 apply selP_dec<;>intro hlt
 ·obtain⟨x,hx⟩:=getI hlt
  have hxl:=ha.get hx
  obtain⟨s1,s2,s3,s4,s5⟩:=shl_word x b hb hxl
  have hor:=uorM (x%2^(64-b)*2^b) c (by omega) (by omega)
  rw[or_add _ _ b hc]at hor
  have hbig2:out.length+1<big:=by unfold big;omega
  have g1:=ushlN x b (by omega)
  rw[s1]at g1
  have g2:IntKind.wrap .i64 (63-(b:Int))=((63-b:Nat):Int):=by rw[w64]<;>omega
  have g3:=ushrN (x/2) (63-b) (by omega)
  rw[s2]at g3
  simp-implicitDefEqProofs+decide only[go_sem,ofH,tW,sW,hx,g1,g2,g3,hor,hbig2]
  refine hJ (i+1,out++[x%2^(64-b)*2^b+c],x/2^(64-b),v+1) _ ⟨hlt,by simp;omega,hwk.append (fun y hy=>by simp at hy;omega),s3,shl_step hx hb hxl ho he⟩ (by dsimp only;omega) (Wk.rows _ _ (fun _ _=>rfl) rfl rfl ?_ (fun l hp=>by cases l<;>first|rfl|cases hp) ?_ ?_)
  ·simp-implicitDefEqProofs+decide only[go_sem,List.map_append,List.map_cons,List.map_nil]
  ·simp-implicitDefEqProofs+decide only[go_sem,tW,sW,wS (show i<1000000000000 by omega),List.length_append,List.length_cons,List.length_nil]
  ·simp-implicitDefEqProofs+decide only[go_sem,tW,sW]
 ·have:i=a.length:=by omega
  subst this
  rw[List.take_length]at he
  have hbig2:out.length+1<big:=by unfold big;omega
  have hwk2:WOK (out++[c]):=hwk.append (fun y hy=>by rw[List.mem_singleton.1 hy];exact Nat.lt_of_lt_of_le hc hb64)
  have hv:nv (out++[c])=nv a*2^n:=by
   rw[nv_append,ho,hpow,←he];simp[nv]
  have ht:=trim_ok (out++[c]) (by simp;omega)
  rw[trimW_eq hwk2,hv]at ht
  simp only[sW,List.map_append,List.map_cons,List.map_nil]at ht
  simp-implicitDefEqProofs+decide only[go_sem,ofH,hbig2]
  have hta:List.take (out.length+1) (out.map U++[T.int .u64 c])=out.map U++[U c]:=List.take_of_length_le (by simp)
  simp-implicitDefEqProofs+decide only[go_sem,hta]
  refine CallG.pureAd _ 49 Tryz.call245 ht (by rw[List.all_cons,show out.map U++[T.int .u64 (c:Int)]=(out++[c]).map U by simp[U],noPtr_us];rfl) (by rw[List.all_cons,flat_us];rfl) (fun j size es _=>by cases j<;>rfl) ?_
  apply run_sound 200
  simp-implicitDefEqProofs+decide only[go_sem,List.length_map]
  exact endF.own (lab:=.loc 49 0) (v:=0) (len:=(wordsOf (nv a*2^n)).length) (.inr rfl) (by simp-implicitDefEqProofs+decide only[go_sem,List.length_map]) (by simp-implicitDefEqProofs+decide only[go_sem]) (by simp) rfl (fun l hp=>by cases l<;>first|rfl|cases hp) rfl
theorem natShr_ok (a:List Nat) (n:Nat) (ha:WOK a) (hla:a.length<1000000000) (hn:n<9000000000000000000) (hw0:n/64<a.length):Pure Tryz.prog 252 [sW a,.int .i64 n] [.own 1 ((wordsOf (nv a/2^n)).map U)]:=by
 obtain⟨w,b,hwb,hb⟩:∃w b,n=64*w+b∧b≤63:=⟨n/64,n%64,by omega,by omega⟩
 have hpow:2^n=18446744073709551616^w*2^b:=by rw[hwb,Nat.pow_add,Nat.pow_mul]
 have f2:IntKind.wrap .i64 (Int.tdiv (n:Int) 64)=w:=by rw[show(64:Int)=((64:Nat):Int) from rfl,←Int.ofNat_tdiv,w64]<;>omega
 have f3:Int.tmod (n:Int) 64=b:=by rw[show(64:Int)=((64:Nat):Int) from rfl,←Int.ofNat_tmod];omega
 have hdiv:∀m:Nat,m/2^n=m/18446744073709551616^w/2^b:=fun m=>by rw[hpow,Nat.div_div_eq_div_mul]
 refine Pure.I Tryz.func252 [4] ?_
 have hwl0:(a.length≤w)=False:=by simp;omega
 simp-implicitDefEqProofs+decide only[go_sem,sW,f2,f3,hwl0]
 have hwl:w<a.length:=by omega
 have hge:(a.length≤w)=False:=by simp;omega
 have f4:IntKind.wrap .i64 ((a.length:Int)-w)=((a.length-w:Nat):Int):=wSub (by omega) (by omega)
 have hbig:a.length-w<big:=by unfold big;omega
 simp-implicitDefEqProofs+decide only[go_sem,f4,hbig]
 refine Goes.loop (X:=Nat×List Nat×Nat) (fun x=>⟨ofL [(0,tW a),(6,.t (.int .i64 b)),(7,.sl (.loc 24 0) x.2.2 0 x.2.1.length),(8,.t (.int .i64 x.1))],ofH (fun _=>none) [(.loc 24 0,.arr 1 (x.2.1.map U) x.2.2 0)],0⟩)
  (fun x=>w≤x.1∧x.1≤a.length∧x.2.1.length=x.1-w∧WOK x.2.1∧nv x.2.1+18446744073709551616^(x.1-w)*(nv (a.drop x.1)/2^b)=nv (a.drop w)/2^b) (fun x=>a.length-x.1) (w,[],0) ?_ ?_ ?_
 ·refine Wk.rows _ _ (fun _ _=>rfl) rfl rfl ?_ (fun l hp=>by cases l<;>first|rfl|cases hp) ?_ ?_
  ·simp-implicitDefEqProofs+decide only[go_sem,List.map_nil,List.replicate_zero,Int.toNat_zero]
  ·simp-implicitDefEqProofs+decide only[go_sem,tW,sW]<;>rfl
  ·simp-implicitDefEqProofs+decide only[go_sem,tW,sW]
 ·refine⟨Nat.le_refl _,by dsimp only;omega,by simp,fun x hx=>(by cases hx),?_⟩
  simp[nv]
 rintro ⟨i,out,v⟩ ⟨hwi,hi,ho,hwk,he⟩ J hJ
 dsimp only at hwi hi ho hwk he hJ⊢
 apply run_sound 200
 simp-implicitDefEqProofs+decide only[go_sem,ofH,tW,sW]
 apply selP_dec<;>intro hlt
 ·obtain⟨x,hx⟩:=getI hlt
  have hxl:=ha.get hx
  have hbig2:out.length+1<big:=by unfold big;omega
  have g1:=ushrN x b (by omega)
  have g2:IntKind.wrap .i64 (63-(b:Int))=((63-b:Nat):Int):=by rw[w64]<;>omega
  have g4:=wS (show i<1000000000000 by omega)
  have hor:∀y:Nat,y<18446744073709551616→(y*2%18446744073709551616)*2^(63-b)%18446744073709551616=y%2^b*2^(64-b)%18446744073709551616∧(x/2^b)|||(y%2^b*2^(64-b)%18446744073709551616)=x/2^b+y%2^b*2^(64-b)%18446744073709551616∧y%2^b*2^(64-b)<18446744073709551616∧x/2^b<2^(64-b)∧x/2^b+y%2^b*2^(64-b)%18446744073709551616<18446744073709551616:=fun y hy=>by
   have hPR:2^(64-b)*2^b=18446744073709551616:=by rw[←Nat.pow_add,show 64-b+b=64 by omega]
   have hP:0<2^b:=Nat.two_pow_pos b
   have h2:2*2^(63-b)=2^(64-b):=by rw[Nat.mul_comm,←Nat.pow_succ];congr 1;omega
   have hym:y%2^b*2^(64-b)<18446744073709551616:=by
    rw[←hPR,Nat.mul_comm (2^(64-b))]
    exact Nat.mul_lt_mul_of_pos_right (Nat.mod_lt _ hP) (Nat.two_pow_pos _)
   have hym2:(y%2^b+1)*2^(64-b)≤18446744073709551616:=by
    rw[←hPR,Nat.mul_comm (2^(64-b))]
    exact Nat.mul_le_mul_right _ (Nat.mod_lt _ hP)
   rw[Nat.add_mul,Nat.one_mul]at hym2
   have hxb:x/2^b<2^(64-b):=by rw[Nat.div_lt_iff_lt_mul hP,hPR];exact hxl
   refine⟨?_,?_,hym,hxb,?_⟩
   ·rw[Nat.mod_mul_mod,Nat.mul_assoc,h2]
    conv=>lhs;rw[←Nat.div_add_mod y (2^b)]
    rw[Nat.add_mul,Nat.mul_right_comm,Nat.mul_comm (2^b) (2^(64-b)),hPR,Nat.mul_add_mod]
   ·rw[Nat.mod_eq_of_lt hym,Nat.or_comm,or_add _ _ _ hxb,Nat.add_comm]
   ·rw[Nat.mod_eq_of_lt hym];omega
  simp-implicitDefEqProofs+decide only[go_sem,g4]
  apply selP_dec<;>intro hnx
  ·obtain⟨y,hy⟩:=getI (show i+1<a.length by omega)
   have hyl:=ha.get hy
   obtain⟨o1,o2,o3,o4,o5⟩:=hor y hyl
   have g3:=uorM (x/2^b) (y%2^b*2^(64-b)%18446744073709551616) (by omega) (Nat.mod_lt _ (by decide))
   rw[o2]at g3
   have g5:=ushlN (y*2%18446744073709551616) (63-b) (by omega)
   rw[o1]at g5
   simp-implicitDefEqProofs+decide only[go_sem,tW,sW,g4,hy]
   refine Goes.drawN mixed ?_
   simp-implicitDefEqProofs+decide only[go_sem,hx,g1,g2,g3,g5,hbig2]
   refine⟨.mk (by kernel_rfl),?_⟩
   apply run_sound 200
   simp-implicitDefEqProofs+decide only[go_sem,g4]
   refine hJ (i+1,out++[x/2^b+y%2^b*2^(64-b)%18446744073709551616],v+1) _ ⟨by dsimp only;omega,hlt,by simp;omega,hwk.append (fun z hz=>by rw[List.mem_singleton.1 hz];exact o5),?_⟩ (by dsimp only;omega) (Wk.rows _ _ (fun _ _=>rfl) rfl rfl ?_ (fun l hp=>by cases l<;>first|rfl|cases hp) ?_ ?_)
   ·exact shr_step hx (by rw[hy];rfl) hb hxl hyl ho hwi he
   ·simp-implicitDefEqProofs+decide only[go_sem,List.map_append,List.map_cons,List.map_nil]
   ·simp-implicitDefEqProofs+decide only[go_sem,tW,sW,g4,List.length_append,List.length_cons,List.length_nil]
   ·simp-implicitDefEqProofs+decide only[go_sem,tW,sW]
  ·obtain⟨y,hy⟩:∃y:Nat,y=0:=⟨0,rfl⟩
   have hyl:y<18446744073709551616:=by omega
   have hy0:((0:Int))=((y:Nat):Int):=by omega
   obtain⟨o1,o2,o3,o4,o5⟩:=hor y hyl
   have g3:=uorM (x/2^b) (y%2^b*2^(64-b)%18446744073709551616) (by omega) (Nat.mod_lt _ (by decide))
   rw[o2]at g3
   have g5:=ushlN (y*2%18446744073709551616) (63-b) (by omega)
   rw[o1]at g5
   refine SmW ?_
   rw[hy0]
   refine Goes.drawN mixed ?_
   simp-implicitDefEqProofs+decide only[go_sem,hx,g1,g2,g3,g5,hbig2]
   refine⟨.mk (by kernel_rfl),?_⟩
   apply run_sound 200
   simp-implicitDefEqProofs+decide only[go_sem,g4]
   refine hJ (i+1,out++[x/2^b+y%2^b*2^(64-b)%18446744073709551616],v+1) _ ⟨by dsimp only;omega,hlt,by simp;omega,hwk.append (fun z hz=>by rw[List.mem_singleton.1 hz];exact o5),?_⟩ (by dsimp only;omega) (Wk.rows _ _ (fun _ _=>rfl) rfl rfl ?_ (fun l hp=>by cases l<;>first|rfl|cases hp) ?_ ?_)
   ·exact shr_step hx (by rw[hy,List.getElem?_eq_none (by omega)];rfl) hb hxl hyl ho hwi he
   ·simp-implicitDefEqProofs+decide only[go_sem,List.map_append,List.map_cons,List.map_nil]
   ·simp-implicitDefEqProofs+decide only[go_sem,tW,sW,g4,List.length_append,List.length_cons,List.length_nil]
   ·simp-implicitDefEqProofs+decide only[go_sem,tW,sW]
 ·have hil:i=a.length:=by omega
  subst hil
  rw[List.drop_length]at he
  have hv:nv out=nv a/2^n:=by
   have h1:nv (a.drop w)=nv a/18446744073709551616^w:=by
    have hT:nv (a.take w)<18446744073709551616^w:=by
     have:=nv_lt (ha.take w)
     rwa [List.length_take,Nat.min_eq_left (by omega)]at this
    rw[nv_split (l:=a) (i:=w) (by omega),Nat.add_mul_div_left _ _ (Nat.pow_pos (by decide)),Nat.div_eq_of_lt hT,Nat.zero_add]
   rw[hdiv,←h1,←he];simp[nv]
  have ht:=trim_ok out (by omega)
  rw[trimW_eq hwk,hv]at ht
  have hta:List.take out.length (out.map U)=out.map U:=List.take_of_length_le (by simp)
  simp-implicitDefEqProofs+decide only[go_sem,ofH,hta]
  refine CallG.pureAd _ 58 Tryz.call245 ht (by rw[List.all_cons,noPtr_us];rfl) (by rw[List.all_cons,flat_us];rfl) (fun j size es _=>by cases j<;>rfl) ?_
  apply run_sound 200
  simp-implicitDefEqProofs+decide only[go_sem,List.length_map]
  exact endF.own (lab:=.loc 58 0) (v:=0) (len:=(wordsOf (nv a/2^n)).length) (.inr rfl) (by simp-implicitDefEqProofs+decide only[go_sem,List.length_map]) (by simp-implicitDefEqProofs+decide only[go_sem]) (by simp) rfl (fun l hp=>by cases l<;>first|rfl|cases hp) rfl
theorem correct_ok (q hi mid lo top next:Nat) (hq:q<18446744073709551616) (hhi:hi<18446744073709551616) (hmid:mid<18446744073709551616) (hlo:lo<18446744073709551616) (htop:top<18446744073709551616) (hnext:next<18446744073709551616) (h0:0<top) (hle:q*top≤hi*18446744073709551616+mid):
  Pure Tryz.prog 300 [.int .u64 q,.int .u64 hi,.int .u64 mid,.int .u64 lo,.int .u64 top,.int .u64 next] [.t (.int .u64 (corr q hi mid lo top next:Nat))]:=by
 have hV:0<top*18446744073709551616+next:=by omega
 refine Pure.I Tryz.func300 [12] ?_
 refine Sm ?_
 refine Goes.loop (X:=Nat) (fun y=>⟨ofL [(0,.t (.int .u64 y)),(1,.t (.int .u64 hi)),(2,.t (.int .u64 mid)),(3,.t (.int .u64 lo)),(4,.t (.int .u64 top)),(5,.t (.int .u64 next))],fun _=>none,0⟩)
  (fun y=>corr q hi mid lo top next≤y∧y≤q) (fun y=>y) q ?_ ?_ ?_
 ·exact(Wk.slots _ rfl rfl (by simp-implicitDefEqProofs+decide only[go_sem]) (by simp-implicitDefEqProofs+decide only[go_sem]))
 ·exact⟨Nat.min_le_left _ _,Nat.le_refl _⟩
 rintro y ⟨hy1,hy2⟩ J hJ
 have hyl:y*top≤hi*18446744073709551616+mid:=Nat.le_trans (Nat.mul_le_mul_right _ hy2) hle
 have hyW:y<18446744073709551616:=by omega
 obtain⟨D,hD⟩:∃D,y*top+D=hi*18446744073709551616+mid:=⟨_,Nat.add_sub_cancel' hyl⟩
 have hDe:hi*18446744073709551616+mid-y*top=D:=by omega
 obtain⟨e1,e2,e3,e4⟩:=two_sub hi mid (y*top) hyl hmid hhi
 rw[hDe]at e1 e3 e4
 have m1:=limbMul_ok y top hyW htop
 have m2:=limbMul_ok y next hyW hnext
 have hPW:y*top/18446744073709551616<18446744073709551616:=by
  rw[Nat.div_lt_iff_lt_mul (by decide)]
  exact Nat.lt_of_le_of_lt (Nat.mul_le_mul_right _ (show y≤18446744073709551616-1 by omega)) (by have:(18446744073709551616-1)*top≤(18446744073709551616-1)*18446744073709551616:=Nat.mul_le_mul_left _ (by omega);omega)
 have s1:=limbSub_ok mid (y*top%18446744073709551616) 0 hmid (Nat.mod_lt _ (by decide)) (by decide)
 rw[e1]at s1
 obtain⟨un,hun⟩:∃un,2-(mid+(18446744073709551616+18446744073709551616-y*top%18446744073709551616-0))/18446744073709551616=un:=⟨_,rfl⟩
 rw[hun]at s1 e2 e3
 have s2:=limbSub_ok hi (y*top/18446744073709551616) un hhi hPW e2
 rw[e3]at s2
 have hMW:y*next<18446744073709551616*18446744073709551616:=by
  have:y*next≤(18446744073709551616-1)*(18446744073709551616-1):=Nat.mul_le_mul (by omega) (by omega)
  omega
 have stop:y*next≤D*18446744073709551616+lo→y=corr q hi mid lo top next:=fun h=>by
  have h1:=correct_le (lo:=lo) hD h
  have h2:y≤(hi*18446744073709551616*18446744073709551616+mid*18446744073709551616+lo)/(top*18446744073709551616+next):=(Nat.le_div_iff_mul_le hV).2 h1
  exact Nat.le_antisymm (Nat.le_min.2 ⟨hy2,h2⟩) hy1
 have down:D*18446744073709551616+lo<y*next→corr q hi mid lo top next+1≤y:=fun h=>by
  have h1:=correct_gt (lo:=lo) hD h
  have h2:(hi*18446744073709551616*18446744073709551616+mid*18446744073709551616+lo)/(top*18446744073709551616+next)<y:=(Nat.div_lt_iff_lt_mul hV).2 h1
  exact Nat.lt_of_le_of_lt (Nat.min_le_right _ _) h2
 apply run_sound 200
 refine Sm ?_
 refine CallG.pure _ Tryz.call277 m1 rfl rfl ?_
 apply run_sound 200
 refine Sm ?_
 refine CallG.pure _ Tryz.call301 s1 rfl rfl ?_
 apply run_sound 200
 refine Sm ?_
 refine CallG.pure _ Tryz.call301 s2 rfl rfl ?_
 apply run_sound 200
 refine Sm ?_
 refine CallG.pure _ Tryz.call277 m2 rfl rfl ?_
 apply run_sound 200
 refine Sm ?_
 apply selP_dec<;>intro c1
 ·have hs:=stop (by omega)
  refine Sm ?_
  refine endF.oneI (.inr rfl) (by simp-implicitDefEqProofs+decide only[go_sem]<;>rfl) (by rw[hs]) (fun _ _=>rfl) rfl
 have hDl:D<18446744073709551616:=by omega
 refine Sm ?_
 apply selP_dec<;>intro c2
 ·have hs:=stop (by omega)
  refine Sm ?_
  refine endF.oneI (.inr rfl) (by simp-implicitDefEqProofs+decide only[go_sem]<;>rfl) (by rw[hs]) (fun _ _=>rfl) rfl
 refine Sm ?_
 have next1:D*18446744073709551616+lo<y*next→∃y',y=y'+1∧corr q hi mid lo top next≤y':=fun h=>⟨y-1,by have:=down h;omega,by have:=down h;omega⟩
 apply selP_dec<;>intro c3
 ·refine Sm ?_
  apply selP_dec<;>intro c4
  ·have hs:=stop (by omega)
   refine Sm ?_
   refine endF.oneI (.inr rfl) (by simp-implicitDefEqProofs+decide only[go_sem]<;>rfl) (by rw[hs]) (fun _ _=>rfl) rfl
  ·obtain⟨y',hy',hc⟩:=next1 (by omega)
   have hw:IntKind.wrap .u64 ((y:Int)-1)=y':=by rw[u64];omega
   simp-implicitDefEqProofs+decide only[go_sem,hw]
   exact hJ y' _ ⟨hc,by omega⟩ (by omega) (Wk.slots _ rfl rfl (by simp-implicitDefEqProofs+decide only[go_sem,hw]) (by simp-implicitDefEqProofs+decide only[go_sem,hw]))
 ·obtain⟨y',hy',hc⟩:=next1 (by omega)
  have hw:IntKind.wrap .u64 ((y:Int)-1)=y':=by rw[u64];omega
  simp-implicitDefEqProofs+decide only[go_sem,hw]
  exact hJ y' _ ⟨hc,by omega⟩ (by omega) (Wk.slots _ rfl rfl (by simp-implicitDefEqProofs+decide only[go_sem,hw]) (by simp-implicitDefEqProofs+decide only[go_sem,hw]))
theorem guess_ok (h:Heap) (m k ver frz:Nat) (u:List Nat) (n hi mid lo top next:Nat) (hb:∀l,Lab.pool l=false→h l=none) (h1:h (.arg k)=some (.arr 1 (u.map U) ver frz)) (hu:WOK u) (hul:u.length<1000000000)
  (hhi:u[n+2]?=some hi) (hmid:u[n+1]?=some mid) (hlo:u[n]?=some lo) (htop:top<18446744073709551616) (hnext:next<18446744073709551616) (h0:0<top) (hle:hi≤top):
  RetA Tryz.prog 287 [.sl (.arg k) ver 0 u.length,.t (.int .i64 (n+2:Nat)),.t (.int .u64 top),.t (.int .u64 next)] h m [.t (.int .u64 (guessN hi mid lo top next:Nat))] h m:=by
 have l1:=(List.getElem?_eq_some_iff.1 hhi).1
 have l2:=(List.getElem?_eq_some_iff.1 hmid).1
 have l3:=(List.getElem?_eq_some_iff.1 hlo).1
 have w1:IntKind.wrap .i64 (((n+2:Nat):Int)-1)=((n+1:Nat):Int):=by rw[w64]<;>omega
 have w2:IntKind.wrap .i64 (((n+2:Nat):Int)-2)=n:=by rw[w64]<;>omega
 have hhl:=hu.get hhi
 have hml:=hu.get hmid
 have hll:=hu.get hlo
 refine RetA.intro Tryz.func287 rfl (rt:=[8]) rfl (by simp[Tryz.ntmps287]) (by decide) (sites:=fun _=>false) hb (Keeps.refl _) ?_
 apply run_sound 200
 refine Sm ?_
 refine Goes.drawN mixed ?_
 simp-implicitDefEqProofs+decide only[go_sem,h1,w1,w2,hhi,hmid,hlo,l1,l2,l3]
 refine⟨.mk (by kernel_rfl),?_⟩
 apply run_sound 200
 refine Sm ?_
 apply selP_dec<;>intro hc
 ·have hg:guessN hi mid lo top next=corr 18446744073709551615 hi mid lo top next:=by unfold guessN;rw[if_pos (by omega)]
  have c:=correct_ok 18446744073709551615 hi mid lo top next (by decide) hhl hml hll htop hnext h0 (by
    have:18446744073709551615*top≤18446744073709551616*hi:=Nat.mul_le_mul (by decide) (by omega)
    omega)
  refine Sm ?_
  refine CallG.pure _ Tryz.call300 c rfl rfl ?_
  apply run_sound 200
  refine Sm ?_
  exact endF.oneIH (.inr rfl) (by simp-implicitDefEqProofs+decide only[go_sem]<;>rfl) (by rw[hg]) (fun l hp=>by cases l<;>first|rfl|cases hp) rfl
 ·have hlt:hi<top:=by omega
  have hg:guessN hi mid lo top next=corr ((hi*18446744073709551616+mid)/top) hi mid lo top next:=by unfold guessN;rw[if_neg (by omega)]
  have hq:=guess_q hlt hml
  have c:=correct_ok ((hi*18446744073709551616+mid)/top) hi mid lo top next hq hhl hml hll htop hnext h0 (Nat.div_mul_le_self _ _)
  refine Sm ?_
  refine CallG.pure _ Tryz.call279 (limbDiv_ok hi mid top hlt hml htop) rfl rfl ?_
  apply run_sound 200
  refine Sm ?_
  refine CallG.pure _ Tryz.call300 c rfl rfl ?_
  apply run_sound 200
  refine Sm ?_
  exact endF.oneIH (.inr rfl) (by simp-implicitDefEqProofs+decide only[go_sem]<;>rfl) (by rw[hg]) (fun l hp=>by cases l<;>first|rfl|cases hp) rfl
theorem take_ok (h:Heap) (m k ver:Nat) (u v:List Nat) (at' q:Nat) (hb:∀l,Lab.pool l=false→h l=none) (h1:h (.arg k)=some (.arr 1 (u.map U) ver 0)) (hu:WOK u) (hv:WOK v) (hul:u.length<1000000000) (hvu:at'+v.length<u.length) (hq:q<18446744073709551616):
  RetA Tryz.prog 288 [.sl (.arg k) ver 0 u.length,.t (sW v),.t (.int .i64 at'),.t (.int .u64 q)] h m [.t (.bool (decide ((((takeN v u at' q).2:Nat):Int)≠0)))] (upd h (.arg k) (some (.arr 1 ((takeN v u at' q).1.map U) ver 0))) m:=by
 refine RetA.intro Tryz.func288 rfl (rt:=[8]) rfl (by simp[Tryz.ntmps288]) (by decide) (sites:=fun _=>false) (upd_pool hb) (Keeps.row h1 (by simp[takeN_length])) ?_
 apply run_sound 200
 refine SmV ?_
 refine Goes.loop (X:=Nat×List Nat×Nat×Nat) (fun x=>⟨ofL [(0,.sl (.arg k) ver 0 u.length),(1,tW v),(2,.t (.int .i64 at')),(3,.t (.int .u64 q)),(9,.t (.int .u64 x.2.2.1)),(10,.t (.int .u64 x.2.2.2)),(20,tW v),(21,.t (.int .i64 v.length)),(22,.t (.int .i64 x.1))],upd h (.arg k) (some (.arr 1 (x.2.1.map U) ver 0)),m⟩)
  (fun x=>x.1≤v.length∧takeGo (v.drop x.1) x.2.1 (at'+x.1) q x.2.2.1 x.2.2.2=takeGo v u at' q 0 0∧x.2.1.length=u.length∧WOK x.2.1∧x.2.2.1<18446744073709551616∧x.2.2.2<18446744073709551616) (fun x=>v.length-x.1) (0,u,0,0) ?_ ?_ ?_
 ·refine Wk.mixed _ (upd_pool hb) rfl (fun l hp=>(congrFun (upd_self h1) l).symm) ?_ ?_
  ·simp-implicitDefEqProofs+decide only[go_sem,tW,sW]<;>exact⟨rfl,rfl⟩
  ·simp-implicitDefEqProofs+decide only[go_sem,tW,sW]
 ·exact⟨Nat.zero_le _,rfl,rfl,hu,by dsimp only;decide,by dsimp only;decide⟩
 rintro ⟨i,u',c,un⟩ ⟨hi,he,hl',hw,hc,hun⟩ J hJ
 dsimp only at hi he hl' hw hc hun hJ⊢
 have g0:upd h (.arg k) (some (.arr 1 (u'.map U) ver 0)) (.arg k)=some (.arr 1 (u'.map U) ver 0):=upd_same _ _ _
 apply run_sound 200
 refine SmW ?_
 apply selP_dec<;>intro hlt
 ·obtain⟨y,hy⟩:=getI hlt
  obtain⟨a,ha⟩:=getI (show at'+i<u'.length by omega)
  have hyl:=hv.get hy
  have hal:=hw.get ha
  have hgd:u'.getD (at'+i) 0=a:=by simp[List.getD,ha]
  rw[dropC hy,takeGo,hgd]at he
  have w1:IntKind.wrap .i64 ((at':Int)+i)=((at'+i:Nat):Int):=by rw[w64]<;>omega
  have w2:=wS (show i<1000000000000 by omega)
  have hlt2:at'+i<u.length:=by omega
  have m1:=limbMul_ok y q hyl hq
  have a1:=limbAdd_ok (y*q%18446744073709551616) c 0 (Nat.mod_lt _ (by decide)) hc (by decide)
  obtain⟨lo,hlo⟩:∃lo,(y*q%18446744073709551616+c+0)%18446744073709551616=lo:=⟨_,rfl⟩
  obtain⟨ov,hov⟩:∃ov,(y*q%18446744073709551616+c+0)/18446744073709551616=ov:=⟨_,rfl⟩
  rw[hlo,hov]at a1
  rw[hlo,hov]at he
  have hlol:lo<18446744073709551616:=by rw[←hlo];exact Nat.mod_lt _ (by decide)
  have s1:=limbSub_ok a lo un hal hlol hun
  obtain⟨d,hd⟩:∃d,(a+(18446744073709551616+18446744073709551616-lo-un))%18446744073709551616=d:=⟨_,rfl⟩
  obtain⟨b,hbb⟩:∃b,2-(a+(18446744073709551616+18446744073709551616-lo-un))/18446744073709551616=b:=⟨_,rfl⟩
  rw[hd,hbb]at s1 he
  have hdl:d<18446744073709551616:=by rw[←hd];exact Nat.mod_lt _ (by decide)
  simp-implicitDefEqProofs+decide only[go_sem,tW,sW,hy]
  refine CallG.pure _ Tryz.call277 m1 rfl rfl ?_
  apply run_sound 200
  refine Sm ?_
  refine CallG.pure _ Tryz.call290 a1 rfl rfl ?_
  apply run_sound 200
  simp-implicitDefEqProofs+decide only[go_sem,w1,ha,hlt2]
  refine CallG.pure _ Tryz.call301 s1 rfl rfl ?_
  apply run_sound 200
  simp-implicitDefEqProofs+decide only[go_sem,w1,ha,hlt2,w2]
  refine hJ (i+1,u'.set (at'+i) d,(y*q/18446744073709551616+ov)%18446744073709551616,b) _ ⟨hlt,he,by simpa using hl',hw.set hdl,Nat.mod_lt _ (by decide),by dsimp only;omega⟩ (by dsimp only;omega) (Wk.mixed _ (upd_pool hb) rfl ?_ ?_ ?_)
  ·intro l hp
   dsimp only
   rw[←setU]
   exact congrFun (upd_upd _ _ _ _) l
  ·simp-implicitDefEqProofs+decide only[go_sem,tW,sW,w2]
  ·simp-implicitDefEqProofs+decide only[go_sem,tW,sW]
 ·have hil:i=v.length:=by omega
  subst hil
  rw[List.drop_length,takeGo]at he
  obtain⟨a,ha⟩:=getI (show at'+v.length<u'.length by omega)
  have hgd:u'.getD (at'+v.length) 0=a:=by simp[List.getD,ha]
  have hal:=hw.get ha
  have hlt2:at'+v.length<u.length:=by omega
  have w1:IntKind.wrap .i64 ((at':Int)+v.length)=((at'+v.length:Nat):Int):=by rw[w64]<;>omega
  have s1:=limbSub_ok a c un hal hc hun
  obtain⟨d,hd⟩:∃d,(a+(18446744073709551616+18446744073709551616-c-un))%18446744073709551616=d:=⟨_,rfl⟩
  obtain⟨b,hbb⟩:∃b,2-(a+(18446744073709551616+18446744073709551616-c-un))/18446744073709551616=b:=⟨_,rfl⟩
  rw[hd,hbb]at s1
  have hT:takeN v u at' q=(u'.set (at'+v.length) d,b):=by
   unfold takeN
   rw[←he]
   show(u'.set _ ((u'.getD _ 0+_)%_),2-(u'.getD _ 0+_)/_)=_
   rw[hgd,hd,hbb]
  rw[hT]
  simp-implicitDefEqProofs+decide only[go_sem,tW,sW,w1,ha,hlt2]
  refine CallG.pure _ Tryz.call301 s1 rfl rfl ?_
  apply run_sound 200
  simp-implicitDefEqProofs+decide only[go_sem,w1,ha,hlt2]
  refine endF.oneH (.inr rfl) (by simp-implicitDefEqProofs+decide only[go_sem]<;>rfl) rfl ?_ rfl
  intro l hp
  dsimp only
  rw[←setU]
  exact(congrFun (upd_upd _ _ _ _) l).symm
theorem back_ok (h:Heap) (m k ver:Nat) (u v:List Nat) (at':Nat) (hb:∀l,Lab.pool l=false→h l=none) (h1:h (.arg k)=some (.arr 1 (u.map U) ver 0)) (hu:WOK u) (hv:WOK v) (hul:u.length<1000000000) (hvu:at'+v.length<u.length):
  RetA Tryz.prog 289 [.sl (.arg k) ver 0 u.length,.t (sW v),.t (.int .i64 at')] h m [] (upd h (.arg k) (some (.arr 1 ((backN v u at').map U) ver 0))) m:=by
 refine RetA.intro Tryz.func289 rfl (rt:=[]) rfl (by simp[Tryz.ntmps289]) (by decide) (sites:=fun _=>false) (upd_pool hb) (Keeps.row h1 (by simp[backN_length])) ?_
 apply run_sound 200
 refine SmV ?_
 refine Goes.loop (X:=Nat×List Nat×Nat) (fun x=>⟨ofL [(0,.sl (.arg k) ver 0 u.length),(1,tW v),(2,.t (.int .i64 at')),(6,.t (.int .u64 x.2.2)),(11,tW v),(12,.t (.int .i64 v.length)),(13,.t (.int .i64 x.1))],upd h (.arg k) (some (.arr 1 (x.2.1.map U) ver 0)),m⟩)
  (fun x=>x.1≤v.length∧backGo (v.drop x.1) x.2.1 (at'+x.1) x.2.2=backGo v u at' 0∧x.2.1.length=u.length∧WOK x.2.1∧x.2.2<18446744073709551616) (fun x=>v.length-x.1) (0,u,0) ?_ ?_ ?_
 ·refine Wk.mixed _ (upd_pool hb) rfl (fun l hp=>(congrFun (upd_self h1) l).symm) ?_ ?_
  ·simp-implicitDefEqProofs+decide only[go_sem,tW,sW]<;>rfl
  ·simp-implicitDefEqProofs+decide only[go_sem,tW,sW]
 ·exact⟨Nat.zero_le _,rfl,rfl,hu,by dsimp only;decide⟩
 rintro ⟨i,u',o⟩ ⟨hi,he,hl',hw,ho⟩ J hJ
 dsimp only at hi he hl' hw ho hJ⊢
 have g0:upd h (.arg k) (some (.arr 1 (u'.map U) ver 0)) (.arg k)=some (.arr 1 (u'.map U) ver 0):=upd_same _ _ _
 apply run_sound 200
 refine SmW ?_
 apply selP_dec<;>intro hlt
 ·obtain⟨y,hy⟩:=getI hlt
  obtain⟨a,ha⟩:=getI (show at'+i<u'.length by omega)
  have hyl:=hv.get hy
  have hal:=hw.get ha
  have hgd:u'.getD (at'+i) 0=a:=by simp[List.getD,ha]
  rw[dropC hy,backGo,hgd]at he
  have w1:IntKind.wrap .i64 ((at':Int)+i)=((at'+i:Nat):Int):=by rw[w64]<;>omega
  have w2:=wS (show i<1000000000000 by omega)
  have hlt2:at'+i<u.length:=by omega
  have a1:=limbAdd_ok a y o hal hyl ho
  simp-implicitDefEqProofs+decide only[go_sem,tW,sW,hy,w1,ha,hlt2]
  refine CallG.pure _ Tryz.call290 a1 rfl rfl ?_
  apply run_sound 200
  simp-implicitDefEqProofs+decide only[go_sem,w1,ha,hlt2,w2]
  refine hJ (i+1,u'.set (at'+i) ((a+y+o)%18446744073709551616),(a+y+o)/18446744073709551616) _ ⟨hlt,he,by simpa using hl',hw.set (Nat.mod_lt _ (by decide)),by dsimp only;omega⟩ (by dsimp only;omega) (Wk.mixed _ (upd_pool hb) rfl ?_ ?_ ?_)
  ·intro l hp
   dsimp only
   rw[←setU]
   exact congrFun (upd_upd _ _ _ _) l
  ·simp-implicitDefEqProofs+decide only[go_sem,tW,sW,w2]
  ·simp-implicitDefEqProofs+decide only[go_sem,tW,sW]
 ·have hil:i=v.length:=by omega
  subst hil
  rw[List.drop_length,backGo]at he
  obtain⟨a,ha⟩:=getI (show at'+v.length<u'.length by omega)
  have hgd:u'.getD (at'+v.length) 0=a:=by simp[List.getD,ha]
  have hlt2:at'+v.length<u.length:=by omega
  have w1:IntKind.wrap .i64 ((at':Int)+v.length)=((at'+v.length:Nat):Int):=by rw[w64]<;>omega
  have hT:backN v u at'=u'.set (at'+v.length) ((a+o)%18446744073709551616):=by
   unfold backN
   rw[←he,hgd]
  rw[hT]
  simp-implicitDefEqProofs+decide only[go_sem,tW,sW,w1,ha,hlt2]
  refine endF.zero (.inl rfl) ?_ rfl
  intro l hp
  dsimp only
  rw[←setU]
  exact(congrFun (upd_upd _ _ _ _) l).symm
theorem wordsOf_ge {n k:Nat} (h:18446744073709551616^k≤n):k<(wordsOf n).length:=by
 rcases Nat.lt_or_ge k (wordsOf n).length with h'|h'
 ·exact h'
 ·have h1:=nv_lt (WOK_wordsOf n)
  rw[nv_wordsOf]at h1
  have:18446744073709551616^(wordsOf n).length≤18446744073709551616^k:=Nat.pow_le_pow_right (by decide) h'
  omega
structure LongSet (a b:List Nat) (n s k top next:Nat) (v w u0:List Nat):Prop where
 s63:s≤63
 bits:64*b.length-bitLen (nv b)=s
 bitsle:bitLen (nv b)≤64*b.length
 ve:v=wordsOf (nv b*2^s)
 we:w=wordsOf (nv a*2^s)
 ue:u0=w++List.replicate k 0
 vlen:v.length=n+2
 wlen:w.length+k=a.length+1
 vok:WOK v
 uok:WOK u0
 htop:v[n+1]?=some top
 hnext:v[n]?=some next
 h0:0<top
 uv:nv u0=nv a*2^s
 vv:nv v=nv b*2^s
 ulen:u0.length=a.length+1
 start:nv (u0.drop (a.length+1-(n+2)))<nv v
theorem long_set (a b:List Nat) (n tb:Nat) (ha:WOK a) (hb:WOK b) (hn:b.length=n+2) (htb:b[n+1]?=some tb) (h0:tb≠0) (hab:b.length≤a.length):∃s k top next v w u0,LongSet a b n s k top next v w u0:=by
 have hsz:sizeW b=n+2:=(sizeW_unique (by omega) (fun i x hi hx=>by rw[List.getElem?_eq_none (by omega)]at hx;cases hx) (.inr ⟨tb,by simpa using htb,h0⟩)).symm
 have hbits:=bits_top hb (x:=tb) (by omega) (by rw[hsz];exact htb)
 rw[hsz,show n+2-1=n+1 by omega]at hbits
 obtain⟨b1,b2,b3⟩:=bitLen_bounds h0
 have b4:=bitLen_le (hb.get htb)
 obtain⟨s,hs⟩:∃s,s=64-bitLen tb:=⟨_,rfl⟩
 have hnb:nv b≠0:=fun e=>by have:=(nv_zero b).2 e;omega
 obtain⟨c1,c2,c3⟩:=bitLen_bounds hnb
 have hVlt:nv b*2^s<18446744073709551616^(n+2):=by
  have:(18446744073709551616:Nat)^(n+2)=2^bitLen (nv b)*2^s:=by
   rw[←Nat.pow_add,show(18446744073709551616:Nat)=2^64 from rfl,←Nat.pow_mul];congr 1;omega
  rw[this];exact Nat.mul_lt_mul_of_pos_right c2 (Nat.two_pow_pos s)
 have hVge:18446744073709551616^(n+1)≤nv b*2^s:=by
  have h1:=nv_size_ge (l:=b) (by omega)
  rw[hsz,show n+2-1=n+1 by omega]at h1
  exact Nat.le_trans h1 (Nat.le_mul_of_pos_right _ (Nat.two_pow_pos s))
 have hvl:(wordsOf (nv b*2^s)).length=n+2:=by
  have h1:=len_wordsOf hVlt
  have h2:=wordsOf_ge hVge
  omega
 obtain⟨top,ht1,ht2⟩:=sizeW_top (wordsOf (nv b*2^s)) (by rw[size_wordsOf];omega)
 rw[size_wordsOf,hvl,show n+2-1=n+1 by omega]at ht1
 obtain⟨next,hnx⟩:=getI (show n<(wordsOf (nv b*2^s)).length by omega)
 have hwl:(wordsOf (nv a*2^s)).length≤a.length+1:=by
  refine len_wordsOf ?_
  rw[Nat.pow_succ]
  have h1:=nv_lt ha
  have h2:2^s≤18446744073709551616:=Nat.pow_le_pow_right (n:=2) (by decide) (show s≤64 by omega)
  exact Nat.lt_of_lt_of_le (Nat.mul_lt_mul_of_pos_right h1 (Nat.two_pow_pos s)) (Nat.mul_le_mul_left _ h2)
 have huv:nv (wordsOf (nv a*2^s)++List.replicate (a.length+1-(wordsOf (nv a*2^s)).length) 0)=nv a*2^s:=by rw[nv_append,nv_repl,nv_wordsOf];simp
 have hul:(wordsOf (nv a*2^s)++List.replicate (a.length+1-(wordsOf (nv a*2^s)).length) 0).length=a.length+1:=by simp;omega
 refine⟨s,a.length+1-(wordsOf (nv a*2^s)).length,top,next,_,_,_,by omega,by omega,by omega,rfl,rfl,rfl,hvl,by omega,WOK_wordsOf _,(WOK_wordsOf _).append (WOK.repl _),ht1,hnx,by omega,huv,nv_wordsOf _,hul,?_⟩
 have hM:a.length+1-(n+2)≤a.length+1:=by omega
 have e:=nv_split (l:=wordsOf (nv a*2^s)++List.replicate (a.length+1-(wordsOf (nv a*2^s)).length) 0) (i:=a.length+1-(n+2)) (by omega)
 rw[huv]at e
 rw[nv_wordsOf]
 have h1:18446744073709551616^(a.length+1-(n+2))*nv ((wordsOf (nv a*2^s)++List.replicate (a.length+1-(wordsOf (nv a*2^s)).length) 0).drop (a.length+1-(n+2)))<18446744073709551616^(a.length+1-(n+2))*(nv b*2^s):=by
  have h2:nv a*2^s<18446744073709551616^a.length*2^s:=Nat.mul_lt_mul_of_pos_right (nv_lt ha) (Nat.two_pow_pos s)
  have h3:18446744073709551616^a.length*2^s≤18446744073709551616^(a.length+1-(n+2))*(nv b*2^s):=by
   have h4:=nv_size_ge (l:=b) (by omega)
   rw[hsz,show n+2-1=n+1 by omega]at h4
   have h5:18446744073709551616^(a.length+1-(n+2))*18446744073709551616^(n+1)=18446744073709551616^a.length:=by rw[←Nat.pow_add];congr 1;omega
   rw[←h5,←Nat.mul_assoc]
   exact Nat.mul_le_mul_right _ (Nat.mul_le_mul_left _ h4)
  omega
 exact Nat.lt_of_mul_lt_mul_left h1
theorem long_ok (a b:List Nat) (n tb:Nat) (ha:WOK a) (hb:WOK b) (hla:a.length<100000000) (hn:b.length=n+2) (htb:b[n+1]?=some tb) (h0:tb≠0) (hab:b.length≤a.length):
  Pure Tryz.prog 248 [sW a,sW b] [.own 1 ((wordsOf (nv a/nv b)).map U),.own 1 ((wordsOf (nv a%nv b)).map U)]:=by
 obtain⟨s,k,top,next,v,w,u0,L⟩:=long_set a b n tb ha hb hn htb h0 hab
 obtain⟨M,hM⟩:∃M,M=a.length+1-(n+2):=⟨_,rfl⟩
 obtain⟨uf,huf⟩:∃uf,uf=(longGo v M u0 (List.replicate M 0)).1:=⟨_,rfl⟩
 have hs63:=L.s63
 have hvl:=L.vlen
 have hwl:=L.wlen
 refine Pure.drop (h':=upd (fun _=>none) (.arg 0) (some (.arr 1 (uf.map U) k 0))) (m':=0) ?_ (by simp[noPtrRC,U,noPtr])
 refine Ret.intro Tryz.func248 rfl (rt:=[4,5]) rfl (by simp[Tryz.ntmps248]) (by decide) (sites:=fun _=>false) (upd_pool (fun _ _=>rfl)) (Keeps.none _) ?_
 have w1:IntKind.wrap .i64 (64*((b.length:Nat):Int))=((64*b.length:Nat):Int):=by rw[w64]<;>omega
 have w2:IntKind.wrap .i64 (((64*b.length:Nat):Int)-((bitLen (nv b):Nat):Int))=s:=by have:=L.bits;have:=L.bitsle;rw[w64]<;>omega
 have w3:=wS (show a.length<1000000000000 by omega)
 have c1:=natShl_ok b s hb (by omega) (by omega)
 have c2:=natShl_ok a s ha (by omega) (by omega)
 rw[←L.ve]at c1
 rw[←L.we]at c2
 apply run_sound 200
 simp-implicitDefEqProofs+decide only[go_sem,sW,w1]
 refine CallG.pure _ Tryz.call184 (natBits_ok b hb (by omega)) (by rw[List.all_cons,noPtr_us];rfl) rfl ?_
 apply run_sound 200
 simp-implicitDefEqProofs+decide only[go_sem,sW,w2]
 refine CallG.pure _ Tryz.call189 c1 (by rw[List.all_cons,noPtr_us];rfl) (by rw[List.all_cons,flat_us];rfl) ?_
 apply run_sound 200
 refine SmV ?_
 refine CallG.pureAd _ 24 Tryz.call189 c2 (by rw[List.all_cons,noPtr_us];rfl) (by rw[List.all_cons,flat_us];rfl) (fun j size es _=>by cases j<;>rfl) ?_
 apply run_sound 200
 simp-implicitDefEqProofs+decide only[go_sem,sW,List.length_map]
 refine Goes.loop (X:=Nat) (fun j=>⟨ofL [(0,tW a),(6,.t (.int .i64 s)),(7,tW v),(8,.sl (.loc 24 0) j 0 (w.length+j))],ofH (fun _=>none) [(.loc 24 0,.arr 1 ((w++List.replicate j 0).map U) j 0)],0⟩) (fun j=>j≤k) (fun j=>k-j) 0 ?_ (Nat.zero_le _) ?_
 ·refine Wk.rows _ _ (fun _ _=>rfl) rfl rfl ?_ (fun l hp=>by cases l<;>first|rfl|cases hp) ?_ ?_
  ·simp-implicitDefEqProofs+decide only[go_sem,List.replicate_zero]
  ·simp-implicitDefEqProofs+decide only[go_sem,tW,sW]
  ·simp-implicitDefEqProofs+decide only[go_sem,tW,sW]
 rintro j hj J hJ
 have hbig:w.length+j+1<big:=by unfold big;omega
 have hlen:(w++List.replicate j 0).length=w.length+j:=by simp
 apply run_sound 200
 simp-implicitDefEqProofs+decide only[go_sem,ofH,tW,sW,w3]
 apply selP_dec<;>intro hc
 ·have hr:(List.replicate (j+1) 0).map U=(List.replicate j 0).map U++[T.int .u64 0]:=by rw[List.replicate_succ'];simp[U]
  simp-implicitDefEqProofs+decide only[go_sem,ofH,hbig,List.append_assoc,List.length_replicate]
  refine hJ (j+1) _ (by omega) (by omega) (Wk.rows _ _ (fun _ _=>rfl) rfl rfl ?_ (fun l hp=>by cases l<;>first|rfl|cases hp) ?_ ?_)
  ·simp-implicitDefEqProofs+decide only[go_sem,hr,List.append_assoc]
  ·simp-implicitDefEqProofs+decide only[go_sem,tW,sW,Nat.add_assoc]
  ·simp-implicitDefEqProofs+decide only[go_sem,tW,sW]
 have hjk:j=k:=by omega
 subst hjk
 have hu0:w.map U++(List.replicate j 0).map U=u0.map U:=by rw[L.ue,List.map_append]
 have hul:w.length+j=u0.length:=by rw[L.ulen];omega
 have hM1:u0.length-(n+2)=M:=by rw[L.ulen,hM]
 have hulen:=L.ulen
 have hbigM:M<big:=by unfold big;omega
 have w4:IntKind.wrap .i64 ((u0.length:Int)-((n+2:Nat):Int))=(M:Int):=by rw[w64]<;>omega
 have w5:IntKind.wrap .i64 ((M:Int)-1)=(M:Int)-1:=by rw[w64]<;>omega
 simp-implicitDefEqProofs+decide only[go_sem,ofH,tW,sW,hvl,hu0,hul,w4,hbigM,w5]
 refine Goes.wk (Wk.lend (t:=8) (d:=24) (k:=0) (i:=0) (by simp-implicitDefEqProofs+decide only[go_sem]<;>rfl) (by simp-implicitDefEqProofs+decide only[go_sem]<;>rfl) (by simp-implicitDefEqProofs+decide only[go_sem])) ?_
 have hpos:0<u0.length:=by omega
 refine Goes.loop (X:=Nat×List Nat×List Nat) (fun x=>⟨ofL [(6,.t (.int .i64 s)),(7,tW v),(8,.sl (.arg 0) j 0 u0.length),(9,.t (.int .i64 (n+2:Nat))),(10,.sl (.loc 40 0) 0 0 M),(11,.t (.int .i64 ((x.1:Int)-1)))],
     ofH (upd (fun _=>none) (.arg 0) (some (.arr 1 (x.2.1.map U) j 0))) [(.loc 40 0,.arr 1 (x.2.2.map U) 0 0)],0⟩)
  (fun x=>x.1≤M∧longGo v x.1 x.2.1 x.2.2=longGo v M u0 (List.replicate M 0)∧x.2.1.length=u0.length∧WOK x.2.1∧x.2.2.length=M∧WOK x.2.2∧nv (x.2.1.drop x.1)<nv v∧nv u0=nv x.2.1+nv v*18446744073709551616^x.1*nv (x.2.2.drop x.1)) (fun x=>x.1) (M,u0,List.replicate M 0) ?_ ?_ ?_
 ·refine Wk.rows _ _ (upd_pool fun _ _=>rfl) rfl rfl ?_ (fun l hp=>by cases l<;>first|rfl|cases hp) ?_ ?_
  ·simp-implicitDefEqProofs+decide only[go_sem,replU]
  ·simp-implicitDefEqProofs+decide only[go_sem,tW,sW]
  ·simp-implicitDefEqProofs+decide only[go_sem,tW,sW]
 ·refine⟨Nat.le_refl _,rfl,rfl,L.uok,by simp,WOK.repl _,?_,?_⟩
  ·dsimp only;rw[hM];exact L.start
  ·dsimp only;rw[List.drop_of_length_le (by simp)];simp[nv]
 rintro ⟨m,u,out⟩ ⟨hm,he,hul2,huk,hol,hok,hlt,hq⟩ J2 hJ2
 dsimp only at hm he hul2 huk hol hok hlt hq hJ2⊢
 apply run_sound 200
 simp-implicitDefEqProofs+decide only[go_sem,ofH,tW,sW]
 apply selP_dec<;>intro hc2
 ·obtain⟨m',rfl⟩:∃m',m=m'+1:=⟨m-1,by omega⟩
  have hw1:(((m'+1:Nat):Int)-1)=m':=by omega
  obtain⟨l1,l2,l3,l4,l5,l6,l7,l8,hi,mid,lo,x1,x2,x3,x4,x5⟩:=longStep_ok L.vok huk hvl (by omega) L.htop L.hnext L.h0 hlt
  rw[hw1]
  obtain⟨q,hqd⟩:∃q,digitOf v u m'=q:=⟨_,rfl⟩
  rw[hqd]at l8 x5
  have wA:IntKind.wrap .i64 ((m':Int)+((n+2:Nat):Int))=((m'+n+2:Nat):Int):=by rw[w64]<;>omega
  have wB:IntKind.wrap .i64 (((n+2:Nat):Int)-1)=((n+1:Nat):Int):=by rw[w64]<;>omega
  have wC:IntKind.wrap .i64 (((n+2:Nat):Int)-2)=(n:Int):=by rw[w64]<;>omega
  have wD:IntKind.wrap .i64 ((m':Int)-1)=(m':Int)-1:=by rw[w64]<;>omega
  have hVpos:0<nv v:=by omega
  have g:=guess_ok (upd (fun _=>none) (.arg 0) (some (.arr 1 (u.map U) j 0))) 0 0 j 0 u (m'+n) hi mid lo top next (upd_pool fun _ _=>rfl) (upd_same _ _ _) huk (by omega) x1 x2 x3 (L.vok.get L.htop) (L.vok.get L.hnext) L.h0 x4
  rw[←x5,hul2]at g
  have t:=take_ok (upd (fun _=>none) (.arg 0) (some (.arr 1 (u.map U) j 0))) 0 0 j u v m' q (upd_pool fun _ _=>rfl) (upd_same _ _ _) huk L.vok (by omega) (by omega) l8
  rw[upd_upd,hul2]at t
  have hm1:n+1<v.length:=by omega
  have hm2:n<v.length:=by omega
  have htop:=L.htop
  have hnext:=L.hnext
  have hca:calmD {v:=AV.sl (.arg 0) j 0 u0.length}=true:=by simp[calmD,cleanA,hpos]
  refine Sm ?_
  refine Goes.drawP mixed ?_ ?_
  ·refine Calm.of ?_ (HCalm.row (HCalm.row HCalm.none))
   repeat first|exact Clean.und|refine Clean.upd ?_ rfl|refine Clean.upd ?_ (cleanA_arg hpos)
  simp-implicitDefEqProofs+decide only[go_sem,wA,wB,wC,htop,hnext,hvl]
  refine CallD.lookA (h:=upd (fun _=>none) (.arg 0) (some (.arr 1 (u.map U) j 0))) [.sl (.arg 0) j 0 u0.length,.t (.int .i64 (m'+n+2:Nat)),.t (.int .u64 top),.t (.int .u64 next)] [] [.t (.int .u64 q)] Tryz.call287 rfl g (upd_pool fun _ _=>rfl) (fun l hp=>by cases l<;>first|rfl|cases hp) ?_
  refine Sm ?_
  refine⟨.mk (by rw[hca];kernel_rfl),?_⟩
  apply run_sound 200
  refine Sm ?_
  refine CallG.lend (h:=upd (fun _=>none) (.arg 0) (some (.arr 1 (u.map U) j 0))) [.sl (.arg 0) j 0 u0.length,.t (sW v),.t (.int .i64 m'),.t (.int .u64 q)] [] _ Tryz.call288 rfl t (upd_pool fun _ _=>rfl) (fun l hp=>by cases l<;>first|rfl|cases hp) ?_
  obtain⟨T,b,hTb⟩:∃T b,takeN v u m' q=(T,b):=⟨_,_,rfl⟩
  rw[hTb]
  have hTl:=takeN_length v u m' q
  rw[hTb]at hTl
  dsimp only at hTl⊢
  refine Goes.wk (Wk.rows (base:=upd (fun _=>none) (.arg 0) (some (.arr 1 (T.map U) j 0))) (m:=0) [(6,.t (.int .i64 s)),(7,tW v),(8,.sl (.arg 0) j 0 u0.length),(9,.t (.int .i64 (n+2:Nat))),(10,.sl (.loc 40 0) 0 0 M),(11,.t (.int .i64 m')),(12,.t (.int .u64 q)),(67,.t (.bool (decide ((b:Int)≠0))))] [(.loc 40 0,.arr 1 (out.map U) 0 0)] (upd_pool fun _ _=>rfl) rfl rfl ?_ (fun l hp=>by cases l<;>first|rfl|cases hp) ?_ ?_) ?_
  ·simp-implicitDefEqProofs+decide only[go_sem]
  ·simp-implicitDefEqProofs+decide only[go_sem,tW,sW,killP_arg hpos]
  ·simp-implicitDefEqProofs+decide only[go_sem,tW,sW]
  have hmM:m'<M:=by omega
  obtain⟨z,hz⟩:=getI (show m'<out.length by omega)
  apply run_sound 200
  refine Sm ?_
  apply selP_dec<;>intro hb0
  ·have hb0:b≠0:=by omega
   have hst:longStep v u m'=(backN v T m',q-1):=by
    unfold longStep;rw[hqd,hTb];exact if_neg hb0
   rw[hst]at l1 l2 l3 l4 l5 l7
   rw[longGo,hst]at he
   dsimp only at l1 l2 l3 l4 l5 l7 he
   have hTk:WOK T:=by have:=(takeN_spec L.vok huk (j:=m') (by omega) l8).2.1;rwa [hTb]at this
   have bk:=back_ok (upd (fun _=>none) (.arg 0) (some (.arr 1 (T.map U) j 0))) 0 0 j T v m' (upd_pool fun _ _=>rfl) (upd_same _ _ _) hTk L.vok (by omega) (by omega)
   rw[upd_upd,hTl,hul2]at bk
   have hq1:1≤q:=by
    rcases Nat.eq_zero_or_pos q with h|h
    ·exfalso
     have ts:=takeN_spec L.vok huk (j:=m') (by omega) l8
     rw[hTb,h]at ts
     obtain⟨ts1,ts2,ts3,ts4,ts5⟩:=ts
     dsimp only at ts1 ts2 ts3
     have hT1:=nv_lt ts2
     have hb1:b=1:=by omega
     have hlen:m'+v.length+1≤T.length:=by omega
     have e1:=nv_split (l:=T) (i:=m'+v.length+1) hlen
     have e2:=nv_split (l:=u) (i:=m'+v.length+1) (by omega)
     have hdrop:T.drop (m'+v.length+1)=u.drop (m'+v.length+1):=ts4
     rw[hdrop]at e1
     have hTt:=nv_lt (ts2.take (m'+v.length+1))
     rw[List.length_take,Nat.min_eq_left hlen]at hTt
     rw[hb1,Nat.mul_one,Nat.zero_mul,Nat.mul_zero,Nat.add_zero]at ts1
     omega
    ·exact h
   have hwq:IntKind.wrap .u64 ((q:Int)-1)=((q-1:Nat):Int):=by rw[u64];omega
   simp-implicitDefEqProofs+decide only[go_sem,hwq,tW,sW]
   refine CallG.lend (h:=upd (fun _=>none) (.arg 0) (some (.arr 1 (T.map U) j 0))) [.sl (.arg 0) j 0 u0.length,.t (sW v),.t (.int .i64 m')] [] _ Tryz.call289 rfl bk (upd_pool fun _ _=>rfl) (fun l hp=>by cases l<;>first|rfl|cases hp) ?_
   refine Goes.wk (Wk.rows (base:=upd (fun _=>none) (.arg 0) (some (.arr 1 ((backN v T m').map U) j 0))) (m:=0) [(6,.t (.int .i64 s)),(7,tW v),(8,.sl (.arg 0) j 0 u0.length),(9,.t (.int .i64 (n+2:Nat))),(10,.sl (.loc 40 0) 0 0 M),(11,.t (.int .i64 m')),(12,.t (.int .u64 (q-1:Nat)))] [(.loc 40 0,.arr 1 (out.map U) 0 0)] (upd_pool fun _ _=>rfl) rfl rfl ?_ (fun l hp=>by cases l<;>first|rfl|cases hp) ?_ ?_) ?_
   ·simp-implicitDefEqProofs+decide only[go_sem]
   ·simp-implicitDefEqProofs+decide only[go_sem,tW,sW,killP_arg hpos]
   ·simp-implicitDefEqProofs+decide only[go_sem,tW,sW]
   apply run_sound 200
   simp-implicitDefEqProofs+decide only[go_sem,ofH,hz,hmM,wD]
   refine hJ2 (m',backN v T m',out.set m' (q-1)) _ ⟨by dsimp only;omega,he,by dsimp only;omega,l3,by simpa using hol,hok.set l7,by dsimp only;rw[l2];exact Nat.mod_lt _ hVpos,long_keep l4 (by omega) (by omega) l1 l2 l5 hq⟩ (by dsimp only;omega) (Wk.rows _ _ (upd_pool fun _ _=>rfl) rfl rfl ?_ (fun l hp=>by cases l<;>first|rfl|cases hp) ?_ ?_)
   ·simp-implicitDefEqProofs+decide only[go_sem,setU]
   ·simp-implicitDefEqProofs+decide only[go_sem,tW,sW,wD]
   ·simp-implicitDefEqProofs+decide only[go_sem,tW,sW]
  ·have hb0:b=0:=by omega
   have hst:longStep v u m'=(T,q):=by
    unfold longStep;rw[hqd,hTb];exact if_pos hb0
   rw[hst]at l1 l2 l3 l4 l5 l7
   rw[longGo,hst]at he
   dsimp only at l1 l2 l3 l4 l5 l7 he
   simp-implicitDefEqProofs+decide only[go_sem,ofH,hz,hmM,wD]
   refine hJ2 (m',T,out.set m' q) _ ⟨by dsimp only;omega,he,by dsimp only;omega,l3,by simpa using hol,hok.set l7,by dsimp only;rw[l2];exact Nat.mod_lt _ hVpos,long_keep l4 (by omega) (by omega) l1 l2 l5 hq⟩ (by dsimp only;omega) (Wk.rows _ _ (upd_pool fun _ _=>rfl) rfl rfl ?_ (fun l hp=>by cases l<;>first|rfl|cases hp) ?_ ?_)
   ·simp-implicitDefEqProofs+decide only[go_sem,setU]
   ·simp-implicitDefEqProofs+decide only[go_sem,tW,sW,wD]
   ·simp-implicitDefEqProofs+decide only[go_sem,tW,sW]
 ·have hm0:m=0:=by omega
  subst hm0
  have hu:u=uf:=by rw[huf,←he];rfl
  have hV:0<nv v:=by omega
  have hq0:nv u0=nv u+nv v*nv out:=by simpa using hq
  have hlt0:nv u<nv v:=hlt
  have hp:=Nat.two_pow_pos s
  have hnb:0<nv b:=by
   rcases Nat.eq_zero_or_pos (nv b) with h|h
   ·rw[L.vv,h]at hV;simp at hV
   ·exact h
  have hdiv:nv out=nv a/nv b:=by
   rw[L.uv,L.vv]at hq0
   rw[L.vv]at hlt0
   have h1:(nv a*2^s)/(nv b*2^s)=nv out:=by
    rw[hq0,Nat.add_mul_div_left _ _ (by rw[←L.vv];exact hV),Nat.div_eq_of_lt hlt0,Nat.zero_add]
   rw[←h1,Nat.mul_div_mul_right _ _ hp]
  have hmod:nv u/2^s=nv a%nv b:=by
   rw[L.uv,L.vv]at hq0
   rw[L.vv]at hlt0
   have h1:(nv a*2^s)%(nv b*2^s)=nv u:=by
    rw[hq0,Nat.add_mul_mod_self_left,Nat.mod_eq_of_lt hlt0]
   rw[←h1,Nat.mul_mod_mul_right,Nat.mul_div_cancel _ hp]
  have ct:=trim_ok out (by omega)
  rw[trimW_eq hok,hdiv]at ct
  have cr:=natShr_ok u s huk (by omega) (by omega) (by omega)
  rw[hmod]at cr
  have tk:List.take M (out.map U)=out.map U:=List.take_of_length_le (by simp[hol])
  have tk2:List.take u0.length (u.map U)=u.map U:=List.take_of_length_le (by simp[hul2])
  simp-implicitDefEqProofs+decide only[go_sem,ofH,tW,sW,tk]
  refine CallG.pureAd _ 79 Tryz.call245 ct (by rw[List.all_cons,noPtr_us];rfl) (by rw[List.all_cons,flat_us];rfl) (fun j size es _=>by cases j<;>rfl) ?_
  apply run_sound 200
  simp-implicitDefEqProofs+decide only[go_sem,tW,sW,tk2]
  refine CallG.pureAd _ 82 Tryz.call252 cr (by rw[List.all_cons,noPtr_us];rfl) (by rw[List.all_cons,flat_us];rfl) (fun j size es _=>by cases j<;>rfl) ?_
  apply run_sound 200
  refine SmW ?_
  refine endF.own2 (la:=.loc 79 0) (lb:=.loc 82 0) (size:=1) (size':=1) (v:=0) (v':=0) (.inr rfl) rfl (by simp-implicitDefEqProofs+decide only[go_sem]<;>rfl) (by simp) rfl rfl (by simp-implicitDefEqProofs+decide only[go_sem]<;>rfl) (by simp) rfl (by decide) ?_ rfl
  intro l hl
  rw[hu]
  cases l<;>first|rfl|(exact absurd hl (by simp[Lab.pool]))
end Go.Fm
