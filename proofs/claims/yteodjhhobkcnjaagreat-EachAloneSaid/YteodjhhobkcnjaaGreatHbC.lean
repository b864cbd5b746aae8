/- Quotients: Div. -/
import Derived.Test.YteodjhhobkcnjaaGreatHbB
import Derived.Test.YteodjhhobkcnjaaGreatHaB
import Derived.Test.YteodjhhobkcnjaaGreatHbA
set_option linter.unusedVariables false
set_option linter.unusedSimpArgs false
namespace Go.Fm
open Go.Proofs
set_option maxRecDepth 100000
attribute [local irreducible] tiOf
theorem wordsOf_len_mono {m n:Nat} (h:m≤n):(wordsOf m).length≤(wordsOf n).length:=by
 refine len_wordsOf ?_
 have:=nv_lt (WOK_wordsOf n)
 rw[nv_wordsOf]at this
 omega
theorem wordsOf_zero:wordsOf 0=[]:=by rw[wordsOf];rfl
theorem wordsOf_nil {n:Nat}:(wordsOf n).length=0↔n=0:=by
 refine⟨fun h=> ?_,fun h=>by rw[h,wordsOf_zero];rfl⟩
 have:=nv_wordsOf n
 rw[List.length_eq_zero_iff.1 h]at this
 simpa [nv] using this.symm
theorem wordsOf_one {n:Nat} (h:(wordsOf n).length=1):wordsOf n=[n]∧n<18446744073709551616∧n≠0:=by
 obtain⟨x,hx⟩:=List.length_eq_one_iff.1 h
 have h1:=nv_wordsOf n
 have h2:=WOK_wordsOf n
 rw[hx]at h1 h2
 have h3:=h2 x (by simp)
 simp[nv]at h1
 refine⟨by rw[hx,h1],by omega,fun e=> ?_⟩
 rw[e,wordsOf_zero]at h;cases h
theorem wordsOf_len_le {l:List Nat} (h:WOK l):(wordsOf (nv l)).length≤l.length:=len_wordsOf (nv_lt h)
theorem div_ok (a b:List Nat) (ha:WOK a) (hb:WOK b) (hla:a.length<100000000) (hlb:b.length<100000000) (h0:nv b≠0):
  Pure Tryz.prog 188 [sW a,sW b] [.t (sW (wordsOf (nv a/nv b))),.t (sW (wordsOf (nv a%nv b))),.t (.bool true)]:=by
 have ca:=trim_ok a (by omega)
 have cb:=trim_ok b (by omega)
 rw[trimW_eq ha]at ca
 rw[trimW_eq hb]at cb
 have la:=wordsOf_len_le ha
 have lb:=wordsOf_len_le hb
 have cc:=natCmp_ok (wordsOf (nv a)) (wordsOf (nv b)) (WOK_wordsOf _) (WOK_wordsOf _) (by omega) (by omega)
 rw[nv_wordsOf,nv_wordsOf]at cc
 have hz:(((wordsOf (nv b)).length:Int)=0)=False:=by
  have:=mt (wordsOf_nil (n:=nv b)).1 h0
  simp;exact fun e=>this (by rw[e];rfl)
 refine Pure.I Tryz.func188 [4,5,6] ?_
 refine SmV ?_
 refine CallG.pure _ Tryz.call245 ca (by rw[List.all_cons,noPtr_us];rfl) (by rw[List.all_cons,flat_us];rfl) ?_
 apply run_sound 200
 refine SmV ?_
 refine CallG.pure _ Tryz.call245 cb (by rw[List.all_cons,noPtr_us];rfl) (by rw[List.all_cons,flat_us];rfl) ?_
 apply run_sound 200
 simp-implicitDefEqProofs+decide only[go_sem,sW,hz]
 refine CallG.pure _ Tryz.call246 cc (by rw[List.all_cons,List.all_cons,noPtr_us,noPtr_us];rfl) rfl ?_
 apply run_sound 200
 refine SmV ?_
 apply selP_dec<;>intro hc
 ·have hlt:nv a<nv b:=by
   unfold cmpI at hc;split at hc
   ·assumption
   ·split at hc<;>omega
  rw[Nat.div_eq_of_lt hlt,Nat.mod_eq_of_lt hlt,wordsOf_zero]
  refine SmV ?_
  exact endF.vals [(4,.slice []),(5,sW (wordsOf (nv a))),(6,.bool true)] (.inr rfl) (vals_n (by simp-implicitDefEqProofs+decide only[go_sem]) (vals_t (by simp-implicitDefEqProofs+decide only[go_sem,sW]<;>rfl) rfl (vals_t (by simp-implicitDefEqProofs+decide only[go_sem]<;>rfl) rfl vals_nil))) (fun _ _=>rfl) rfl
 have hge:nv b≤nv a:=by
  unfold cmpI at hc;split at hc
  ·exact absurd (by decide) hc
  ·omega
 refine SmV ?_
 apply selP_dec<;>intro hc1
 ·obtain⟨e1,e2,e3⟩:=wordsOf_one (n:=nv b) (by omega)
  have cq:=quotWord_ok (wordsOf (nv a)) (nv b) (WOK_wordsOf _) e3 e2 (by omega)
  rw[nv_wordsOf]at cq
  have co:=natOf_ok (nv a%nv b) (Nat.lt_of_lt_of_le (Nat.mod_lt _ (by omega)) (by omega))
  have e4:(wordsOf (nv b))[0]?=some (nv b):=by rw[e1];rfl
  simp-implicitDefEqProofs+decide only[go_sem,sW,e4]
  refine CallG.pure _ Tryz.call247 cq (by rw[List.all_cons,noPtr_us];rfl) (by rw[List.all_cons,flat_us];rfl) ?_
  apply run_sound 200
  refine SmV ?_
  refine CallG.pure _ Tryz.call238 co rfl (by rw[List.all_cons,flat_us];rfl) ?_
  apply run_sound 200
  refine SmV ?_
  exact endF.vals [(4,sW (wordsOf (nv a/nv b))),(5,sW (wordsOf (nv a%nv b))),(6,.bool true)] (.inr rfl) (vals_t (by simp-implicitDefEqProofs+decide only[go_sem,sW]<;>rfl) rfl (vals_t (by simp-implicitDefEqProofs+decide only[go_sem,sW]<;>rfl) rfl (vals_t (by simp-implicitDefEqProofs+decide only[go_sem]<;>rfl) rfl vals_nil))) (fun _ _=>rfl) rfl
 obtain⟨n,hn⟩:∃n,(wordsOf (nv b)).length=n+2:=by
  have:=mt (wordsOf_nil (n:=nv b)).1 h0
  exact⟨(wordsOf (nv b)).length-2,by omega⟩
 obtain⟨tb,t1,t2⟩:=sizeW_top (wordsOf (nv b)) (by rw[size_wordsOf];omega)
 rw[size_wordsOf,hn,show n+2-1=n+1 by omega]at t1
 have cl:=long_ok (wordsOf (nv a)) (wordsOf (nv b)) n tb (WOK_wordsOf _) (WOK_wordsOf _) (by omega) hn t1 t2 (wordsOf_len_mono hge)
 rw[nv_wordsOf,nv_wordsOf]at cl
 refine SmV ?_
 refine CallG.pure _ Tryz.call248 cl (by rw[List.all_cons,List.all_cons,noPtr_us,noPtr_us];rfl) (by rw[List.all_cons,List.all_cons,flat_us,flat_us];rfl) ?_
 apply run_sound 200
 refine SmV ?_
 exact endF.vals [(4,sW (wordsOf (nv a/nv b))),(5,sW (wordsOf (nv a%nv b))),(6,.bool true)] (.inr rfl) (vals_t (by simp-implicitDefEqProofs+decide only[go_sem,sW]<;>rfl) rfl (vals_t (by simp-implicitDefEqProofs+decide only[go_sem,sW]<;>rfl) rfl (vals_t (by simp-implicitDefEqProofs+decide only[go_sem]<;>rfl) rfl vals_nil))) (fun _ _=>rfl) rfl
theorem words_ok (a b:Nat) (ha:a<18446744073709551616) (hb:b<18446744073709551616):Pure Tryz.prog 304 [.int .u64 a,.int .u64 b] [.t (.int .u64 (Nat.gcd a b:Nat))]:=by
 refine Pure.I Tryz.func304 [4] ?_
 refine Sm ?_
 refine Goes.loop (X:=Nat×Nat) (fun x=>⟨ofL [(0,.t (.int .u64 x.1)),(1,.t (.int .u64 x.2))],fun _=>none,0⟩) (fun x=>x.1<18446744073709551616∧x.2<18446744073709551616∧Nat.gcd x.1 x.2=Nat.gcd a b) (fun x=>x.2) (a,b) ?_ ⟨ha,hb,rfl⟩ ?_
 ·exact(Wk.slots _ rfl rfl (by simp-implicitDefEqProofs+decide only[go_sem]) (by simp-implicitDefEqProofs+decide only[go_sem]))
 rintro ⟨x,y⟩ ⟨hx,hy,hg⟩ J hJ
 dsimp only at hx hy hg hJ⊢
 apply run_sound 200
 refine Sm ?_
 apply selP_dec<;>intro hc
 ·have hz:((y:Int)=0)=False:=by simp;omega
  have hm:x%y<y:=Nat.mod_lt _ (by omega)
  have hw:Int.tmod (x:Int) (y:Int)=((x%y:Nat):Int):=(Int.ofNat_tmod x y).symm
  have hw2:IntKind.wrap .u64 ((x%y:Nat):Int)=((x%y:Nat):Int):=by rw[u64];omega
  simp-implicitDefEqProofs+decide only[go_sem,hz,hw,hw2]
  refine Goes.drawN mixed ?_
  simp-implicitDefEqProofs+decide only[go_sem,hz,hw,hw2]
  refine⟨.mk (by kernel_rfl),?_⟩
  apply run_sound 200
  refine Sm ?_
  refine hJ (y,x%y) _ ⟨hy,by dsimp only;omega,by dsimp only;rw[←hg,Nat.gcd_comm x y,Nat.gcd_rec y x];exact Nat.gcd_comm _ _⟩ hm (Wk.slots _ rfl rfl (by simp-implicitDefEqProofs+decide only[go_sem]) (by simp-implicitDefEqProofs+decide only[go_sem]))
 ·refine Sm ?_
  have:y=0:=by omega
  subst this
  rw[Nat.gcd_zero_right]at hg
  refine endF.oneI (.inr rfl) (by simp-implicitDefEqProofs+decide only[go_sem]<;>rfl) (by rw[hg]) (fun _ _=>rfl) rfl
theorem gcd_ok (a b:List Nat) (ha:WOK a) (hb:WOK b) (hla:a.length<100000000) (hlb:b.length<100000000):
  Pure Tryz.prog 295 [sW a,sW b] [.t (sW (wordsOf (Nat.gcd (nv a) (nv b))))]:=by
 have ca:=trim_ok a (by omega)
 have cb:=trim_ok b (by omega)
 rw[trimW_eq ha]at ca
 rw[trimW_eq hb]at cb
 have la:=wordsOf_len_le ha
 have lb:=wordsOf_len_le hb
 refine Pure.I Tryz.func295 [4] ?_
 refine SmV ?_
 refine CallG.pure _ Tryz.call245 ca (by rw[List.all_cons,noPtr_us];rfl) (by rw[List.all_cons,flat_us];rfl) ?_
 apply run_sound 200
 refine SmV ?_
 refine CallG.pure _ Tryz.call245 cb (by rw[List.all_cons,noPtr_us];rfl) (by rw[List.all_cons,flat_us];rfl) ?_
 apply run_sound 200
 refine SmV ?_
 refine Goes.loop (X:=Nat×Nat) (fun x=>⟨ofL [(0,tW (wordsOf x.1)),(1,tW (wordsOf x.2))],fun _=>none,0⟩) (fun x=>(wordsOf x.1).length<100000000∧(wordsOf x.2).length<100000000∧Nat.gcd x.1 x.2=Nat.gcd (nv a) (nv b)) (fun x=>x.2) (nv a,nv b) ?_ ⟨by dsimp only;omega,by dsimp only;omega,rfl⟩ ?_
 ·exact(Wk.slots _ rfl rfl (by simp-implicitDefEqProofs+decide only[go_sem,tW,sW]) (by simp-implicitDefEqProofs+decide only[go_sem,tW,sW]))
 rintro ⟨x,y⟩ ⟨hx,hy,hg⟩ J hJ
 dsimp only at hx hy hg hJ⊢
 apply run_sound 200
 refine SmW ?_
 apply selP_dec<;>intro hc
 ·have hy0:y≠0:=fun e=>by rw[e,wordsOf_zero]at hc;simp at hc
  have cd:=div_ok (wordsOf x) (wordsOf y) (WOK_wordsOf _) (WOK_wordsOf _) (by omega) (by omega) (by rw[nv_wordsOf];exact hy0)
  rw[nv_wordsOf,nv_wordsOf]at cd
  have hm:x%y<y:=Nat.mod_lt _ (by omega)
  have hml:=wordsOf_len_mono (Nat.le_of_lt hm)
  refine SmW ?_
  refine CallG.pureS _ Tryz.call188 cd (by rw[List.all_cons,List.all_cons,noPtr_us,noPtr_us];rfl) rfl ?_
  apply run_sound 200
  refine SmW ?_
  refine hJ (y,x%y) _ ⟨hy,by dsimp only;omega,by dsimp only;rw[←hg,Nat.gcd_comm x y,Nat.gcd_rec y x];exact Nat.gcd_comm _ _⟩ hm (Wk.slots _ rfl rfl (by simp-implicitDefEqProofs+decide only[go_sem,tW,sW]) (by simp-implicitDefEqProofs+decide only[go_sem,tW,sW]))
 have hy1:y<18446744073709551616:=by
  have:=nv_lt (WOK_wordsOf y)
  rw[nv_wordsOf]at this
  have h2:(18446744073709551616:Nat)^(wordsOf y).length≤18446744073709551616^1:=Nat.pow_le_pow_right (by decide) (by omega)
  omega
 have cw:=natWord_ok (wordsOf y) (WOK_wordsOf _) (by omega)
 rw[size_wordsOf,nv_wordsOf,if_pos (by omega)]at cw
 refine SmW ?_
 refine CallG.pure _ Tryz.call250 cw (by rw[List.all_cons,noPtr_us];rfl) rfl ?_
 apply run_sound 200
 refine SmW ?_
 apply selP_dec<;>intro h0
 ·have:y=0:=by omega
  subst this
  rw[Nat.gcd_zero_right]at hg
  rw[←hg]
  refine SmV ?_
  exact endF.vals [(4,sW (wordsOf x))] (.inr rfl) (vals_t (by simp-implicitDefEqProofs+decide only[go_sem,sW]<;>rfl) rfl vals_nil) (fun _ _=>rfl) rfl
 have hy0:y≠0:=by omega
 have cq:=quotWord_ok (wordsOf x) y (WOK_wordsOf _) hy0 hy1 (by omega)
 rw[nv_wordsOf]at cq
 have hm:x%y<y:=Nat.mod_lt _ (by omega)
 have cg:=words_ok y (x%y) hy1 (by omega)
 have e:Nat.gcd y (x%y)=Nat.gcd (nv a) (nv b):=by rw[←hg,Nat.gcd_comm x y,Nat.gcd_rec y x];exact Nat.gcd_comm _ _
 rw[e]at cg
 have hgl:Nat.gcd (nv a) (nv b)<18446744073709551616:=by
  rw[←e]
  have:=Nat.gcd_le_left (x%y) (show 0<y by omega)
  omega
 have co:=natOf_ok (Nat.gcd (nv a) (nv b)) hgl
 refine SmV ?_
 refine CallG.pure _ Tryz.call247 cq (by rw[List.all_cons,noPtr_us];rfl) (by rw[List.all_cons,flat_us];rfl) ?_
 apply run_sound 200
 refine SmV ?_
 refine CallG.pure _ Tryz.call304 cg rfl rfl ?_
 apply run_sound 200
 refine SmV ?_
 refine CallG.pure _ Tryz.call238 co rfl (by rw[List.all_cons,flat_us];rfl) ?_
 apply run_sound 200
 refine SmV ?_
 exact endF.vals [(4,sW (wordsOf (Nat.gcd (nv a) (nv b))))] (.inr rfl) (vals_t (by simp-implicitDefEqProofs+decide only[go_sem,sW]<;>rfl) rfl vals_nil) (fun _ _=>rfl) rfl
def rT (neg:Bool) (p q:List Nat):T:=.agg [.bool neg,sW p,sW q]
def rightM (neg:Bool) (p q:List Nat):Bool:=decide (sizeW p=p.length)&&decide (sizeW q=q.length)&&decide (0<q.length)&&decide (Nat.gcd (nv p) (nv q)=1)&& !(neg&&decide (p.length=0))
theorem rSize_ok (l:List Nat) (hl:l.length<4000000000):Pure Tryz.prog 161 [sW l] [.t (.int .i64 (sizeW l:Nat))]:=by
 refine Pure.I Tryz.func161 [2] ?_
 refine SmV ?_
 refine Goes.loop (X:=Nat) (fun n=>⟨ofL [(0,tW l),(3,.t (.int .i64 n))],fun _=>none,0⟩) (fun n=>n≤l.length∧∀i x,n≤i→l[i]?=some x→x=0) (fun n=>n) l.length ?_ ?_ ?_
 ·exact(Wk.slots _ rfl rfl (by simp-implicitDefEqProofs+decide only[go_sem,tW,sW]) (by simp-implicitDefEqProofs+decide only[go_sem,tW,sW]))
 ·refine⟨Nat.le_refl _,fun i x hi hx=> ?_⟩
  rw[List.getElem?_eq_none hi]at hx;cases hx
 rintro n ⟨hn,h0⟩ J hJ
 apply run_sound 200
 refine SmW ?_
 apply selP_dec<;>intro hc
 ·obtain⟨n',rfl⟩:∃n',n=n'+1:=⟨n-1,by omega⟩
  obtain⟨x,hx⟩:=getI (show n'<l.length by omega)
  have hw:IntKind.wrap .i64 (((n'+1:Nat):Int)-1)=n':=by rw[w64]<;>omega
  simp-implicitDefEqProofs+decide only[go_sem,tW,sW,hw,hx]
  apply selP_dec<;>intro hz
  ·simp-implicitDefEqProofs+decide only[go_sem,tW,sW,hw,hx]
   refine hJ n' _ ⟨by omega,fun i y hi hy=> ?_⟩ (by omega) (Wk.slots _ rfl rfl (by simp-implicitDefEqProofs+decide only[go_sem,tW,sW,hw]) (by simp-implicitDefEqProofs+decide only[go_sem,tW,sW,hw]))
   by_cases e:i=n'
   ·subst e;rw[hx]at hy;cases hy;omega
   ·exact h0 i y (by omega) hy
  ·have he:=sizeW_unique hn h0 (.inr ⟨x,by simpa using hx,by omega⟩)
   simp-implicitDefEqProofs+decide only[go_sem,tW,sW,hw,hx]
   refine endF.oneI (.inr rfl) (by simp-implicitDefEqProofs+decide only[go_sem]<;>rfl) (by rw[he]) (fun _ _=>rfl) rfl
 ·have he:=sizeW_unique hn h0 (.inl (by omega))
  refine SmW ?_
  refine endF.oneI (.inr rfl) (by simp-implicitDefEqProofs+decide only[go_sem]<;>rfl) (by rw[he]) (fun _ _=>rfl) rfl
theorem take_snoc {α:Type} {l:List α} {i:Nat} {x:α} (h:l[i]?=some x):l.take (i+1)=l.take i++[x]:=by
 rw[List.take_add_one,h];rfl
theorem rTrim_ok (l:List Nat) (hl:l.length<4000000000):Pure Tryz.prog 202 [sW l] [.own 1 ((trimW l).map U)]:=by
 have hle:=sizeW_le l
 have c1:=rSize_ok l hl
 refine Pure.I Tryz.func202 [2] ?_
 refine SmV ?_
 refine CallG.P _ Tryz.call161 (c1) ?_
 refine SmV ?_
 refine Goes.wk (Wk.nilRow (d:=3) (lab:=.loc 16 0) (size:=1) (by simp-implicitDefEqProofs+decide only[go_sem]) (by simp-implicitDefEqProofs+decide only[go_sem]) rfl (by decide)) ?_
 refine Goes.loop (X:=Nat) (fun n=>⟨ofL [(0,tW l),(3,.sl (.loc 16 0) n 0 n),(6,.t (.int .i64 (sizeW l))),(7,.t (.int .i64 n))],ofH (fun _=>none) [(.loc 16 0,.arr 1 ((l.take n).map U) n 0)],0⟩) (fun n=>n≤sizeW l) (fun n=>sizeW l-n) 0 ?_ (Nat.zero_le _) ?_
 ·refine Wk.rows _ _ (fun _ _=>rfl) rfl rfl ?_ (fun l hp=>by cases l<;>first|rfl|cases hp) ?_ ?_
  ·simp-implicitDefEqProofs+decide only[go_sem,List.take_zero,List.map_nil]
  ·simp-implicitDefEqProofs+decide only[go_sem,tW,sW]
  ·simp-implicitDefEqProofs+decide only[go_sem,tW,sW]
 rintro n hn J hJ
 apply run_sound 200
 refine SmW ?_
 apply selP_dec<;>intro hc
 ·obtain⟨x,hx⟩:=getI (show n<l.length by omega)
  have hw:=wS (show n<1000000000000 by omega)
  have hlen:n+1<big:=by unfold big;omega
  have hl2:(l.take n).length=n:=by simp;omega
  have hr:(l.take (n+1)).map U=(l.take n).map U++[T.int .u64 x]:=by rw[take_snoc hx];simp[U]
  simp-implicitDefEqProofs+decide only[go_sem,tW,sW,hw,hx,ofH,hlen,hl2]
  refine hJ (n+1) _ (by omega) (by omega) (Wk.rows _ _ (fun _ _=>rfl) rfl rfl ?_ (fun l hp=>by cases l<;>first|rfl|cases hp) ?_ ?_)
  ·simp-implicitDefEqProofs+decide only[go_sem,hr]
  ·simp-implicitDefEqProofs+decide only[go_sem,tW,sW,hw]
  ·simp-implicitDefEqProofs+decide only[go_sem,tW,sW]
 ·have:n=sizeW l:=by omega
  subst this
  simp-implicitDefEqProofs+decide only[go_sem,tW,sW,ofH]
  exact endF.own (lab:=.loc 16 0) (v:=sizeW l) (len:=sizeW l) (.inr rfl) (by simp-implicitDefEqProofs+decide only[go_sem]) (by simp-implicitDefEqProofs+decide only[go_sem,trimW]) (by simp[trimW,hle]) rfl (fun l hp=>by cases l<;>first|rfl|cases hp) rfl
theorem rRight_ok (l:List Nat) (hl:l.length<4000000000):Pure Tryz.prog 210 [sW l] [.t (.bool (decide (sizeW l=l.length)))]:=by
 have c1:=rSize_ok l hl
 refine Pure.I Tryz.func210 [2] ?_
 refine SmV ?_
 refine CallG.P _ Tryz.call161 (c1) ?_
 refine SmV ?_
 exact endF.V [(2,.bool (decide (sizeW l=l.length)))] (vals_t (by simp-implicitDefEqProofs+decide only[go_sem,Int.ofNat_inj]<;>rfl) rfl vals_nil)
theorem rAt_ok (l:List Nat) (i:Nat):Pure Tryz.prog 261 [sW l,.int .i64 i] [.t (.int .u64 (l.getD i 0:Nat))]:=by
 refine Pure.I Tryz.func261 [4] ?_
 refine SmV ?_
 apply selP_dec<;>intro h1
 ·have:l.getD i 0=0:=by rw[List.getD_eq_getElem?_getD,List.getElem?_eq_none (by omega)];rfl
  rw[this]
  refine SmV ?_
  exact endF.V1 4 (.int .u64 0)
 ·obtain⟨x,hx⟩:=getI (show i<l.length by omega)
  have:l.getD i 0=x:=by rw[List.getD_eq_getElem?_getD,hx];rfl
  rw[this]
  simp-implicitDefEqProofs+decide only[go_sem,sW,hx]
  exact endF.V1 4 (.int .u64 x)
theorem uand1M (a:Nat):IntKind.wrap .u64 ((@BitVec.toNat 64 (@HAnd.hAnd (BitVec 64) (BitVec 64) (BitVec 64) (@instHAndOfAndOp (BitVec (IntKind.bits .u64)) (@BitVec.instAndOp (IntKind.bits .u64))) (BitVec.ofInt 64 (a:Int)) (BitVec.ofInt 64 1)):Nat):Int)=((a%2:Nat):Int):=by
 rw[u64]
 have e:(BitVec.ofInt 64 (a:Int)&&&BitVec.ofInt 64 1).toNat=a%2:=by
  rw[BitVec.toNat_and]
  have h1:(BitVec.ofInt 64 (a:Int)).toNat=a%18446744073709551616:=by simp[BitVec.toNat_ofInt]
  have h2:(BitVec.ofInt 64 1).toNat=2^1-1:=by decide
  rw[h1,h2,Nat.and_two_pow_sub_one_eq_mod]
  omega
 show((BitVec.ofInt 64 (a:Int)&&&BitVec.ofInt 64 1).toNat:Int)%_=_
 rw[e];omega
theorem rBit_ok (a:List Nat) (i:Nat) (ha:WOK a) (hla:a.length<1000000000) (hi:i<9000000000000000000):Pure Tryz.prog 204 [sW a,.int .i64 i] [.t (.bool ((nv a).testBit i))]:=by
 have f2:IntKind.wrap .i64 (Int.tdiv (i:Int) 64)=((i/64:Nat):Int):=by rw[show(64:Int)=((64:Nat):Int) from rfl,←Int.ofNat_tdiv,w64]<;>omega
 have f3:Int.tmod (i:Int) 64=((i%64:Nat):Int):=by rw[show(64:Int)=((64:Nat):Int) from rfl,←Int.ofNat_tmod]
 rw[nv_testBit ha]
 refine Pure.I Tryz.func204 [4] ?_
 simp-implicitDefEqProofs+decide only[go_sem,sW,f2,f3]
 apply selP_dec<;>intro h1
 ·obtain⟨x,hx⟩:=getI (show i/64<a.length by omega)
  have hxl:=ha.get hx
  have f4:IntKind.wrap .u64 ((i%64:Nat):Int)=((i%64:Nat):Int):=by rw[u64];omega
  have f5:=ushrN x (i%64) (by omega)
  have f6:=uand1M (x/2^(i%64))
  have e:a.getD (i/64) 0=x:=by rw[List.getD_eq_getElem?_getD,hx];rfl
  have e2:(a.getD (i/64) 0).testBit (i%64)=decide (((x/2^(i%64)%2:Nat):Int)=1):=by
   rw[e,Nat.testBit_eq_decide_div_mod_eq];congr 1;apply propext;omega
  rw[e2]
  simp-implicitDefEqProofs+decide only[go_sem,sW,f2,f3,hx,f4,f5,f6]
  exact endF.V1 4 (.bool (decide (((x/2^(i%64)%2:Nat):Int)=1)))
 ·have:a.getD (i/64) 0=0:=by rw[List.getD_eq_getElem?_getD,List.getElem?_eq_none (by omega)];rfl
  rw[this,Nat.zero_testBit]
  simp-implicitDefEqProofs+decide only[go_sem,sW,f2,f3]
  exact endF.V1 4 (.bool false)
theorem pad_get (l:List Nat) (k i:Nat) (h:i<l.length+k):(l++List.replicate k 0)[i]?=some (l.getD i 0):=by
 rcases Nat.lt_or_ge i l.length with h1|h1
 ·rw[List.getElem?_append_left h1,List.getD_eq_getElem?_getD,List.getElem?_eq_getElem h1];rfl
 ·rw[List.getElem?_append_right h1,List.getElem?_replicate,if_pos (by omega),List.getD_eq_getElem?_getD,List.getElem?_eq_none h1];rfl
theorem rCmp_ok (a b:List Nat) (ha:WOK a) (hb:WOK b) (hla:a.length<1000000000) (hlb:b.length<1000000000):Pure Tryz.prog 206 [sW a,sW b] [.t (.int .i64 (cmpI (nv a) (nv b)))]:=by
 obtain⟨n,hn⟩:∃n,n=max a.length b.length:=⟨_,rfl⟩
 obtain⟨a',ea⟩:∃a',a'=a++List.replicate (n-a.length) 0:=⟨_,rfl⟩
 obtain⟨b',eb⟩:∃b',b'=b++List.replicate (n-b.length) 0:=⟨_,rfl⟩
 have va:nv a'=nv a:=by rw[ea,nv_append,nv_repl];simp
 have vb:nv b'=nv b:=by rw[eb,nv_append,nv_repl];simp
 have la:a'.length=n:=by rw[ea];simp;omega
 have lb:b'.length=n:=by rw[eb];simp;omega
 have ka:WOK a':=by rw[ea];exact ha.append (WOK.repl _)
 have kb:WOK b':=by rw[eb];exact hb.append (WOK.repl _)
 have ga:∀i,i<n→a'[i]?=some (a.getD i 0):=fun i hi=>by rw[ea];exact pad_get a _ i (by omega)
 have gb:∀i,i<n→b'[i]?=some (b.getD i 0):=fun i hi=>by rw[eb];exact pad_get b _ i (by omega)
 have hmax:(if a.length<b.length then (b.length:Int) else a.length)=(n:Int):=by split<;>omega
 have w0:IntKind.wrap .i64 ((n:Int)-1)=(n:Int)-1:=by rw[w64]<;>omega
 refine Pure.I Tryz.func206 [4] ?_
 simp-implicitDefEqProofs+decide only[go_sem,sW,hmax,w0]
 refine Goes.loop (X:=Nat) (fun n=>⟨ofL [(0,tW a),(1,tW b),(6,.t (.int .i64 ((n:Int)-1)))],fun _=>none,0⟩) (fun k=>k≤n∧nv (a'.drop k)=nv (b'.drop k)) (fun n=>n) n ?_ ?_ ?_
 ·exact(Wk.slots _ rfl rfl (by simp-implicitDefEqProofs+decide only[go_sem,tW,sW,w0]) (by simp-implicitDefEqProofs+decide only[go_sem,tW,sW,w0]))
 ·exact⟨Nat.le_refl _,by rw[List.drop_of_length_le (by omega),List.drop_of_length_le (by omega)]⟩
 rintro k ⟨hk,he⟩ J hJ
 apply run_sound 200
 refine SmW ?_
 apply selP_dec<;>intro hc
 ·obtain⟨k',rfl⟩:∃k',k=k'+1:=⟨k-1,by omega⟩
  have hw:(((k'+1:Nat):Int)-1)=k':=by omega
  have hw2:IntKind.wrap .i64 ((k':Int)-1)=(k':Int)-1:=by rw[w64]<;>omega
  have ca:=rAt_ok a k'
  have cb:=rAt_ok b k'
  have xa:=ga k' (by omega)
  have xb:=gb k' (by omega)
  rw[hw]
  refine SmW ?_
  refine CallG.P _ Tryz.call261 (ca) ?_
  refine SmW ?_
  refine CallG.P _ Tryz.call261 (cb) ?_
  refine SmW ?_
  apply selP_dec<;>intro h1
  ·have:=nv_top_lt ka xa xb he (by omega)
   rw[show cmpI (nv a) (nv b)= -1 by rw[va,vb]at this;simp[cmpI,this]]
   refine Sm ?_
   exact endF.V1 4 (.int .i64 (-1))
  refine Sm ?_
  apply selP_dec<;>intro h2
  ·have:=nv_top_lt kb xb xa he.symm (by omega)
   rw[show cmpI (nv a) (nv b)=1 by rw[va,vb]at this;unfold cmpI;rw[if_neg (by omega),if_pos this]]
   refine Sm ?_
   exact endF.V1 4 (.int .i64 1)
  have e:a.getD k' 0=b.getD k' 0:=by omega
  simp-implicitDefEqProofs+decide only[go_sem,hw2]
  refine hJ k' _ ⟨by omega,?_⟩ (by omega) (Wk.slots _ rfl rfl (by simp-implicitDefEqProofs+decide only[go_sem,tW,sW,hw2]) (by simp-implicitDefEqProofs+decide only[go_sem,tW,sW,hw2]))
  rw[dropC xa,dropC xb,nv,nv,he,e]
 ·have:k=0:=by omega
  subst this
  rw[List.drop_zero,List.drop_zero,va,vb]at he
  rw[show cmpI (nv a) (nv b)=0 by unfold cmpI;rw[if_neg (by omega),if_neg (by omega)]]
  refine Sm ?_
  exact endF.V1 4 (.int .i64 0)
theorem half_step {y:Nat} (h0:y≠0) (h1:¬y%2=1):y/2≠0∧y/2<y∧y%2=0:=by omega
theorem rEven_ok (a:List Nat) (ha:WOK a) (hla:a.length<1000000) (h0:nv a≠0):Pure Tryz.prog 213 [sW a] [.t (.int .i64 (tz (nv a):Nat))]:=by
 have hlt:tz (nv a)<64*a.length:=tz_le h0 (by rw[Nat.pow_mul];exact nv_lt ha)
 have c1:=rSize_ok a (by omega)
 have hz:((sizeW a:Int)=0)=False:=by
  have:=mt (nv_zero a).1
  simp;intro e;exact h0 ((nv_zero a).1 (by omega))
 refine Pure.I Tryz.func213 [2] ?_
 refine SmV ?_
 refine CallG.P _ Tryz.call161 (c1) ?_
 simp-implicitDefEqProofs+decide only[go_sem,sW,hz]
 refine Goes.loop (X:=Nat) (fun k=>⟨ofL [(0,tW a),(3,.t (.int .i64 k))],fun _=>none,0⟩) (fun k=>nv a/2^k≠0∧tz (nv a)=k+tz (nv a/2^k)) (fun k=>nv a/2^k) 0 ?_ ?_ ?_
 ·exact(Wk.slots _ rfl rfl (by simp-implicitDefEqProofs+decide only[go_sem,tW,sW]) (by simp-implicitDefEqProofs+decide only[go_sem,tW,sW]))
 ·simp[h0]
 rintro k ⟨hk,he⟩ J hJ
 have cb:=rBit_ok a k ha (by omega) (by omega)
 rw[Nat.testBit_eq_decide_div_mod_eq]at cb
 apply run_sound 200
 refine SmW ?_
 refine CallG.P _ Tryz.call204 (cb) ?_
 refine SmW ?_
 refine selP_ndec (fun h1=> ?_) (fun h1=> ?_)
 ·have hw:=wS (show k<1000000000000 by omega)
  have e:nv a/2^(k+1)=nv a/2^k/2:=by rw[Nat.pow_succ,Nat.div_div_eq_div_mul]
  simp-implicitDefEqProofs+decide only[go_sem,tW,sW,hw]
  obtain⟨s1,s2,s3⟩:=half_step hk h1
  refine hJ (k+1) _ ⟨by rw[e];exact s1,?_⟩ (by rw[e];exact s2) (Wk.slots _ rfl rfl (by simp-implicitDefEqProofs+decide only[go_sem,tW,sW,hw]) (by simp-implicitDefEqProofs+decide only[go_sem,tW,sW,hw]))
  rw[he,e,tz_even s3 hk];omega
 ·rw[tz_odd h1,Nat.add_zero]at he
  rw[he]
  refine SmW ?_
  exact endF.V1 2 (.int .i64 k)
theorem rHalves_ok (a:List Nat) (ha:WOK a) (hla:a.length<100000000):Pure Tryz.prog 259 [sW a] [.own 1 ((trimW (halvesL a)).map U)]:=by
 have hhl:=halvesL_len a
 have ct:=rTrim_ok (halvesL a) (by omega)
 refine Pure.I Tryz.func259 [2] ?_
 refine SmV ?_
 refine Goes.wk (Wk.nilRow (d:=3) (lab:=.loc 17 0) (size:=1) (by simp-implicitDefEqProofs+decide only[go_sem]) (by simp-implicitDefEqProofs+decide only[go_sem]) rfl (by decide)) ?_
 refine Goes.loop (X:=Nat) (fun n=>⟨ofL [(0,tW a),(3,.sl (.loc 17 0) (2*n) 0 (2*n)),(6,.t (.int .i64 a.length)),(7,.t (.int .i64 n))],ofH (fun _=>none) [(.loc 17 0,.arr 1 ((halvesL (a.take n)).map U) (2*n) 0)],0⟩) (fun n=>n≤a.length) (fun n=>a.length-n) 0 ?_ (Nat.zero_le _) ?_
 ·refine Wk.rows _ _ (fun _ _=>rfl) rfl rfl ?_ (fun l hp=>by cases l<;>first|rfl|cases hp) ?_ ?_
  ·simp-implicitDefEqProofs+decide only[go_sem,List.take_zero,halvesL,List.map_nil,Nat.mul_zero]
  ·simp-implicitDefEqProofs+decide only[go_sem,tW,sW,Nat.mul_zero]
  ·simp-implicitDefEqProofs+decide only[go_sem,tW,sW]
 rintro n hn J hJ
 apply run_sound 200
 refine SmW ?_
 apply selP_dec<;>intro hc
 ·obtain⟨x,hx⟩:=getI (show n<a.length by omega)
  have hxl:=ha.get hx
  have hw:=wS (show n<1000000000000 by omega)
  have hl2:(halvesL (a.take n)).length=2*n:=by rw[halvesL_len];simp;omega
  have hlen:2*n+1<big:=by unfold big;omega
  have hlen2:2*n+1+1<big:=by unfold big;omega
  have hr:(halvesL (a.take (n+1))).map U=(halvesL (a.take n)).map U++[T.int .u64 (x%4294967296:Nat)]++[T.int .u64 (x/4294967296:Nat)]:=by rw[take_snoc hx,halvesL_snoc];simp[U]
  simp-implicitDefEqProofs+decide only[go_sem,tW,sW,hw,hx,ofH,hlen,hl2,hlen2]
  refine hJ (n+1) _ (by omega) (by omega) (Wk.rows _ _ (fun _ _=>rfl) rfl rfl ?_ (fun l hp=>by cases l<;>first|rfl|cases hp) ?_ ?_)
  ·simp-implicitDefEqProofs+decide only[go_sem,hr,List.append_assoc,Nat.mul_add,Nat.mul_one]
  ·simp-implicitDefEqProofs+decide only[go_sem,tW,sW,hw,Nat.mul_add,Nat.mul_one,Nat.add_assoc]
  ·simp-implicitDefEqProofs+decide only[go_sem,tW,sW]
 ·have:n=a.length:=by omega
  subst this
  have htk:List.take (2*a.length) ((halvesL a).map U)=(halvesL a).map U:=List.take_of_length_le (by simp;omega)
  simp-implicitDefEqProofs+decide only[go_sem,tW,sW,ofH,List.take_length,htk]
  refine CallG.pureAd _ 28 Tryz.call202 ct (by first|rfl|(simp only[go_sem];done)|(simp only[go_sem];rfl)) (by first|rfl|(simp only[go_sem];done)|(simp only[go_sem];rfl)) (fun j size es _=>by cases j<;>rfl) ?_
  apply run_sound 200
  refine Sm ?_
  exact endF.own (lab:=.loc 28 0) (v:=0) (len:=(trimW (halvesL a)).length) (.inr rfl) (by simp-implicitDefEqProofs+decide only[go_sem]) (by simp-implicitDefEqProofs+decide only[go_sem]) (by simp) rfl (fun l hp=>by cases l<;>first|rfl|cases hp) rfl
theorem rWhole_ok (h:List Nat) (hh:HOK h) (hl:h.length<100000000):Pure Tryz.prog 260 [sW h] [.own 1 ((wordsOf (hv h)).map U)]:=by
 obtain⟨k1,k2,k3⟩:=wholeL_spec hh
 have ct:=rTrim_ok (wholeL h) (by omega)
 rw[trimW_eq k1,k2]at ct
 refine Pure.I Tryz.func260 [2] ?_
 refine SmV ?_
 refine Goes.wk (Wk.nilRow (d:=3) (lab:=.loc 32 0) (size:=1) (by simp-implicitDefEqProofs+decide only[go_sem]) (by simp-implicitDefEqProofs+decide only[go_sem]) rfl (by decide)) ?_
 refine Goes.loop (X:=Nat) (fun k=>⟨ofL [(0,tW h),(3,.sl (.loc 32 0) k 0 k),(4,.t (.int .i64 (2*k:Nat)))],ofH (fun _=>none) [(.loc 32 0,.arr 1 ((wholeL (h.take (2*k))).map U) k 0)],0⟩) (fun k=>2*k≤h.length+1) (fun k=>h.length+1-k) 0 ?_ (Nat.zero_le _) ?_
 ·refine Wk.rows _ _ (fun _ _=>rfl) rfl rfl ?_ (fun l hp=>by cases l<;>first|rfl|cases hp) ?_ ?_
  ·simp-implicitDefEqProofs+decide only[go_sem,List.take_zero,wholeL,List.map_nil,Nat.mul_zero]
  ·simp-implicitDefEqProofs+decide only[go_sem,tW,sW,Nat.mul_zero]<;>rfl
  ·simp-implicitDefEqProofs+decide only[go_sem,tW,sW]
 rintro k hk J hJ
 apply run_sound 200
 refine SmW ?_
 apply selP_dec<;>intro hc
 ·obtain⟨x,hx⟩:=getI (show 2*k<h.length by omega)
  have hxl:=hh x (List.mem_of_getElem? hx)
  have hw:=wS (show 2*k<1000000000000 by omega)
  have hw2:IntKind.wrap .i64 (((2*k:Nat):Int)+2)=((2*(k+1):Nat):Int):=by rw[w64]<;>omega
  have hl2:(wholeL (h.take (2*k))).length=k:=by rw[wholeL_len];simp;omega
  have hlen:k+1<big:=by unfold big;omega
  have e1:h.take (2*k+1)=h.take (2*k)++[x]:=take_snoc hx
  simp-implicitDefEqProofs+decide only[go_sem,tW,sW,hw,hx,ofH,hlen,hl2]
  apply selP_dec<;>intro h2
  ·obtain⟨y,hy⟩:=getI (show 2*k+1<h.length by omega)
   have hyl:=hh y (List.mem_of_getElem? hy)
   have hor:=uorM x (y*4294967296%18446744073709551616) (by omega) (by omega)
   have hov:x|||(y*4294967296%18446744073709551616)=x+4294967296*y:=by
    rw[Nat.mod_eq_of_lt (by omega),Nat.or_comm,show y*4294967296=y*2^32 from rfl,or_add _ _ 32 (by omega)];omega
   rw[hov]at hor
   have hr:(wholeL (h.take (2*(k+1)))).map U=(wholeL (h.take (2*k))).map U++[T.int .u64 (x+4294967296*y:Nat)]:=by
    rw[show 2*(k+1)=2*k+1+1 by omega,take_snoc hy,e1,List.append_assoc,show [x]++[y]=[x,y] from rfl,wholeL_two _ _ _ (by simp;omega)];simp[U]
   simp-implicitDefEqProofs+decide only[go_sem,tW,sW,hw,hy,ofH,hlen,hl2,hor,hw2]
   refine hJ (k+1) _ (by omega) (by omega) (Wk.rows _ _ (fun _ _=>rfl) rfl rfl ?_ (fun l hp=>by cases l<;>first|rfl|cases hp) ?_ ?_)
   ·simp-implicitDefEqProofs+decide only[go_sem,hr]
   ·simp-implicitDefEqProofs+decide only[go_sem,tW,sW,hw2]
   ·simp-implicitDefEqProofs+decide only[go_sem,tW,sW]
  ·have hr:(wholeL (h.take (2*(k+1)))).map U=(wholeL (h.take (2*k))).map U++[T.int .u64 (x:Nat)]:=by
    have e0:=congrArg wholeL ((List.take_of_length_le (l:=h) (i:=2*k+1) (by omega)).symm.trans e1)
    rw[wholeL_one _ _ (by simp;omega)]at e0
    rw[List.take_of_length_le (by omega),e0];simp[U]
   simp-implicitDefEqProofs+decide only[go_sem,tW,sW,hw,ofH,hlen,hl2,hw2]
   refine hJ (k+1) _ (by omega) (by omega) (Wk.rows _ _ (fun _ _=>rfl) rfl rfl ?_ (fun l hp=>by cases l<;>first|rfl|cases hp) ?_ ?_)
   ·simp-implicitDefEqProofs+decide only[go_sem,hr]
   ·simp-implicitDefEqProofs+decide only[go_sem,tW,sW,hw2]
   ·simp-implicitDefEqProofs+decide only[go_sem,tW,sW]
 ·have e:h.take (2*k)=h:=List.take_of_length_le (by omega)
  have htk:List.take k ((wholeL h).map U)=(wholeL h).map U:=List.take_of_length_le (by simp[wholeL_len];omega)
  simp-implicitDefEqProofs+decide only[go_sem,tW,sW,ofH,e,htk]
  refine CallG.pureAd _ 34 Tryz.call202 ct (by first|rfl|(simp only[go_sem];done)|(simp only[go_sem];rfl)) (by first|rfl|(simp only[go_sem];done)|(simp only[go_sem];rfl)) (fun j size es _=>by cases j<;>rfl) ?_
  apply run_sound 200
  refine Sm ?_
  exact endF.own (lab:=.loc 34 0) (v:=0) (len:=(wordsOf (hv h)).length) (.inr rfl) (by simp-implicitDefEqProofs+decide only[go_sem]) (by simp-implicitDefEqProofs+decide only[go_sem]) (by simp) rfl (fun l hp=>by cases l<;>first|rfl|cases hp) rfl
theorem rSub_ok (a b:List Nat) (ha:WOK a) (hb:WOK b) (hla:a.length<10000000) (hlb:b.length<10000000) (hle:nv b≤nv a):Pure Tryz.prog 207 [sW a,sW b] [.own 1 ((wordsOf (nv a-nv b)).map U)]:=by
 have ca:=rHalves_ok a ha (by omega)
 have cb:=rHalves_ok b hb (by omega)
 obtain⟨a1,a2⟩:=halvesL_spec ha
 obtain⟨b1,b2⟩:=halvesL_spec hb
 have hlx:=sizeW_le (halvesL a)
 have hly:=sizeW_le (halvesL b)
 have hlx2:(trimW (halvesL a)).length=sizeW (halvesL a):=by simp[trimW];omega
 have hly2:(trimW (halvesL b)).length=sizeW (halvesL b):=by simp[trimW];omega
 have ea:=hv_trim (halvesL a)
 have eb:=hv_trim (halvesL b)
 rw[a2]at ea
 rw[b2]at eb
 have hx:=a1.trim
 have hy:=b1.trim
 rw[halvesL_len]at hlx hly
 have hl:(trimW (halvesL b)).length≤(trimW (halvesL a)).length:=trim_len_le hx (by omega)
 generalize trimW (halvesL a)=x at*
 generalize trimW (halvesL b)=y at*
 obtain⟨s1,s2⟩:=subL_ok hx hy (by omega) hl
 obtain⟨_,s3,_⟩:=subL_spec x y 0 hx hy (by omega)
 have cw:=rWhole_ok (subL 0 x y) s1 (by omega)
 rw[s2,ea,eb]at cw
 refine Pure.I Tryz.func207 [4] ?_
 refine SmV ?_
 refine CallG.P _ Tryz.call259 (ca) ?_
 refine SmV ?_
 refine CallG.P _ Tryz.call259 (cb) ?_
 refine SmV ?_
 refine Goes.wk (Wk.nilRow (d:=7) (lab:=.loc 35 0) (size:=1) (by simp-implicitDefEqProofs+decide only[go_sem]) (by simp-implicitDefEqProofs+decide only[go_sem]) rfl (by decide)) ?_
 refine Goes.loop (X:=Nat) (fun n=>⟨ofL [(5,tW x),(6,tW y),(7,.sl (.loc 35 0) n 0 n),(8,.t (.int .u64 (subC 0 (x.take n) y:Nat))),(16,.t (.int .i64 x.length)),(17,.t (.int .i64 n))],ofH (fun _=>none) [(.loc 35 0,.arr 1 ((subL 0 (x.take n) y).map U) n 0)],0⟩) (fun n=>n≤x.length) (fun n=>x.length-n) 0 ?_ (Nat.zero_le _) ?_
 ·refine Wk.rows _ _ (fun _ _=>rfl) rfl rfl ?_ (fun l hp=>by cases l<;>first|rfl|cases hp) ?_ ?_
  ·simp-implicitDefEqProofs+decide only[go_sem,List.take_zero,subL,List.map_nil]
  ·simp-implicitDefEqProofs+decide only[go_sem,tW,sW,List.take_zero,subC]<;>rfl
  ·simp-implicitDefEqProofs+decide only[go_sem,tW,sW]
 rintro n hn J hJ
 apply run_sound 200
 refine SmW ?_
 apply selP_dec<;>intro hc
 ·obtain⟨z,hz⟩:=getI (show n<x.length by omega)
  have hzl:=hx z (List.mem_of_getElem? hz)
  have hyl:y.getD n 0<4294967296:=by
   rw[List.getD_eq_getElem?_getD]
   cases e:y[n]? with
   |none=>decide
   |some u=>exact hy u (List.mem_of_getElem? e)
  have hcl:=subC_le (x.take n) y 0 (by omega)
  have hw:=wS (show n<1000000000000 by omega)
  have hlen:n+1<big:=by unfold big;omega
  have hln:(x.take n).length=n:=by simp;omega
  obtain⟨e1,e2⟩:=subC_snoc (x.take n) y 0 z
  rw[←take_snoc hz,hln]at e1 e2
  obtain⟨c,hcc⟩:∃c,subC 0 (x.take n) y=c:=⟨_,rfl⟩
  obtain⟨v,hvv⟩:∃v,y.getD n 0=v:=⟨_,rfl⟩
  have cat:=rAt_ok y n
  rw[hvv]at cat hyl
  rw[hcc]at hcl
  rw[hcc,hvv]at e1 e2
  obtain⟨d,hd⟩:∃d,4294967296+z-v-c=d:=⟨_,rfl⟩
  rw[hd]at e1 e2
  have w1:IntKind.wrap .u64 ((4294967296:Int)+z)=((4294967296+z:Nat):Int):=by rw[u64];omega
  have w2:IntKind.wrap .u64 (((4294967296+z:Nat):Int)-v)=((4294967296+z-v:Nat):Int):=by rw[u64];omega
  have w3:IntKind.wrap .u64 (((4294967296+z-v:Nat):Int)-c)=(d:Int):=by rw[u64];omega
  have w4:IntKind.wrap .u64 ((1:Int)-((d/4294967296:Nat):Int))=((1-d/4294967296:Nat):Int):=by rw[u64];omega
  have hr:(subL 0 (x.take (n+1)) y).map U=(subL 0 (x.take n) y).map U++[T.int .u64 (d%4294967296:Nat)]:=by rw[e2];simp[U]
  have hl2:(subL 0 (x.take n) y).length=n:=by rw[(subL_spec (x.take n) y 0 (fun q hq=>hx q (List.mem_of_mem_take hq)) hy (by omega)).2.1];exact hln
  simp-implicitDefEqProofs+decide only[go_sem,tW,sW,hz,hcc]
  refine Goes.drawN mixed ?_
  simp-implicitDefEqProofs+decide only[go_sem,tW,sW,hz,hcc,w1]
  refine CallD.P _ Tryz.call261 cat ?_
  simp-implicitDefEqProofs+decide only[go_sem,w2,w3]
  refine⟨.mk (by kernel_rfl),?_⟩
  apply run_sound 200
  simp-implicitDefEqProofs+decide only[go_sem,ofH,hlen,hl2,w4,hw]
  refine hJ (n+1) _ (by omega) (by omega) (Wk.rows _ _ (fun _ _=>rfl) rfl rfl ?_ (fun l hp=>by cases l<;>first|rfl|cases hp) ?_ ?_)
  ·simp-implicitDefEqProofs+decide only[go_sem,hr]
  ·simp-implicitDefEqProofs+decide only[go_sem,tW,sW,hw,e1,w4]
  ·simp-implicitDefEqProofs+decide only[go_sem,tW,sW]
 ·have:n=x.length:=by omega
  subst this
  have htk:List.take x.length ((subL 0 x y).map U)=(subL 0 x y).map U:=List.take_of_length_le (by simp;omega)
  simp-implicitDefEqProofs+decide only[go_sem,tW,sW,ofH,List.take_length,htk]
  refine CallG.pureAd _ 41 Tryz.call260 cw (by first|rfl|(simp only[go_sem];done)|(simp only[go_sem];rfl)) (by first|rfl|(simp only[go_sem];done)|(simp only[go_sem];rfl)) (fun j size es _=>by cases j<;>rfl) ?_
  apply run_sound 200
  refine Sm ?_
  exact endF.own (lab:=.loc 41 0) (v:=0) (len:=(wordsOf (nv a-nv b)).length) (.inr rfl) (by simp-implicitDefEqProofs+decide only[go_sem]) (by simp-implicitDefEqProofs+decide only[go_sem]) (by simp) rfl (fun l hp=>by cases l<;>first|rfl|cases hp) rfl
theorem nv_div_pow {a:List Nat} (ha:WOK a) (w:Nat):nv a/18446744073709551616^w=nv (a.drop w):=by
 rcases Nat.lt_or_ge a.length w with h|h
 ·rw[List.drop_of_length_le (by omega),nv]
  exact Nat.div_eq_of_lt (Nat.lt_of_lt_of_le (nv_lt ha) (Nat.pow_le_pow_right (by decide) (by omega)))
 ·have h2:=nv_lt (ha.take w)
  rw[List.length_take,Nat.min_eq_left h]at h2
  rw[nv_split h,Nat.add_mul_div_left _ _ (Nat.pow_pos (by decide)),Nat.div_eq_of_lt h2,Nat.zero_add]
theorem set_mid {l m:List Nat} {i x:Nat} (hl:i<l.length) (hm:m.length=l.length) (hx:m[i]?=some x):(m.take i++l.drop i).set i x=m.take (i+1)++l.drop (i+1):=by
 obtain⟨y,hy⟩:=getI hl
 rw[dropC hy,take_snoc hx,List.set_append_right _ _ (by simp;omega)]
 simp[hm];rw[Nat.min_eq_left (by omega),Nat.sub_self];simp
theorem get_mid {l m:List Nat} {i j:Nat} (hm:m.length=l.length) (hij:i≤j) (hj:j<l.length):(m.take i++l.drop i)[j]?=l[j]?:=by
 rw[List.getElem?_append_right (by simp;omega)]
 simp[hm];rw[Nat.min_eq_left (by omega)];congr 1;omega
def midL (m l:List Nat) (i:Nat):List Nat:=m.take i++l.drop i
theorem mid_set {l m:List Nat} {i x:Nat} (hl:i<l.length) (hm:m.length=l.length) (hx:m[i]?=some x):(midL m l i).set i x=midL m l (i+1):=set_mid hl hm hx
theorem mid_get {l m:List Nat} {i j:Nat} (hm:m.length=l.length) (hij:i≤j) (hj:j<l.length):(midL m l i)[j]?=l[j]?:=get_mid hm hij hj
theorem mid_zero (m l:List Nat):midL m l 0=l:=rfl
theorem mid_full (m l:List Nat) (hm:m.length=l.length):midL m l l.length=m:=by simp[midL,←hm]
theorem mid_len (m l:List Nat) (i:Nat) (hm:m.length=l.length) (hi:i≤l.length):(midL m l i).length=l.length:=by simp[midL];omega
theorem rShr_ok (a:List Nat) (n:Nat) (ha:WOK a) (hla:a.length<100000000) (hn:n<4000000000000000000):Pure Tryz.prog 203 [sW a,.int .i64 n] [.own 1 ((wordsOf (nv a/2^n)).map U)]:=by
 obtain⟨w,b,hwb,hb⟩:∃w b,n=64*w+b∧b≤63:=⟨n/64,n%64,by omega,by omega⟩
 have hpow:2^n=18446744073709551616^w*2^b:=by rw[hwb,Nat.pow_add,Nat.pow_mul]
 have f2:IntKind.wrap .i64 (Int.tdiv (n:Int) 64)=w:=by rw[show(64:Int)=((64:Nat):Int) from rfl,←Int.ofNat_tdiv,w64]<;>omega
 have f3:Int.tmod (n:Int) 64=b:=by rw[show(64:Int)=((64:Nat):Int) from rfl,←Int.ofNat_tmod];omega
 have hdiv:nv a/2^n=nv (a.drop w)/2^b:=by rw[hpow,←Nat.div_div_eq_div_mul,nv_div_pow ha]
 rw[hdiv]
 have f1:(if (n:Int)<0 then (0:Int) else n)=n:=if_neg (by omega)
 have hdl:(a.drop w).length=a.length-w:=by simp
 refine Pure.I Tryz.func203 [4] ?_
 simp-implicitDefEqProofs+decide only[go_sem,sW,f1,f2,f3]
 refine Goes.wk (Wk.nilRow (d:=5) (lab:=.loc 25 0) (size:=1) (by simp-implicitDefEqProofs+decide only[go_sem]) (by simp-implicitDefEqProofs+decide only[go_sem]) rfl (by decide)) ?_
 refine Goes.loop (X:=Nat) (fun k=>⟨ofL [(0,tW a),(1,.t (.int .i64 n)),(5,.sl (.loc 25 0) k 0 k),(6,.t (.int .i64 (w+k:Nat)))],ofH (fun _=>none) [(.loc 25 0,.arr 1 (((a.drop w).take k).map U) k 0)],0⟩) (fun k=>k≤a.length-w) (fun k=>a.length-k) 0 ?_ (Nat.zero_le _) ?_
 ·refine Wk.rows _ _ (fun _ _=>rfl) rfl rfl ?_ (fun l hp=>by cases l<;>first|rfl|cases hp) ?_ ?_
  ·simp-implicitDefEqProofs+decide only[go_sem,List.take_zero,List.map_nil]
  ·simp-implicitDefEqProofs+decide only[go_sem,tW,sW,Nat.add_zero]
  ·simp-implicitDefEqProofs+decide only[go_sem,tW,sW]
 rintro k hk J hJ
 apply run_sound 200
 refine SmW ?_
 apply selP_dec<;>intro hc
 ·obtain⟨x,hx⟩:=getI (show w+k<a.length by omega)
  have hw:=wS (show w+k<1000000000000 by omega)
  have hlen:k+1<big:=by unfold big;omega
  have hx2:(a.drop w)[k]?=some x:=by rw[List.getElem?_drop];exact hx
  have hl2:((a.drop w).take k).length=k:=by simp;omega
  have hr:((a.drop w).take (k+1)).map U=((a.drop w).take k).map U++[T.int .u64 (x:Nat)]:=by rw[take_snoc hx2];simp[U]
  simp-implicitDefEqProofs+decide only[go_sem,tW,sW,hw,hx,ofH,hlen,hl2]
  refine hJ (k+1) _ (by omega) (by omega) (Wk.rows _ _ (fun _ _=>rfl) rfl rfl ?_ (fun l hp=>by cases l<;>first|rfl|cases hp) ?_ ?_)
  ·simp-implicitDefEqProofs+decide only[go_sem,hr]
  ·simp-implicitDefEqProofs+decide only[go_sem,tW,sW,hw,Nat.add_assoc]
  ·simp-implicitDefEqProofs+decide only[go_sem,tW,sW]
 have hkl:k=(a.drop w).length:=by omega
 have hkd:WOK (a.drop w):=ha.drop w
 generalize a.drop w=l at*
 subst hkl
 simp-implicitDefEqProofs+decide only[go_sem,tW,sW,ofH,f3,List.take_length]
 apply selP_dec<;>intro hb0
 ·have ct:=rTrim_ok l (by omega)
  rw[trimW_eq hkd]at ct
  have:b=0:=by omega
  subst this
  have htk:List.take l.length (l.map U)=l.map U:=List.take_of_length_le (by simp)
  rw[Nat.pow_zero,Nat.div_one]
  simp-implicitDefEqProofs+decide only[go_sem,htk]
  refine CallG.pureAd _ 30 Tryz.call202 ct (by first|rfl|(simp only[go_sem];done)|(simp only[go_sem];rfl)) (by first|rfl|(simp only[go_sem];done)|(simp only[go_sem];rfl)) (fun j size es _=>by cases j<;>rfl) ?_
  apply run_sound 200
  refine Sm ?_
  exact endF.own (lab:=.loc 30 0) (v:=0) (len:=(wordsOf (nv l)).length) (.inr rfl) (by simp-implicitDefEqProofs+decide only[go_sem]) (by simp-implicitDefEqProofs+decide only[go_sem]) (by simp) rfl (fun l hp=>by cases l<;>first|rfl|cases hp) rfl
 obtain⟨o1,o2⟩:=shrL_spec (by omega) hb l hkd
 have hsl:=shrL_length b l
 have f4:IntKind.wrap .u64 (b:Int)=b:=by rw[u64];omega
 simp-implicitDefEqProofs+decide only[go_sem,f3,f4]
 refine Goes.loop (X:=Nat) (fun k=>⟨ofL [(5,.sl (.loc 25 0) l.length 0 l.length),(7,.t (.int .u64 b)),(35,.t (.int .i64 l.length)),(36,.t (.int .i64 k))],ofH (fun _=>none) [(.loc 25 0,.arr 1 ((midL (shrL b l) l k).map U) l.length 0)],0⟩) (fun k=>k≤l.length) (fun k=>l.length-k) 0 ?_ (Nat.zero_le _) ?_
 ·refine Wk.rows _ _ (fun _ _=>rfl) rfl rfl ?_ (fun l hp=>by cases l<;>first|rfl|cases hp) ?_ ?_
  ·simp-implicitDefEqProofs+decide only[go_sem,mid_zero]
  ·simp-implicitDefEqProofs+decide only[go_sem,tW,sW]<;>rfl
  ·simp-implicitDefEqProofs+decide only[go_sem,tW,sW]
 rintro k hk J hJ
 apply run_sound 200
 simp-implicitDefEqProofs+decide only[go_sem,ofH,tW,sW]
 apply selP_dec<;>intro hc
 ·obtain⟨x,hx⟩:=getI hc
  have hxl:=hkd.get hx
  have hw:=wS (show k<1000000000000 by omega)
  have g1:=ushrN x b (by omega)
  have hget:(midL (shrL b l) l k)[k]?=some x:=by rw[mid_get hsl (Nat.le_refl _) hc];exact hx
  have hml:=mid_len (shrL b l) l k hsl hk
  have hr:=shrL_get b l k x hx
  obtain⟨q1,q2,q3⟩:=shr_word (x:=x) (y:=l.getD (k+1) 0) (s:=b) (by omega) hb hxl
  obtain⟨m',hm'⟩:∃m',m'=(midL (shrL b l) l k).set k (x/2^b):=⟨_,rfl⟩
  have hs:=setU (midL (shrL b l) l k) k (x/2^b)
  rw[←hm']at hs
  have hg1:m'[k]?=some (x/2^b):=by rw[hm',List.getElem?_set_self (by omega)]
  simp-implicitDefEqProofs+decide only[go_sem,hw,hget,g1,hc,hs]
  apply selP_dec<;>intro h1
  ·have hc1:k+1<l.length:=by omega
   obtain⟨y,hy⟩:=getI hc1
   have e1:l.getD (k+1) 0=y:=by rw[List.getD_eq_getElem?_getD,hy];rfl
   rw[e1]at hr q2 q3
   have hg2:m'[k+1]?=some y:=by rw[hm',List.getElem?_set_ne (by omega),mid_get hsl (by omega) hc1];exact hy
   have w1:IntKind.wrap .u64 ((64:Int)-b)=((64-b:Nat):Int):=by rw[u64];omega
   have g2:=ushlN y (64-b) (by omega)
   have g3:=uorM (x/2^b) (y*2^(64-b)%18446744073709551616) (by omega) (Nat.mod_lt _ (by decide))
   have ov:x/2^b|||(y*2^(64-b)%18446744073709551616)=x/2^b+y*2^(64-b)%18446744073709551616:=by
    rw[q2,Nat.or_comm,or_add _ _ _ q1,Nat.add_comm]
   rw[ov]at g3
   obtain⟨z,hz⟩:∃z,x/2^b+y*2^(64-b)%18446744073709551616=z:=⟨_,rfl⟩
   rw[hz]at g3 hr
   have hs2:(m'.map U).set k (T.int .u64 z)=(midL (shrL b l) l (k+1)).map U:=by
    rw[setU,hm',List.set_set,mid_set hc hsl hr]
   simp-implicitDefEqProofs+decide only[go_sem,hw,hg1,hg2]
   refine Goes.drawN mixed ?_
   simp-implicitDefEqProofs+decide only[go_sem,hw,hg1,hg2,hc,hc1,w1,g2,g3,hs2]
   refine⟨.mk (by kernel_rfl),?_⟩
   apply run_sound 200
   simp-implicitDefEqProofs+decide only[go_sem,hw]
   refine hJ (k+1) _ (by omega) (by omega) (Wk.rows _ _ (fun _ _=>rfl) rfl rfl ?_ (fun l hp=>by cases l<;>first|rfl|cases hp) ?_ ?_)
   ·simp-implicitDefEqProofs+decide only[go_sem]
   ·simp-implicitDefEqProofs+decide only[go_sem,tW,sW,hw]
   ·simp-implicitDefEqProofs+decide only[go_sem,tW,sW]
  ·have e1:l.getD (k+1) 0=0:=by rw[List.getD_eq_getElem?_getD,List.getElem?_eq_none (by omega)];rfl
   rw[e1,Nat.zero_mul,Nat.zero_mod,Nat.add_zero]at hr
   rw[mid_set hc hsl hr]at hm'
   subst hm'
   simp-implicitDefEqProofs+decide only[go_sem,hw]
   refine hJ (k+1) _ (by omega) (by omega) (Wk.rows _ _ (fun _ _=>rfl) rfl rfl ?_ (fun l hp=>by cases l<;>first|rfl|cases hp) ?_ ?_)
   ·simp-implicitDefEqProofs+decide only[go_sem]
   ·simp-implicitDefEqProofs+decide only[go_sem,tW,sW,hw]
   ·simp-implicitDefEqProofs+decide only[go_sem,tW,sW]
 ·have:k=l.length:=by omega
  subst this
  have ct:=rTrim_ok (shrL b l) (by omega)
  rw[trimW_eq o1,o2]at ct
  have e1:=mid_full (shrL b l) l hsl
  have htk:List.take l.length ((shrL b l).map U)=(shrL b l).map U:=List.take_of_length_le (by simp;omega)
  simp-implicitDefEqProofs+decide only[go_sem,e1,htk]
  refine CallG.pureAd _ 71 Tryz.call202 ct (by first|rfl|(simp only[go_sem];done)|(simp only[go_sem];rfl)) (by first|rfl|(simp only[go_sem];done)|(simp only[go_sem];rfl)) (fun j size es _=>by cases j<;>rfl) ?_
  apply run_sound 200
  refine Sm ?_
  exact endF.own (lab:=.loc 71 0) (v:=0) (len:=(wordsOf (nv l/2^b)).length) (.inr rfl) (by simp-implicitDefEqProofs+decide only[go_sem]) (by simp-implicitDefEqProofs+decide only[go_sem]) (by simp) rfl (fun l hp=>by cases l<;>first|rfl|cases hp) rfl
theorem mid_setD {l m:List Nat} {i x:Nat} (hl:i<l.length) (hm:m.length=l.length) (hx:m[i]?=some x):(midL l m (i+1)).set i x=midL l m i:=by
 obtain⟨y,hy⟩:=getI hl
 unfold midL
 rw[take_snoc hy,dropC hx,List.append_assoc,List.set_append_right _ _ (by simp;omega)]
 simp;rw[Nat.min_eq_left (by omega),Nat.sub_self];simp
theorem mid_getD {l m:List Nat} {i j:Nat} (hj:j<i) (hi:i≤l.length):(midL l m i)[j]?=l[j]?:=by
 unfold midL
 rw[List.getElem?_append_left (by simp;omega),List.getElem?_take_of_lt hj]
def zpad (k:Nat) (l:List Nat):List Nat:=List.replicate k 0++l
theorem rShlZ_ok (a:List Nat) (z:Int) (n:Nat) (hz:(if z<0 then (0:Int) else z)=n) (ha:WOK a) (hla:a.length<100000000) (hn:n≤65536):Pure Tryz.prog 143 [sW a,.int .i64 z] [.own 1 ((wordsOf (nv a*2^n)).map U)]:=by
 obtain⟨w,b,hwb,hb⟩:∃w b,n=64*w+b∧b≤63:=⟨n/64,n%64,by omega,by omega⟩
 have hpow:2^n=18446744073709551616^w*2^b:=by rw[hwb,Nat.pow_add,Nat.pow_mul]
 have f2:IntKind.wrap .i64 (Int.tdiv (n:Int) 64)=w:=by rw[show(64:Int)=((64:Nat):Int) from rfl,←Int.ofNat_tdiv,w64]<;>omega
 have f3:Int.tmod (n:Int) 64=b:=by rw[show(64:Int)=((64:Nat):Int) from rfl,←Int.ofNat_tmod];omega
 have f1:=hz
 have f0:(if (65536:Int)<n then (65536:Int) else n)=n:=if_neg (by omega)
 refine Pure.I Tryz.func143 [4] ?_
 simp-implicitDefEqProofs+decide only[go_sem,sW,f1,f0,f2,f3]
 refine Goes.wk (Wk.nilRow (d:=5) (lab:=.loc 18 0) (size:=1) (by simp-implicitDefEqProofs+decide only[go_sem]) (by simp-implicitDefEqProofs+decide only[go_sem]) rfl (by decide)) ?_
 refine Goes.loop (X:=Nat) (fun k=>⟨ofL [(0,tW a),(1,.t (.int .i64 n)),(5,.sl (.loc 18 0) k 0 k),(13,.t (.int .i64 w)),(14,.t (.int .i64 k))],ofH (fun _=>none) [(.loc 18 0,.arr 1 ((List.replicate k 0).map U) k 0)],0⟩) (fun k=>k≤w) (fun k=>w-k) 0 ?_ (Nat.zero_le _) ?_
 ·refine Wk.rows _ _ (fun _ _=>rfl) rfl rfl ?_ (fun l hp=>by cases l<;>first|rfl|cases hp) ?_ ?_
  ·simp-implicitDefEqProofs+decide only[go_sem,List.replicate_zero,List.map_nil]
  ·simp-implicitDefEqProofs+decide only[go_sem,tW,sW]<;>rfl
  ·simp-implicitDefEqProofs+decide only[go_sem,tW,sW]
 rintro k hk J hJ
 apply run_sound 200
 refine SmW ?_
 apply selP_dec<;>intro hc
 ·have hw:=wS (show k<1000000000000 by omega)
  have hlen:k+1<big:=by unfold big;omega
  have hr:(List.replicate (k+1) 0).map U=(List.replicate k 0).map U++[T.int .u64 0]:=by rw[List.replicate_succ'];simp[U]
  simp-implicitDefEqProofs+decide only[go_sem,tW,sW,hw,ofH,hlen,List.length_replicate]
  refine hJ (k+1) _ (by omega) (by omega) (Wk.rows _ _ (fun _ _=>rfl) rfl rfl ?_ (fun l hp=>by cases l<;>first|rfl|cases hp) ?_ ?_)
  ·simp-implicitDefEqProofs+decide only[go_sem,hr]
  ·simp-implicitDefEqProofs+decide only[go_sem,tW,sW,hw]
  ·simp-implicitDefEqProofs+decide only[go_sem,tW,sW]
 have:k=w:=by omega
 subst this
 simp-implicitDefEqProofs+decide only[go_sem,tW,sW,ofH]
 refine Goes.loop (X:=Nat) (fun i=>⟨ofL [(0,tW a),(1,.t (.int .i64 n)),(5,.sl (.loc 18 0) (k+i) 0 (k+i)),(21,.t (.int .i64 a.length)),(22,.t (.int .i64 i))],ofH (fun _=>none) [(.loc 18 0,.arr 1 ((zpad k (a.take i)).map U) (k+i) 0)],0⟩) (fun i=>i≤a.length) (fun i=>a.length-i) 0 ?_ (Nat.zero_le _) ?_
 ·refine Wk.rows _ _ (fun _ _=>rfl) rfl rfl ?_ (fun l hp=>by cases l<;>first|rfl|cases hp) ?_ ?_
  ·simp-implicitDefEqProofs+decide only[go_sem,List.take_zero,zpad,List.append_nil,Nat.add_zero]
  ·simp-implicitDefEqProofs+decide only[go_sem,tW,sW,Nat.add_zero]<;>rfl
  ·simp-implicitDefEqProofs+decide only[go_sem,tW,sW]
 rintro i hi J hJ
 apply run_sound 200
 refine SmW ?_
 apply selP_dec<;>intro hc
 ·obtain⟨x,hx⟩:=getI (show i<a.length by omega)
  have hw:=wS (show i<1000000000000 by omega)
  have hlen:k+i+1<big:=by unfold big;omega
  have hl2:(zpad k (a.take i)).length=k+i:=by simp[zpad];omega
  have hr:(zpad k (a.take (i+1))).map U=(zpad k (a.take i)).map U++[T.int .u64 (x:Nat)]:=by rw[take_snoc hx];simp[U,zpad]
  simp-implicitDefEqProofs+decide only[go_sem,tW,sW,hw,hx,ofH,hlen,hl2]
  refine hJ (i+1) _ (by omega) (by omega) (Wk.rows _ _ (fun _ _=>rfl) rfl rfl ?_ (fun l hp=>by cases l<;>first|rfl|cases hp) ?_ ?_)
  ·simp-implicitDefEqProofs+decide only[go_sem,hr,Nat.add_assoc]
  ·simp-implicitDefEqProofs+decide only[go_sem,tW,sW,hw,Nat.add_assoc]
  ·simp-implicitDefEqProofs+decide only[go_sem,tW,sW]
 have hil:i=a.length:=by omega
 subst hil
 simp-implicitDefEqProofs+decide only[go_sem,tW,sW,ofH,f3,List.take_length]
 obtain⟨l,hl⟩:∃l,l=zpad k a:=⟨_,rfl⟩
 have hkl:WOK l:=by rw[hl];exact(WOK.repl _).append ha
 have hll:l.length=k+a.length:=by rw[hl];simp[zpad]
 have hvl:nv l=18446744073709551616^k*nv a:=by rw[hl,zpad,nv_append,nv_repl];simp
 have hres:nv a*2^n=nv l*2^b:=by rw[hpow,hvl];ac_rfl
 rw[hres,←hl,←hll]
 clear hres hvl
 apply selP_dec<;>intro hb0
 ·have ct:=rTrim_ok l (by omega)
  rw[trimW_eq hkl]at ct
  have:b=0:=by omega
  subst this
  have htk:List.take l.length (l.map U)=l.map U:=List.take_of_length_le (by simp)
  rw[Nat.pow_zero,Nat.mul_one]
  simp-implicitDefEqProofs+decide only[go_sem,htk]
  refine CallG.pureAd _ 37 Tryz.call202 ct (by first|rfl|(simp only[go_sem];done)|(simp only[go_sem];rfl)) (by first|rfl|(simp only[go_sem];done)|(simp only[go_sem];rfl)) (fun j size es _=>by cases j<;>rfl) ?_
  apply run_sound 200
  refine Sm ?_
  exact endF.own (lab:=.loc 37 0) (v:=0) (len:=(wordsOf (nv l)).length) (.inr rfl) (by simp-implicitDefEqProofs+decide only[go_sem]) (by simp-implicitDefEqProofs+decide only[go_sem]) (by simp) rfl (fun l hp=>by cases l<;>first|rfl|cases hp) rfl
 obtain⟨o1,o2⟩:=shlL_zero hb l hkl
 have f4:IntKind.wrap .u64 (b:Int)=b:=by rw[u64];omega
 have hlen:l.length+1<big:=by unfold big;omega
 obtain⟨L,hL⟩:∃L,L=l++[0]:=⟨_,rfl⟩
 have hLl:L.length=l.length+1:=by rw[hL];simp
 have hLk:WOK L:=by rw[hL];exact hkl.append (fun x hx=>by rw[List.mem_singleton.1 hx];decide)
 have hLm:l.map U++[T.int .u64 0]=L.map U:=by rw[hL];simp[U]
 rw[←hL]at o1 o2
 obtain⟨m,hm⟩:∃m,m=shlL b 0 L:=⟨_,rfl⟩
 have hml:m.length=L.length:=by rw[hm,shlL_length]
 have hget:∀i x,L[i]?=some x→m[i]?=some (x*2^b%18446744073709551616+(if i=0 then 0 else (L.getD (i-1) 0)/2^(64-b))):=fun i x hx=>by rw[hm];exact shlL_get b L 0 i x hx
 rw[←hm]at o1 o2
 have w1:IntKind.wrap .i64 (((l.length+1:Nat):Int)-1)=(l.length:Int):=by rw[w64]<;>omega
 simp-implicitDefEqProofs+decide only[go_sem,f3,f4,hlen,hLm,List.length_map,w1]
 refine Goes.loop (X:=Nat) (fun i=>⟨ofL [(5,.sl (.loc 18 0) L.length 0 L.length),(7,.t (.int .u64 b)),(8,.t (.int .i64 i))],ofH (fun _=>none) [(.loc 18 0,.arr 1 ((midL L m (i+1)).map U) L.length 0)],0⟩) (fun i=>i<L.length) (fun i=>i) l.length ?_ (by omega) ?_
 ·have e:midL L m (l.length+1)=L:=by unfold midL;rw[←hLl,List.take_length,List.drop_of_length_le (by omega),List.append_nil]
  refine Wk.rows _ _ (fun _ _=>rfl) rfl rfl ?_ (fun l hp=>by cases l<;>first|rfl|cases hp) ?_ ?_
  ·simp-implicitDefEqProofs+decide only[go_sem,e,hLl]
  ·simp-implicitDefEqProofs+decide only[go_sem,tW,sW,hLl,w1]
  ·simp-implicitDefEqProofs+decide only[go_sem,tW,sW]
 rintro i hi J hJ
 obtain⟨x,hx⟩:=getI hi
 have hxl:=hLk.get hx
 have g1:=ushlN x b (by omega)
 have hgx:(midL L m (i+1))[i]?=some x:=by rw[mid_getD (by omega) (by omega)];exact hx
 have hmi:=hget i x hx
 have hmids:=mid_len m L (i+1)
 apply run_sound 200
 simp-implicitDefEqProofs+decide only[go_sem,ofH,tW,sW]
 apply selP_dec<;>intro hc
 ·obtain⟨j,rfl⟩:∃j,i=j+1:=⟨i-1,by omega⟩
  obtain⟨y,hy⟩:=getI (show j<L.length by omega)
  have hyl:=hLk.get hy
  have hgy:(midL L m (j+1+1))[j]?=some y:=by rw[mid_getD (by omega) (by omega)];exact hy
  have e1:L.getD j 0=y:=by rw[List.getD_eq_getElem?_getD,hy];rfl
  rw[if_neg (by omega),Nat.add_sub_cancel,e1]at hmi
  have w2:IntKind.wrap .i64 (((j+1:Nat):Int)-1)=(j:Int):=by rw[w64]<;>omega
  have w3:IntKind.wrap .u64 ((64:Int)-b)=((64-b:Nat):Int):=by rw[u64];omega
  have g2:=ushrN y (64-b) (by omega)
  obtain⟨q1,_,_,_,q5⟩:=shl_word x b hb hxl
  obtain⟨_,_,r3,_,_⟩:=shl_word y b hb hyl
  have g3:=uorM (x*2^b%18446744073709551616) (y/2^(64-b)) (Nat.mod_lt _ (by decide)) (by have:=Nat.pow_le_pow_right (n:=2) (by decide) (show b≤64 by omega);omega)
  have ov:x*2^b%18446744073709551616|||(y/2^(64-b))=x*2^b%18446744073709551616+y/2^(64-b):=by rw[q1,or_add _ _ _ r3]
  rw[ov]at g3
  obtain⟨z,hz⟩:∃z,x*2^b%18446744073709551616+y/2^(64-b)=z:=⟨_,rfl⟩
  rw[hz]at g3 hmi
  have hs2:((midL L m (j+1+1)).map U).set (j+1) (T.int .u64 z)=(midL L m (j+1)).map U:=by
   rw[setU,mid_setD hi hml hmi]
  have hj:j<L.length:=by omega
  refine Sm ?_
  refine Goes.drawN mixed ?_
  simp-implicitDefEqProofs+decide only[go_sem,hgx,hgy,hi,hj,w2,w3,g1,g2,g3,hs2]
  refine⟨.mk (by kernel_rfl),?_⟩
  apply run_sound 200
  simp-implicitDefEqProofs+decide only[go_sem,w2]
  refine hJ j _ (by omega) (by omega) (Wk.rows _ _ (fun _ _=>rfl) rfl rfl ?_ (fun l hp=>by cases l<;>first|rfl|cases hp) ?_ ?_)
  ·simp-implicitDefEqProofs+decide only[go_sem]
  ·simp-implicitDefEqProofs+decide only[go_sem,tW,sW,w2]
  ·simp-implicitDefEqProofs+decide only[go_sem,tW,sW]
 ·have:i=0:=by omega
  subst this
  rw[if_pos rfl,Nat.add_zero]at hmi
  have hs2:((midL L m (0+1)).map U).set 0 (T.int .u64 (x*2^b%18446744073709551616:Nat))=m.map U:=by
   rw[setU,mid_setD hi hml hmi];rfl
  have ct:=rTrim_ok m (by omega)
  rw[trimW_eq o1,o2]at ct
  have htk:List.take L.length (m.map U)=m.map U:=List.take_of_length_le (by simp;omega)
  rw[Nat.zero_add]at hgx hs2⊢
  have hi0:((0:Int)<(L.length:Int))=True:=eq_true (by omega)
  simp-implicitDefEqProofs+decide only[go_sem,hgx,hi,hi0,g1,hs2,htk]
  refine CallG.pureAd _ 77 Tryz.call202 ct (by first|rfl|(simp only[go_sem];done)|(simp only[go_sem];rfl)) (by first|rfl|(simp only[go_sem];done)|(simp only[go_sem];rfl)) (fun j size es _=>by cases j<;>rfl) ?_
  apply run_sound 200
  refine Sm ?_
  exact endF.own (lab:=.loc 77 0) (v:=0) (len:=(wordsOf (nv l*2^b)).length) (.inr rfl) (by simp-implicitDefEqProofs+decide only[go_sem]) (by simp-implicitDefEqProofs+decide only[go_sem]) (by simp) rfl (fun l hp=>by cases l<;>first|rfl|cases hp) rfl
theorem rShl_ok (a:List Nat) (n:Nat) (ha:WOK a) (hla:a.length<100000000) (hn:n≤65536):Pure Tryz.prog 143 [sW a,.int .i64 n] [.own 1 ((wordsOf (nv a*2^n)).map U)]:=
 rShlZ_ok a n n (if_neg (by omega)) ha hla hn
theorem tz_nv {a:List Nat} {m:Nat} (ha:WOK a) (hl:a.length≤m) (na:nv a≠0):tz (nv a)<64*m:=
 tz_le na (by rw[Nat.pow_mul];exact Nat.lt_of_lt_of_le (nv_lt ha) (Nat.pow_le_pow_right (by decide) hl))
theorem tz_below {d y m:Nat} (h0:d≠0) (hd:d≤y) (hl:(wordsOf y).length≤m):tz d<64*m:=tz_le h0 (by
  have:=nv_lt (WOK_wordsOf y)
  rw[nv_wordsOf]at this
  have h2:=Nat.pow_le_pow_right (n:=18446744073709551616) (by decide) hl
  rw[Nat.pow_mul]
  show d<18446744073709551616^m
  omega)
theorem wordsOf_small {x:Nat} (h0:x≠0) (h:x<18446744073709551616):wordsOf x=[x]:=by
 rw[wordsOf,dif_neg h0,Nat.div_eq_of_lt h,wordsOf_zero,Nat.mod_eq_of_lt h]
theorem size_one {a:List Nat} (ha:WOK a) (h:sizeW a=1):a[0]?=some (nv a)∧nv a≠0∧nv a<18446744073709551616:=by
 have h1:=sizeW_len ha
 rw[h]at h1
 obtain⟨e1,e2,e3⟩:=wordsOf_one h1.symm
 rw[←trimW_eq ha]at e1
 refine⟨?_,e3,e2⟩
 have:(trimW a)[0]?=some (nv a):=by rw[e1];rfl
 unfold trimW at this
 rwa [h,List.getElem?_take_of_lt (by decide)]at this
theorem rGcd_big (a b:List Nat) (ha:WOK a) (hb:WOK b) (hla:a.length≤100000) (hlb:b.length≤100000) (hz:nv a≠0→nv b≠0→min (tz (nv a)) (tz (nv b))≤65536):
  Pure Tryz.prog 162 [sW a,sW b] [.t (sW (wordsOf (Nat.gcd (nv a) (nv b))))]:=by
 have ca:=rSize_ok a (by omega)
 have cb:=rSize_ok b (by omega)
 have za:=nv_zero a
 have zb:=nv_zero b
 have la:=wordsOf_len_le ha
 have lb:=wordsOf_len_le hb
 refine Pure.I Tryz.func162 [4] ?_
 refine SmV ?_
 refine CallG.P _ Tryz.call161 (ca) ?_
 refine SmV ?_
 apply selP_dec<;>intro h1
 ·have ct:=rTrim_ok b (by omega)
  rw[trimW_eq hb]at ct
  rw[za.1 (by omega),Nat.gcd_zero_left]
  refine SmV ?_
  refine CallG.P _ Tryz.call202 (ct) ?_
  refine SmV ?_
  exact endF.V [(4,sW (wordsOf (nv b)))] (vals_t (by simp-implicitDefEqProofs+decide only[go_sem,sW]<;>rfl) rfl vals_nil)
 refine SmV ?_
 refine CallG.P _ Tryz.call161 (cb) ?_
 refine SmV ?_
 apply selP_dec<;>intro h2
 ·have ct:=rTrim_ok a (by omega)
  rw[trimW_eq ha]at ct
  rw[zb.1 (by omega),Nat.gcd_zero_right]
  refine SmV ?_
  refine CallG.P _ Tryz.call202 (ct) ?_
  refine SmV ?_
  exact endF.V [(4,sW (wordsOf (nv a)))] (vals_t (by simp-implicitDefEqProofs+decide only[go_sem,sW]<;>rfl) rfl vals_nil)
 have na:nv a≠0:=fun e=>by have:=za.2 e;omega
 have nb:nv b≠0:=fun e=>by have:=zb.2 e;omega
 refine SmV ?_
 refine CallG.P _ Tryz.call161 (ca) ?_
 refine SmV ?_
 apply selP_dec<;>intro h3
 ·refine SmV ?_
  refine CallG.P _ Tryz.call161 (cb) ?_
  refine SmV ?_
  apply selP_dec<;>intro h4
  ·have w0:=size_one ha (by omega)
   have w1:=size_one hb (by omega)
   obtain⟨xa,na2,la2⟩:=w0
   obtain⟨xb,nb2,lb2⟩:=w1
   refine SmV ?_
   refine Goes.drawN mixed ?_
   simp-implicitDefEqProofs+decide only[go_sem,sW,xa,xb]
   refine⟨.mk (by kernel_rfl),?_⟩
   apply run_sound 200
   refine Sm ?_
   refine Goes.loop (X:=Nat×Nat) (fun x=>⟨ofL [(5,.t (.int .u64 x.1)),(6,.t (.int .u64 x.2))],fun _=>none,0⟩) (fun x=>x.1<18446744073709551616∧x.2<18446744073709551616∧Nat.gcd x.1 x.2=Nat.gcd (nv a) (nv b)) (fun x=>x.2) (nv a,nv b) ?_ ⟨la2,lb2,rfl⟩ ?_
   ·exact(Wk.slots _ rfl rfl (by simp-implicitDefEqProofs+decide only[go_sem]) (by simp-implicitDefEqProofs+decide only[go_sem]))
   rintro ⟨x,y⟩ ⟨hx,hy,hg⟩ J hJ
   dsimp only at hx hy hg hJ⊢
   apply run_sound 200
   refine Sm ?_
   apply selP_dec<;>intro hc
   ·have hz:((y:Int)=0)=False:=by simp;omega
    have hm:x%y<y:=Nat.mod_lt _ (by omega)
    have hw:Int.tmod (x:Int) (y:Int)=((x%y:Nat):Int):=(Int.ofNat_tmod x y).symm
    have hw2:IntKind.wrap .u64 ((x%y:Nat):Int)=((x%y:Nat):Int):=by rw[u64];omega
    simp-implicitDefEqProofs+decide only[go_sem,hz,hw,hw2]
    refine Goes.drawN mixed ?_
    simp-implicitDefEqProofs+decide only[go_sem,hz,hw,hw2]
    refine⟨.mk (by kernel_rfl),?_⟩
    apply run_sound 200
    refine Sm ?_
    refine hJ (y,x%y) _ ⟨hy,by dsimp only;omega,by dsimp only;rw[←hg,Nat.gcd_comm x y,Nat.gcd_rec y x];exact Nat.gcd_comm _ _⟩ hm (Wk.slots _ rfl rfl (by simp-implicitDefEqProofs+decide only[go_sem]) (by simp-implicitDefEqProofs+decide only[go_sem]))
   ·have:y=0:=by omega
    subst this
    rw[Nat.gcd_zero_right]at hg
    have hg0:x≠0:=fun e=>na2 (Nat.eq_zero_of_gcd_eq_zero_left (hg.symm.trans e))
    have hr:List.map U (wordsOf x)=[T.int .u64 (x:Int)]:=by rw[wordsOf_small hg0 hx];rfl
    rw[←hg,hr]
    refine Sm ?_
    exact endF.whole (lab:=.loc 42 0) (v:=0) (size:=1) (len:=1) (frz:=0) (.inr rfl) (by simp-implicitDefEqProofs+decide only[go_sem]) (by simp-implicitDefEqProofs+decide only[go_sem]) rfl rfl (fun l hp=>by cases l<;>first|rfl|cases hp) rfl
  refine SmV ?_
  have ea:=rEven_ok a ha (by omega) na
  have eb:=rEven_ok b hb (by omega) nb
  have tza:tz (nv a)<64*100000:=tz_nv ha hla na
  have tzb:tz (nv b)<64*100000:=tz_nv hb hlb nb
  have sa:=rShr_ok a (tz (nv a)) ha (by omega) (by omega)
  have sb:=rShr_ok b (tz (nv b)) hb (by omega) (by omega)
  obtain⟨oa,oa1,oa2,oa3⟩:=tz_spec (nv a) na
  obtain⟨ob,ob1,ob2,ob3⟩:=tz_spec (nv b) nb
  have hgh:=gcd_halves (nv a) (nv b) na nb
  have hqa:(wordsOf (nv a/2^tz (nv a))).length≤100000:=by have:=wordsOf_len_mono (Nat.div_le_self (nv a) (2^tz (nv a)));omega
  have hqb:(wordsOf (nv b/2^tz (nv b))).length≤100000:=by have:=wordsOf_len_mono (Nat.div_le_self (nv b) (2^tz (nv b)));omega
  obtain⟨n,hn⟩:∃n,n=min (tz (nv a)) (tz (nv b)):=⟨_,rfl⟩
  have hz2:n≤65536:=hn▸hz na nb
  have hmin:(if (tz (nv b):Int)<tz (nv a) then (tz (nv b):Int) else tz (nv a))=n:=by split<;>omega
  have hmin2:(if (tz (nv a):Int)<tz (nv b) then (tz (nv a):Int) else tz (nv b))=n:=by split<;>omega
  have hmin3:(if tz (nv b)<tz (nv a) then (tz (nv b):Int) else tz (nv a))=n:=by split<;>omega
  have hmin4:(if tz (nv a)<tz (nv b) then (tz (nv a):Int) else tz (nv b))=n:=by split<;>omega
  refine CallG.P _ Tryz.call213 (ea) ?_
  refine SmV ?_
  refine CallG.P _ Tryz.call213 (eb) ?_
  simp-implicitDefEqProofs+decide only[go_sem,sW,hmin,hmin2,hmin3,hmin4]
  refine CallG.P _ Tryz.call213 (ea) ?_
  refine SmV ?_
  refine CallG.P _ Tryz.call203 (sa) ?_
  refine SmV ?_
  refine CallG.P _ Tryz.call213 (eb) ?_
  refine SmV ?_
  refine CallG.P _ Tryz.call203 (sb) ?_
  refine SmV ?_
  rw[←hn]at hgh
  rw[hgh]
  refine Goes.loop (X:=Nat×Nat) (fun x=>⟨ofL [(7,.t (.int .i64 n)),(8,tW (wordsOf x.1)),(9,tW (wordsOf x.2))],fun _=>none,0⟩) (fun x=>x.1%2=1∧x.2%2=1∧(wordsOf x.1).length≤100000∧(wordsOf x.2).length≤100000∧Nat.gcd x.1 x.2=Nat.gcd (nv a/2^tz (nv a)) (nv b/2^tz (nv b))) (fun x=>x.1+x.2) (nv a/2^tz (nv a),nv b/2^tz (nv b)) ?_ ⟨by rw[oa3];exact oa1,by rw[ob3];exact ob1,hqa,hqb,rfl⟩ ?_
  ·exact(Wk.slots _ rfl rfl (by simp-implicitDefEqProofs+decide only[go_sem,tW,sW]) (by simp-implicitDefEqProofs+decide only[go_sem,tW,sW]))
  rintro ⟨x,y⟩ ⟨hx,hy,hxl,hyl,hg⟩ J hJ
  dsimp only at hx hy hxl hyl hg hJ⊢
  have cc:=rCmp_ok (wordsOf x) (wordsOf y) (WOK_wordsOf _) (WOK_wordsOf _) (by omega) (by omega)
  rw[nv_wordsOf,nv_wordsOf]at cc
  rw[←hg]
  apply run_sound 200
  refine SmW ?_
  refine CallG.P _ Tryz.call206 (cc) ?_
  refine SmW ?_
  apply selP_dec<;>intro hc
  ·have hxy:x=y:=by
    unfold cmpI at hc;split at hc
    ·cases hc
    ·split at hc
     ·cases hc
     ·omega
   subst hxy
   have cl:=rShl_ok (wordsOf x) n (WOK_wordsOf _) (by omega) (by omega)
   rw[nv_wordsOf,Nat.mul_comm]at cl
   rw[Nat.gcd_self]
   refine SmW ?_
   refine CallG.P _ Tryz.call143 (cl) ?_
   refine SmW ?_
   exact endF.V [(4,sW (wordsOf (2^n*x)))] (vals_t (by simp-implicitDefEqProofs+decide only[go_sem,sW]<;>rfl) rfl vals_nil)
  have hne:x≠y:=fun e=>by subst e;exact hc (by simp[cmpI])
  refine SmW ?_
  apply selP_dec<;>intro hc2
  ·have hxy:x<y:=by
    unfold cmpI at hc2;split at hc2
    ·assumption
    ·split at hc2<;>omega
   have hlt:x<y:=by omega
   have hsl:=wordsOf_len_mono (Nat.sub_le y x)
   have cs:=rSub_ok (wordsOf y) (wordsOf x) (WOK_wordsOf _) (WOK_wordsOf _) (by omega) (by omega) (by rw[nv_wordsOf,nv_wordsOf];omega)
   rw[nv_wordsOf,nv_wordsOf]at cs
   have hd0:y-x≠0:=by omega
   have ce:=rEven_ok (wordsOf (y-x)) (WOK_wordsOf _) (by omega) (by rw[nv_wordsOf];exact hd0)
   rw[nv_wordsOf]at ce
   obtain⟨o,o1,o2,o3⟩:=tz_spec (y-x) hd0
   have htz:tz (y-x)<64*100000:=by
    exact tz_below hd0 (Nat.sub_le _ _) (by omega)
   have chr:=rShr_ok (wordsOf (y-x)) (tz (y-x)) (WOK_wordsOf _) (by omega) (by omega)
   rw[nv_wordsOf]at chr
   have hq:(y-x)/2^tz (y-x)≤y-x:=Nat.div_le_self _ _
   have hql:=wordsOf_len_mono hq
   have hgs:=gcd_step (x:=y) (y:=x) (by omega) hlt
   refine SmW ?_
   refine CallG.P _ Tryz.call207 (cs) ?_
   refine SmW ?_
   refine CallG.P _ Tryz.call213 (ce) ?_
   refine SmW ?_
   refine CallG.P _ Tryz.call203 (chr) ?_
   refine SmW ?_
   refine hJ ((y-x)/2^tz (y-x),x) _ ⟨by rw[o3];exact o1,by assumption,by dsimp only;omega,by assumption,?_⟩ (by dsimp only;omega) (Wk.slots _ rfl rfl (by simp-implicitDefEqProofs+decide only[go_sem,tW,sW]) (by simp-implicitDefEqProofs+decide only[go_sem,tW,sW]))
   dsimp only;rw[hgs,Nat.gcd_comm];exact hg
  ·have hxy:¬x<y:=by
    unfold cmpI at hc2;split at hc2
    ·exact absurd (by decide) hc2
    ·assumption
   have hlt:y<x:=by omega
   have hsl:=wordsOf_len_mono (Nat.sub_le x y)
   have cs:=rSub_ok (wordsOf x) (wordsOf y) (WOK_wordsOf _) (WOK_wordsOf _) (by omega) (by omega) (by rw[nv_wordsOf,nv_wordsOf];omega)
   rw[nv_wordsOf,nv_wordsOf]at cs
   have hd0:x-y≠0:=by omega
   have ce:=rEven_ok (wordsOf (x-y)) (WOK_wordsOf _) (by omega) (by rw[nv_wordsOf];exact hd0)
   rw[nv_wordsOf]at ce
   obtain⟨o,o1,o2,o3⟩:=tz_spec (x-y) hd0
   have htz:tz (x-y)<64*100000:=by
    exact tz_below hd0 (Nat.sub_le _ _) (by omega)
   have chr:=rShr_ok (wordsOf (x-y)) (tz (x-y)) (WOK_wordsOf _) (by omega) (by omega)
   rw[nv_wordsOf]at chr
   have hq:(x-y)/2^tz (x-y)≤x-y:=Nat.div_le_self _ _
   have hql:=wordsOf_len_mono hq
   have hgs:=gcd_step (x:=x) (y:=y) (by omega) hlt
   refine SmW ?_
   refine CallG.P _ Tryz.call207 (cs) ?_
   refine SmW ?_
   refine CallG.P _ Tryz.call213 (ce) ?_
   refine SmW ?_
   refine CallG.P _ Tryz.call203 (chr) ?_
   refine SmW ?_
   refine hJ ((x-y)/2^tz (x-y),y) _ ⟨by rw[o3];exact o1,by assumption,by dsimp only;omega,by assumption,?_⟩ (by dsimp only;omega) (Wk.slots _ rfl rfl (by simp-implicitDefEqProofs+decide only[go_sem,tW,sW]) (by simp-implicitDefEqProofs+decide only[go_sem,tW,sW]))
   dsimp only;rw[hgs];exact hg
 refine SmV ?_
 have ea:=rEven_ok a ha (by omega) na
 have eb:=rEven_ok b hb (by omega) nb
 have tza:tz (nv a)<64*100000:=tz_nv ha hla na
 have tzb:tz (nv b)<64*100000:=tz_nv hb hlb nb
 have sa:=rShr_ok a (tz (nv a)) ha (by omega) (by omega)
 have sb:=rShr_ok b (tz (nv b)) hb (by omega) (by omega)
 obtain⟨oa,oa1,oa2,oa3⟩:=tz_spec (nv a) na
 obtain⟨ob,ob1,ob2,ob3⟩:=tz_spec (nv b) nb
 have hgh:=gcd_halves (nv a) (nv b) na nb
 have hqa:(wordsOf (nv a/2^tz (nv a))).length≤100000:=by have:=wordsOf_len_mono (Nat.div_le_self (nv a) (2^tz (nv a)));omega
 have hqb:(wordsOf (nv b/2^tz (nv b))).length≤100000:=by have:=wordsOf_len_mono (Nat.div_le_self (nv b) (2^tz (nv b)));omega
 obtain⟨n,hn⟩:∃n,n=min (tz (nv a)) (tz (nv b)):=⟨_,rfl⟩
 have hz2:n≤65536:=hn▸hz na nb
 have hmin:(if (tz (nv b):Int)<tz (nv a) then (tz (nv b):Int) else tz (nv a))=n:=by split<;>omega
 have hmin2:(if (tz (nv a):Int)<tz (nv b) then (tz (nv a):Int) else tz (nv b))=n:=by split<;>omega
 have hmin3:(if tz (nv b)<tz (nv a) then (tz (nv b):Int) else tz (nv a))=n:=by split<;>omega
 have hmin4:(if tz (nv a)<tz (nv b) then (tz (nv a):Int) else tz (nv b))=n:=by split<;>omega
 refine CallG.P _ Tryz.call213 (ea) ?_
 refine SmV ?_
 refine CallG.P _ Tryz.call213 (eb) ?_
 simp-implicitDefEqProofs+decide only[go_sem,sW,hmin,hmin2,hmin3,hmin4]
 refine CallG.P _ Tryz.call213 (ea) ?_
 refine SmV ?_
 refine CallG.P _ Tryz.call203 (sa) ?_
 refine SmV ?_
 refine CallG.P _ Tryz.call213 (eb) ?_
 refine SmV ?_
 refine CallG.P _ Tryz.call203 (sb) ?_
 refine SmV ?_
 rw[←hn]at hgh
 rw[hgh]
 refine Goes.loop (X:=Nat×Nat) (fun x=>⟨ofL [(7,.t (.int .i64 n)),(8,tW (wordsOf x.1)),(9,tW (wordsOf x.2))],fun _=>none,0⟩) (fun x=>x.1%2=1∧x.2%2=1∧(wordsOf x.1).length≤100000∧(wordsOf x.2).length≤100000∧Nat.gcd x.1 x.2=Nat.gcd (nv a/2^tz (nv a)) (nv b/2^tz (nv b))) (fun x=>x.1+x.2) (nv a/2^tz (nv a),nv b/2^tz (nv b)) ?_ ⟨by rw[oa3];exact oa1,by rw[ob3];exact ob1,hqa,hqb,rfl⟩ ?_
 ·exact(Wk.slots _ rfl rfl (by simp-implicitDefEqProofs+decide only[go_sem,tW,sW]) (by simp-implicitDefEqProofs+decide only[go_sem,tW,sW]))
 rintro ⟨x,y⟩ ⟨hx,hy,hxl,hyl,hg⟩ J hJ
 dsimp only at hx hy hxl hyl hg hJ⊢
 have cc:=rCmp_ok (wordsOf x) (wordsOf y) (WOK_wordsOf _) (WOK_wordsOf _) (by omega) (by omega)
 rw[nv_wordsOf,nv_wordsOf]at cc
 rw[←hg]
 apply run_sound 200
 refine SmW ?_
 refine CallG.P _ Tryz.call206 (cc) ?_
 refine SmW ?_
 apply selP_dec<;>intro hc
 ·have hxy:x=y:=by
   unfold cmpI at hc;split at hc
   ·cases hc
   ·split at hc
    ·cases hc
    ·omega
  subst hxy
  have cl:=rShl_ok (wordsOf x) n (WOK_wordsOf _) (by omega) (by omega)
  rw[nv_wordsOf,Nat.mul_comm]at cl
  rw[Nat.gcd_self]
  refine SmW ?_
  refine CallG.P _ Tryz.call143 (cl) ?_
  refine SmW ?_
  exact endF.V [(4,sW (wordsOf (2^n*x)))] (vals_t (by simp-implicitDefEqProofs+decide only[go_sem,sW]<;>rfl) rfl vals_nil)
 have hne:x≠y:=fun e=>by subst e;exact hc (by simp[cmpI])
 refine SmW ?_
 apply selP_dec<;>intro hc2
 ·have hxy:x<y:=by
   unfold cmpI at hc2;split at hc2
   ·assumption
   ·split at hc2<;>omega
  have hlt:x<y:=by omega
  have hsl:=wordsOf_len_mono (Nat.sub_le y x)
  have cs:=rSub_ok (wordsOf y) (wordsOf x) (WOK_wordsOf _) (WOK_wordsOf _) (by omega) (by omega) (by rw[nv_wordsOf,nv_wordsOf];omega)
  rw[nv_wordsOf,nv_wordsOf]at cs
  have hd0:y-x≠0:=by omega
  have ce:=rEven_ok (wordsOf (y-x)) (WOK_wordsOf _) (by omega) (by rw[nv_wordsOf];exact hd0)
  rw[nv_wordsOf]at ce
  obtain⟨o,o1,o2,o3⟩:=tz_spec (y-x) hd0
  have htz:tz (y-x)<64*100000:=by
   exact tz_below hd0 (Nat.sub_le _ _) (by omega)
  have chr:=rShr_ok (wordsOf (y-x)) (tz (y-x)) (WOK_wordsOf _) (by omega) (by omega)
  rw[nv_wordsOf]at chr
  have hq:(y-x)/2^tz (y-x)≤y-x:=Nat.div_le_self _ _
  have hql:=wordsOf_len_mono hq
  have hgs:=gcd_step (x:=y) (y:=x) (by omega) hlt
  refine SmW ?_
  refine CallG.P _ Tryz.call207 (cs) ?_
  refine SmW ?_
  refine CallG.P _ Tryz.call213 (ce) ?_
  refine SmW ?_
  refine CallG.P _ Tryz.call203 (chr) ?_
  refine SmW ?_
  refine hJ ((y-x)/2^tz (y-x),x) _ ⟨by rw[o3];exact o1,by assumption,by dsimp only;omega,by assumption,?_⟩ (by dsimp only;omega) (Wk.slots _ rfl rfl (by simp-implicitDefEqProofs+decide only[go_sem,tW,sW]) (by simp-implicitDefEqProofs+decide only[go_sem,tW,sW]))
  dsimp only;rw[hgs,Nat.gcd_comm];exact hg
 ·have hxy:¬x<y:=by
   unfold cmpI at hc2;split at hc2
   ·exact absurd (by decide) hc2
   ·assumption
  have hlt:y<x:=by omega
  have hsl:=wordsOf_len_mono (Nat.sub_le x y)
  have cs:=rSub_ok (wordsOf x) (wordsOf y) (WOK_wordsOf _) (WOK_wordsOf _) (by omega) (by omega) (by rw[nv_wordsOf,nv_wordsOf];omega)
  rw[nv_wordsOf,nv_wordsOf]at cs
  have hd0:x-y≠0:=by omega
  have ce:=rEven_ok (wordsOf (x-y)) (WOK_wordsOf _) (by omega) (by rw[nv_wordsOf];exact hd0)
  rw[nv_wordsOf]at ce
  obtain⟨o,o1,o2,o3⟩:=tz_spec (x-y) hd0
  have htz:tz (x-y)<64*100000:=by
   exact tz_below hd0 (Nat.sub_le _ _) (by omega)
  have chr:=rShr_ok (wordsOf (x-y)) (tz (x-y)) (WOK_wordsOf _) (by omega) (by omega)
  rw[nv_wordsOf]at chr
  have hq:(x-y)/2^tz (x-y)≤x-y:=Nat.div_le_self _ _
  have hql:=wordsOf_len_mono hq
  have hgs:=gcd_step (x:=x) (y:=y) (by omega) hlt
  refine SmW ?_
  refine CallG.P _ Tryz.call207 (cs) ?_
  refine SmW ?_
  refine CallG.P _ Tryz.call213 (ce) ?_
  refine SmW ?_
  refine CallG.P _ Tryz.call203 (chr) ?_
  refine SmW ?_
  refine hJ ((x-y)/2^tz (x-y),y) _ ⟨by rw[o3];exact o1,by assumption,by dsimp only;omega,by assumption,?_⟩ (by dsimp only;omega) (Wk.slots _ rfl rfl (by simp-implicitDefEqProofs+decide only[go_sem,tW,sW]) (by simp-implicitDefEqProofs+decide only[go_sem,tW,sW]))
  dsimp only;rw[hgs];exact hg
theorem rGcd_ok (a b:List Nat) (ha:WOK a) (hb:WOK b) (hla:a.length≤1000) (hlb:b.length≤1000):
  Pure Tryz.prog 162 [sW a,sW b] [.t (sW (wordsOf (Nat.gcd (nv a) (nv b))))]:=
 rGcd_big a b ha hb (by omega) (by omega) fun na nb=>by
  have:=tz_nv ha hla na
  omega
structure Rt where
 mk::
 neg:Bool
 p:List Nat
 q:List Nat
 deriving DecidableEq
def Rt.T (x:Rt):T:=rT x.neg x.p x.q
theorem rWords_ok (a b:List Nat) (ha:a.length<1000000000) (hb:b.length<1000000000):Pure Tryz.prog 134 [sW a,sW b] [.t (.bool (decide (a=b)))]:=by
 refine Pure.I Tryz.func134 [4] ?_
 refine SmV ?_
 apply selP_dec<;>intro h1
 ·have:decide (a=b)=false:=decide_eq_false (fun e=>by subst e;exact h1 rfl)
  rw[this]
  refine Sm ?_
  exact endF.V1 4 (.bool false)
 have hl:a.length=b.length:=by omega
 refine Sm ?_
 refine Goes.loop (X:=Nat) (fun i=>⟨ofL [(0,tW a),(1,tW b),(12,.t (.int .i64 a.length)),(13,.t (.int .i64 i))],fun _=>none,0⟩) (fun i=>i≤a.length∧a.take i=b.take i) (fun i=>a.length-i) 0 ?_ (by simp) ?_
 ·exact(Wk.slots _ rfl rfl (by simp-implicitDefEqProofs+decide only[go_sem,tW,sW]) (by simp-implicitDefEqProofs+decide only[go_sem,tW,sW]))
 rintro i ⟨hi,he⟩ J hJ
 apply run_sound 200
 refine SmW ?_
 apply selP_dec<;>intro hc
 ·obtain⟨x,hx⟩:=getI (show i<a.length by omega)
  obtain⟨y,hy⟩:=getI (show i<b.length by omega)
  have hw:=wS (show i<1000000000000 by omega)
  refine Sm ?_
  refine Goes.drawN mixed ?_
  simp-implicitDefEqProofs+decide only[go_sem,tW,sW,hx,hy]
  refine⟨.mk (by kernel_rfl),?_⟩
  apply run_sound 200
  refine Sm ?_
  apply selP_dec<;>intro h2
  ·have:decide (a=b)=false:=decide_eq_false (fun e=>by subst e;rw[hx]at hy;cases hy;exact h2 rfl)
   rw[this]
   refine Sm ?_
   exact endF.V1 4 (.bool false)
  ·have:x=y:=by omega
   subst this
   simp-implicitDefEqProofs+decide only[go_sem,hw]
   refine hJ (i+1) _ ⟨by omega,by rw[take_snoc hx,take_snoc hy,he]⟩ (by omega) (Wk.slots _ rfl rfl (by simp-implicitDefEqProofs+decide only[go_sem,tW,sW,hw]) (by simp-implicitDefEqProofs+decide only[go_sem,tW,sW,hw]))
 ·have:decide (a=b)=true:=decide_eq_true (by rw[←List.take_of_length_le (l:=a) (i:=i) (by omega),he,List.take_of_length_le (by omega)])
  rw[this]
  refine Sm ?_
  exact endF.V1 4 (.bool true)
theorem noPtr_Rt (x:Rt):noPtr x.T=true:=by
 simp only[Rt.T,rT,noPtr,noPtrL,Bool.and_true,Bool.true_and]
 rw[noPtr_sW,noPtr_sW];rfl
theorem noPtr_RtU (n:Bool) (p q:List Nat):noPtr (.agg [.bool n,.slice (p.map U),.slice (q.map U)])=true:=noPtr_Rt ⟨n,p,q⟩
attribute [go_sem] noPtr_Rt noPtr_RtU
theorem rSame_ok (x y:Rt) (hx:x.p.length<1000000000) (hx2:x.q.length<1000000000) (hy:y.p.length<1000000000) (hy2:y.q.length<1000000000):Pure Tryz.prog 80 [x.T,y.T] [.t (.bool (decide (x=y)))]:=by
 obtain⟨n1,p1,q1⟩:=x
 obtain⟨n2,p2,q2⟩:=y
 dsimp only at hx hx2 hy hy2
 have c1:=rWords_ok p1 p2 hx hy
 have c2:=rWords_ok q1 q2 hx2 hy2
 refine Pure.I Tryz.func80 [4] ?_
 simp-implicitDefEqProofs+decide only[go_sem,Rt.T,rT,sW]
 by_cases h0:n1=n2
 ·subst h0
  have hb:decide (n1=n1)=true:=decide_eq_true rfl
  have hbb:(n1==n1)=true:=by simp
  simp-implicitDefEqProofs+decide only[go_sem,hb,hbb]
  refine CallG.P _ Tryz.call134 (c1) ?_
  refine SmV ?_
  apply selP_dec<;>intro h1
  ·subst h1
   refine Sm ?_
   refine CallG.P _ Tryz.call134 (c2) ?_
   refine SmV ?_
   have e:decide (Rt.mk n1 p1 q1=Rt.mk n1 p1 q2)=decide (q1=q2):=decide_eq_decide.2 (by simp)
   rw[e]
   exact endF.V1 4 (.bool (decide (q1=q2)))
  ·have e:decide (Rt.mk n1 p1 q1=Rt.mk n1 p2 q2)=false:=decide_eq_false (fun e=>by cases e;exact h1 rfl)
   rw[e]
   simp-implicitDefEqProofs+decide only[go_sem,h1]
   exact endF.V1 4 (.bool false)
 ·have e:decide (Rt.mk n1 p1 q1=Rt.mk n2 p2 q2)=false:=decide_eq_false (fun e=>by cases e;exact h0 rfl)
  rw[e]
  have hb:(n1==n2)=false:=by simpa using h0
  simp-implicitDefEqProofs+decide only[go_sem,h0,hb]
  exact endF.V1 4 (.bool false)
theorem rRight07_ok (x:Rt) (hp:WOK x.p) (hq:WOK x.q) (hlp:x.p.length≤1000) (hlq:x.q.length≤1000):
  Pure Tryz.prog 156 [x.T] [.t (.bool (rightM x.neg x.p x.q))]:=by
 obtain⟨neg,p,q⟩:=x
 dsimp only at hp hq hlp hlq⊢
 have c1:=rRight_ok p (by omega)
 have c2:=rRight_ok q (by omega)
 have c3:=rGcd_ok p q hp hq hlp hlq
 refine Pure.I Tryz.func156 [2] ?_
 simp-implicitDefEqProofs+decide only[go_sem,Rt.T,rT,sW]
 refine CallG.P _ Tryz.call210 (c1) ?_
 refine SmV ?_
 refine selP_ndec (fun h1=> ?_) (fun h1=> ?_)
 ·have e:rightM neg p q=false:=by simp[rightM,h1]
  rw[e]
  simp-implicitDefEqProofs+decide only[go_sem,h1]
  exact endF.V1 2 (.bool false)
 simp-implicitDefEqProofs+decide only[go_sem,h1]
 refine CallG.P _ Tryz.call210 (c2) ?_
 refine SmV ?_
 refine selP_ndec (fun h2=> ?_) (fun h2=> ?_)
 ·have e:rightM neg p q=false:=by simp[rightM,h2]
  rw[e]
  simp-implicitDefEqProofs+decide only[go_sem,h1,h2]
  exact endF.V1 2 (.bool false)
 simp-implicitDefEqProofs+decide only[go_sem,h1,h2]
 apply selP_dec<;>intro h3
 ·have e:rightM neg p q=false:=by unfold rightM;rw[show decide (0<q.length)=false from decide_eq_false (by omega)];simp
  rw[e]
  simp-implicitDefEqProofs+decide only[go_sem,h1,h2,h3]
  exact endF.V1 2 (.bool false)
 have h3':(q.length=0)=False:=eq_false (by omega)
 simp-implicitDefEqProofs+decide only[go_sem,h1,h2,h3]
 have hmain:rightM neg p q=(decide (Nat.gcd (nv p) (nv q)=1)&& !(neg&&decide (p.length=0))):=by
  unfold rightM;rw[show decide (0<q.length)=true from decide_eq_true (by omega)];simp[h1,h2]
 have cc:=rCmp_ok (wordsOf (Nat.gcd (nv p) (nv q))) [1] (WOK_wordsOf _) (fun x hx=>by rw[List.mem_singleton.1 hx];decide) (by
   have h1:=wordsOf_len_le hp
   have h2:=wordsOf_len_le hq
   rcases Nat.eq_zero_or_pos (nv p) with h|h
   ·rw[h,Nat.gcd_zero_left];omega
   ·have:=wordsOf_len_mono (Nat.gcd_le_left (nv q) h);omega) (by decide)
 rw[nv_wordsOf,show nv [1]=1 from rfl]at cc
 have hd:decide (Nat.gcd (nv p) (nv q)=1)=decide (cmpI (Nat.gcd (nv p) (nv q)) 1=0):=by
  congr 1;unfold cmpI;apply propext;constructor
  ·intro h;rw[h];rfl
  ·intro h;split at h
   ·cases h
   ·split at h
    ·cases h
    ·omega
 have fin:∀f0:Nat→AV,True:=fun _=>trivial
 cases neg
 ·rw[hmain,Bool.false_and,Bool.not_false,Bool.and_true,hd]
  refine Sm ?_
  refine CallG.PS _ Tryz.call162 (c3) ?_
  refine SmV ?_
  refine CallG.P _ Tryz.call206 (cc) ?_
  refine Sm ?_
  exact endF.V1 2 (.bool (decide (cmpI (Nat.gcd (nv p) (nv q)) 1=0)))
 ·refine Sm ?_
  apply selP_dec<;>intro h4
  ·have e:rightM true p q=false:=by rw[hmain];simp;intro _;exact List.length_eq_zero_iff.1 (by omega)
   rw[e]
   simp-implicitDefEqProofs+decide only[go_sem,h4]
   exact endF.V1 2 (.bool false)
  ·have h4':decide (p.length=0)=false:=decide_eq_false (by omega)
   rw[hmain,h4',Bool.and_false,Bool.not_false,Bool.and_true,hd]
   refine Sm ?_
   refine CallG.PS _ Tryz.call162 (c3) ?_
   refine SmV ?_
   refine CallG.P _ Tryz.call206 (cc) ?_
   refine Sm ?_
   exact endF.V1 2 (.bool (decide (cmpI (Nat.gcd (nv p) (nv q)) 1=0)))
end Go.Fm
