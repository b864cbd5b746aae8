/- Doubles: whole numbers, one by a whole number, and doubles times a power of two. -/
import Derived.Test.YteodjhhobkcnjaaGreatHeB
import Derived.Test.YteodjhhobkcnjaaGreatHeC
import Derived.Test.YteodjhhobkcnjaaGreatHeA
import Derived.Test.YteodjhhobkcnjaaGreatHcC
import Derived.Test.YteodjhhobkcnjaaGreatHaC
set_option linter.unusedVariables false
set_option linter.unusedSimpArgs false
namespace Go.Fm
open Go.Proofs
set_option maxRecDepth 100000
attribute [local irreducible] tiOf
def fromD (n:Int):Nat:=rndD (decide (n<0)) n.natAbs 0
theorem fromD_lt (n:Int):fromD n<18446744073709551616:=rndD_lt _ _ _
theorem fint_ok (n:Int) (h1: -9223372036854775808≤n) (h2:n≤9223372036854775807):Pure Tryz.prog 282 [.int .i64 n] [.t (.int .u64 (fromD n:Nat))]:=by
 have c:=word_ok (decide (n<0)) n.natAbs 0 (by omega) (by decide) (by decide)
 unfold fromD
 refine Pure.I Tryz.func282 [2] ?_
 refine Sm ?_
 apply selP_dec<;>intro h
 ·have w1:IntKind.wrap .u64 n=n+18446744073709551616:=by rw[u64];omega
  have w2:IntKind.wrap .u64 (0-(n+18446744073709551616))=(n.natAbs:Int):=by rw[u64];omega
  rw[decide_eq_true h]at c⊢
  simp-implicitDefEqProofs+decide only[go_sem,w1,w2]
  refine CallG.P _ Tryz.call251 (c) ?_
  refine Sm ?_
  exact endF.V1 2 (.int .u64 (rndD true n.natAbs 0:Nat))
 ·have w1:IntKind.wrap .u64 n=(n.natAbs:Int):=by rw[u64];omega
  rw[decide_eq_false h]at c⊢
  simp-implicitDefEqProofs+decide only[go_sem,w1]
  refine CallG.P _ Tryz.call251 (c) ?_
  refine Sm ?_
  exact endF.V1 2 (.int .u64 (rndD false n.natAbs 0:Nat))
def partD (n:Int):Nat:=divD 4607182418800017408 (fromD n)
theorem kpart_ok (n:Int) (h1: -9223372036854775808≤n) (h2:n≤9223372036854775807):Pure Tryz.prog 283 [.int .i64 n] [.t (.int .u64 (partD n:Nat))]:=by
 have c1:=fint_ok n h1 h2
 have c2:Pure Tryz.prog 222 [.int .u64 4607182418800017408,.int .u64 (fromD n:Nat)] [.t (.int .u64 (partD n:Nat))]:=fdiv_ok 4607182418800017408 (fromD n) (by decide) (fromD_lt n)
 refine Pure.I Tryz.func283 [2] ?_
 refine Sm ?_
 refine CallG.P _ Tryz.call282 (c1) ?_
 refine Sm ?_
 refine CallG.P _ Tryz.call222 (c2) ?_
 refine Sm ?_
 exact endF.V1 2 (.int .u64 (partD n:Nat))
def scaleD (b:Nat) (k:Int):Nat:=if kindD b=3∨kindD b=4 then cleanD b else rndD (negD b) (partM b) (partE b+k)
theorem parts_no (b:Nat) (hb:b<18446744073709551616) (h:kindD b=3∨kindD b=4):Pure Tryz.prog 276 [.int .u64 b] [.t (.bool false),.t (.int .u64 0),.t (.int .i64 0),.t (.bool false)]:=by
 have c1:=kind_ok b hb
 generalize kindD b=k at*
 refine Pure.I Tryz.func276 [2,3,4,5] ?_
 refine Sm ?_
 refine CallG.P _ Tryz.call271 (c1) ?_
 rcases h with rfl|rfl
 ·refine Sm ?_
  exact endF.V [(2,.bool false),(3,.int .u64 0),(4,.int .i64 0),(5,.bool false)] (vals_t (by simp-implicitDefEqProofs+decide only[go_sem]<;>rfl) rfl (vals_t (by simp-implicitDefEqProofs+decide only[go_sem]<;>rfl) rfl (vals_t (by simp-implicitDefEqProofs+decide only[go_sem]<;>rfl) rfl (vals_t (by simp-implicitDefEqProofs+decide only[go_sem]<;>rfl) rfl vals_nil))))
 ·refine Sm ?_
  exact endF.V [(2,.bool false),(3,.int .u64 0),(4,.int .i64 0),(5,.bool false)] (vals_t (by simp-implicitDefEqProofs+decide only[go_sem]<;>rfl) rfl (vals_t (by simp-implicitDefEqProofs+decide only[go_sem]<;>rfl) rfl (vals_t (by simp-implicitDefEqProofs+decide only[go_sem]<;>rfl) rfl (vals_t (by simp-implicitDefEqProofs+decide only[go_sem]<;>rfl) rfl vals_nil))))
def bankE (md:Int) (mc:AV) (k:Nat) (tie:Bool) (e:Int):Obj:=.box [.t (.int .i64 md),.t (.int .i64 0),.nil,.t (.slice []),mc,.t (.int .i64 0),.t (.int .i64 k),.t (.bool tie),.t (.int .i64 e)]
theorem bankE_0 (md:Int) (mc:AV) (k:Nat) (tie:Bool):bankE md mc k tie 0=bankG md mc k tie:=rfl
def v0:Vx:=.d 0
theorem v0_T:v0.T=.agg [.bool false,.slice [],.slice [],.int .u64 0,.int .i64 0]:=rfl
def negV:Vx→Vx
 |.q r=>.q (-r)
 |.d a=>.d (flipD a)
theorem negV_md (x:Vx):(negV x).md=x.md:=by cases x<;>rfl
theorem negV_B {x:Vx} {a:Nat} (h:x.B a):(negV x).B a:=by
 cases x with
 |q r=>exact⟨by rw[show(-r).num= -r.num from rfl,Int.natAbs_neg];exact h.n,h.d⟩
 |d b=>exact flipD_lt h
structure Es where
 k:Nat
 e:Int
def Vx.zero:Vx→Bool
 |.q s=>decide (s=0)
 |.d _=>false
theorem Vx.nz_of {v:Vx} (h:v.zero=false):v.nz:=by
 cases v with
 |q s=>exact of_decide_eq_false h
 |d b=>trivial
structure Vs where
 v:Vx
 s:Es
def opE (f:Vx→Vx→Vx) (s:Es) (x y:Vx):Vs:=if s.e=0 then ⟨f x y,⟨s.k+1,0⟩⟩ else ⟨v0,s⟩
def divE (s:Es) (x y:Vx):Vs:=if s.e=0 then (if y.zero=true then ⟨v0,⟨s.k,4⟩⟩ else ⟨divV x y,⟨s.k+1,0⟩⟩) else ⟨v0,s⟩
def negE (s:Es) (x:Vx):Vs:=if s.e=0 then ⟨negV x,⟨s.k+1,0⟩⟩ else ⟨v0,s⟩
def OK1 (md:Int) (B:Nat) (s:Es) (x:Vx):Prop:=s.e=0→x.md=md∧x.B B
theorem failsE_ok (h:Heap) (m id k:Nat) (md e:Int) (mc:AV) (tie:Bool) (he:e≠0) (hb:∀l,Lab.pool l=false→h l=none) (hk:h (.obj id)=some (bankE md mc k tie e)):
  Ret Tryz.prog 117 [.ptr id] h m [.t (.bool true)] h m:=by
 have hl:∀d j,h (.loc d j)=none:=fun d j=>hb _ rfl
 have de:decide (e≠0)=true:=decide_eq_true he
 unfold bankE at hk
 refine Ret.iF Tryz.func117 [2] ?_
 simp-implicitDefEqProofs+decide only[go_sem,hk,hl,de]
 exact endF.oneH (.inr rfl) (by simp-implicitDefEqProofs+decide only[go_sem,hk,hl]) rfl (fun _ _=>rfl) rfl
theorem errE_ok (h:Heap) (m id k:Nat) (md e:Int) (mc:AV) (tie:Bool) (hb:∀l,Lab.pool l=false→h l=none) (hk:h (.obj id)=some (bankE md mc k tie e)):
  Ret Tryz.prog 17 [.ptr id] h m [.t (.int .i64 e)] h m:=by
 have hl:∀d j,h (.loc d j)=none:=fun d j=>hb _ rfl
 unfold bankE at hk
 refine Ret.iF Tryz.func17 [2] ?_
 simp-implicitDefEqProofs+decide only[go_sem,hk,hl]
 exact endF.oneH (.inr rfl) (by simp-implicitDefEqProofs+decide only[go_sem,hk,hl]) rfl (fun _ _=>rfl) rfl
theorem doErr_ok (h:Heap) (m id k:Nat) (md e op:Int) (mc:AV) (tie two:Bool) (x y:T) (x1 x2 x3 x4 x5 y1 y2 y3 y4 y5:T) (hx:x=.agg [x1,x2,x3,x4,x5]) (hy:y=.agg [y1,y2,y3,y4,y5]) (he:e≠0) (hb:∀l,Lab.pool l=false→h l=none) (hk:h (.obj id)=some (bankE md mc k tie e)):
  Ret Tryz.prog 110 [.ptr id,.int .i64 op,x,y,.bool two] h m [.t v0.T] h m:=by
 have hl:∀d j,h (.loc d j)=none:=fun d j=>hb _ rfl
 have c1:=failsE_ok h m id k md e mc tie he hb hk
 subst hx hy
 rw[v0_T]
 refine Ret.iC Tryz.func110 [.c 10 68] ?_
 refine SmB ?_
 refine CallG.Q _ Tryz.call117 c1 ?_
 refine SmB ?_
 exact endC.O
theorem upd_id {h:Heap} {l:Lab} {o:Option Obj} (hk:h l=o):upd h l o=h:=by
 funext l'
 by_cases e:l'=l
 ·subst e;rw[upd_same,hk]
 ·rw[upd_ne _ _ _ _ e]
theorem addE_ok (h:Heap) (m id:Nat) (md:Int) (mc:AV) (tie:Bool) (s:Es) (x y:Vx) (hb:∀l,Lab.pool l=false→h l=none) (hk:h (.obj id)=some (bankE md mc s.k tie s.e)) (hkb:s.k<1000000000) (ox:OK1 md 10000000 s x) (oy:OK1 md 10000000 s y):
  Ret Tryz.prog 57 [.ptr id,x.T,y.T] h m [.t (opE addV s x y).v.T] (upd h (.obj id) (some (bankE md mc (opE addV s x y).s.k tie (opE addV s x y).s.e))) m:=by
 unfold opE
 by_cases he:s.e=0
 ·rw[if_pos he]
  rw[he,bankE_0]at hk
  exact bankAddG_ok h m id s.k md mc tie x y hb hk hkb (ox he).1 (oy he).1 (ox he).2 (oy he).2
 ·rw[if_neg he]
  dsimp only
  rw[upd_id hk]
  have hl:∀d j,h (.loc d j)=none:=fun d j=>hb _ rfl
  have c1:=doErr_ok h m id s.k md s.e 4 mc tie true x.T y.T _ _ _ _ _ _ _ _ _ _ (Vx_T x) (Vx_T y) he hb hk
  rw[v0_T]at c1⊢
  refine Ret.iC Tryz.func57 [.c 6 68] ?_
  simp only[Vx_T]at c1⊢
  refine SmB ?_
  refine CallG.Q _ Tryz.call110 c1 ?_
  refine SmC ?_
  exact endC.O
theorem subE_ok (h:Heap) (m id:Nat) (md:Int) (mc:AV) (tie:Bool) (s:Es) (x y:Vx) (hb:∀l,Lab.pool l=false→h l=none) (hk:h (.obj id)=some (bankE md mc s.k tie s.e)) (hkb:s.k<1000000000) (ox:OK1 md 10000000 s x) (oy:OK1 md 10000000 s y):
  Ret Tryz.prog 66 [.ptr id,x.T,y.T] h m [.t (opE subV s x y).v.T] (upd h (.obj id) (some (bankE md mc (opE subV s x y).s.k tie (opE subV s x y).s.e))) m:=by
 unfold opE
 by_cases he:s.e=0
 ·rw[if_pos he]
  rw[he,bankE_0]at hk
  exact bankSubG_ok h m id s.k md mc tie x y hb hk hkb (ox he).1 (oy he).1 (ox he).2 (oy he).2
 ·rw[if_neg he]
  dsimp only
  rw[upd_id hk]
  have hl:∀d j,h (.loc d j)=none:=fun d j=>hb _ rfl
  have c1:=doErr_ok h m id s.k md s.e 5 mc tie true x.T y.T _ _ _ _ _ _ _ _ _ _ (Vx_T x) (Vx_T y) he hb hk
  rw[v0_T]at c1⊢
  refine Ret.iC Tryz.func66 [.c 6 68] ?_
  simp only[Vx_T]at c1⊢
  refine SmB ?_
  refine CallG.Q _ Tryz.call110 c1 ?_
  refine SmC ?_
  exact endC.O
theorem mulE_ok (h:Heap) (m id:Nat) (md:Int) (mc:AV) (tie:Bool) (s:Es) (x y:Vx) (hb:∀l,Lab.pool l=false→h l=none) (hk:h (.obj id)=some (bankE md mc s.k tie s.e)) (hkb:s.k<1000000000) (ox:OK1 md 10000000 s x) (oy:OK1 md 10000000 s y):
  Ret Tryz.prog 56 [.ptr id,x.T,y.T] h m [.t (opE mulV s x y).v.T] (upd h (.obj id) (some (bankE md mc (opE mulV s x y).s.k tie (opE mulV s x y).s.e))) m:=by
 unfold opE
 by_cases he:s.e=0
 ·rw[if_pos he]
  rw[he,bankE_0]at hk
  exact bankMulG_ok h m id s.k md mc tie x y hb hk hkb (ox he).1 (oy he).1 (ox he).2 (oy he).2
 ·rw[if_neg he]
  dsimp only
  rw[upd_id hk]
  have hl:∀d j,h (.loc d j)=none:=fun d j=>hb _ rfl
  have c1:=doErr_ok h m id s.k md s.e 6 mc tie true x.T y.T _ _ _ _ _ _ _ _ _ _ (Vx_T x) (Vx_T y) he hb hk
  rw[v0_T]at c1⊢
  refine Ret.iC Tryz.func56 [.c 6 68] ?_
  simp only[Vx_T]at c1⊢
  refine SmB ?_
  refine CallG.Q _ Tryz.call110 c1 ?_
  refine SmC ?_
  exact endC.O
theorem exQNeg_ok (h:Heap) (m id:Nat) (r:Rat) (hb:∀l,Lab.pool l=false→h l=none) (hr:QB r 10000000):
  Ret Tryz.prog 165 [.ptr id,.int .i64 3,(qR r).T,noRat] h m [.t (qR (-r)).T] h m:=by
 have hl:∀d j,h (.loc d j)=none:=fun d j=>hb _ rfl
 have c1:=neg_okQ r hr
 unfold noRat
 refine Ret.iC Tryz.func165 [.c 8 65] ?_
 simp only[qT]at c1⊢
 refine SmB ?_
 refine CallG.PS _ Tryz.call214 (c1) ?_
 refine SmC ?_
 exact endC.Q
theorem dblNeg_ok (a:Nat) (ha:a<18446744073709551616):Pure Tryz.prog 166 [.int .i64 3,.int .u64 a,.int .u64 0] [.t (.int .u64 (flipD a:Nat))]:=by
 have c1:=flip_ok a ha
 refine Pure.I Tryz.func166 [6] ?_
 refine Sm ?_
 refine CallG.P _ Tryz.call218 (c1) ?_
 refine Sm ?_
 exact endF.V1 6 (.int .u64 (flipD a:Nat))
theorem doNeg_ok (h:Heap) (m id k:Nat) (md:Int) (mc:AV) (tie:Bool) (x:Vx) (hb:∀l,Lab.pool l=false→h l=none) (hk:h (.obj id)=some (bankG md mc k tie)) (hkb:k<1000000000) (mx:x.md=md) (bx:x.B 10000000):
  Ret Tryz.prog 110 [.ptr id,.int .i64 3,x.T,v0.T,.bool false] h m [.t (negV x).T] (upd h (.obj id) (some (bankG md mc (k+1) tie))) m:=by
 have hl:∀d j,h (.loc d j)=none:=fun d j=>hb _ rfl
 have c1:=failsG_ok h m id k md mc tie hb hk
 have hb2:∀l,Lab.pool l=false→upd h (.obj id) (some (bankG md mc (k+1) tie)) l=none:=upd_hb hb
 have hw:=wS (show k<1000000000000 by omega)
 rw[v0_T]
 refine Ret.introC Tryz.func110 rfl (rv:=[.c 10 68]) rfl (by simp[Tryz.ntmps110]) (by decide) (sites:=fun _=>false) hb2 bank_keeps ?_
 subst mx
 cases x with
 | q r =>
   have c2:=exQNeg_ok (upd h (.obj id) (some (bankG 0 mc (k+1) tie))) m id r (upd_hb hb) bx
   unfold noRat at c2
   show Goes _ (endC _ _ [.t (vT (-r))] _ _) _ _ ⟨ofL (argL 0 [_,_,vT r,_,_]),_,_⟩
   unfold bankG at hk
   simp only[qT]at c2
   simp only[vT_eq]
   apply run_sound 200
   refine SmB ?_
   refine CallG.Q _ Tryz.call117 c1 ?_
   simp-implicitDefEqProofs+decide only[go_sem,hk,hw,hl,Vx.md]
   refine CallG.pool _ Tryz.call165 c2 (upd_hb hb) (by rintro (_|_|_|_|_) hp<;>first|(cases hp;done)|simp-implicitDefEqProofs+decide only[go_sem,bankG]) ?_
   apply run_sound 200
   unfold bankG
   refine SmC ?_
   exact endC.oneV (.inr rfl) (by first|(simp-implicitDefEqProofs+decide only[go_sem,valC,hl,sW,Vx.md];done)|(simp-implicitDefEqProofs+decide only[go_sem,valC,hl,sW,Vx.md];rfl)) (by first|rfl|(simp-implicitDefEqProofs+decide only[go_sem,hl,sW,Vx.md];done)|(simp-implicitDefEqProofs+decide only[go_sem,hl,sW,Vx.md];rfl)) (by rintro (_|_|_|_|_) hp<;>first|(cases hp;done)|simp-implicitDefEqProofs+decide only[go_sem,hl,sW,Vx.md]) rfl
 | d a =>
   have c2:=dblNeg_ok a bx
   show Goes _ (endC _ _ [.t (Vx.d (flipD a)).T] _ _) _ _ _
   unfold bankG at hk
   simp only[Vx_d]
   apply run_sound 200
   refine SmB ?_
   refine CallG.Q _ Tryz.call117 c1 ?_
   simp-implicitDefEqProofs+decide only[go_sem,hk,hw,hl,Vx.md]
   refine CallG.P _ Tryz.call166 (c2) ?_
   unfold bankG
   refine SmC ?_
   exact endC.oneV (.inr rfl) (by first|(simp-implicitDefEqProofs+decide only[go_sem,valC,hl,sW,Vx.md];done)|(simp-implicitDefEqProofs+decide only[go_sem,valC,hl,sW,Vx.md];rfl)) (by first|rfl|(simp-implicitDefEqProofs+decide only[go_sem,hl,sW,Vx.md];done)|(simp-implicitDefEqProofs+decide only[go_sem,hl,sW,Vx.md];rfl)) (by rintro (_|_|_|_|_) hp<;>first|(cases hp;done)|simp-implicitDefEqProofs+decide only[go_sem,hl,sW,Vx.md]) rfl
theorem negE_ok (h:Heap) (m id:Nat) (md:Int) (mc:AV) (tie:Bool) (s:Es) (x:Vx) (hb:∀l,Lab.pool l=false→h l=none) (hk:h (.obj id)=some (bankE md mc s.k tie s.e)) (hkb:s.k<1000000000) (ox:OK1 md 10000000 s x):
  Ret Tryz.prog 146 [.ptr id,x.T] h m [.t (negE s x).v.T] (upd h (.obj id) (some (bankE md mc (negE s x).s.k tie (negE s x).s.e))) m:=by
 have hl:∀d j,h (.loc d j)=none:=fun d j=>hb _ rfl
 unfold negE
 by_cases he:s.e=0
 ·rw[if_pos he]
  rw[he,bankE_0]at hk
  have c1:=doNeg_ok h m id s.k md mc tie x hb hk hkb (ox he).1 (ox he).2
  refine Ret.introC Tryz.func146 rfl (rv:=[.c 4 68]) rfl (by simp[Tryz.ntmps146]) (by decide) (sites:=fun _=>false) (upd_hb hb) bank_keeps ?_
  rw[v0_T]at c1
  simp only[Vx_T]at c1⊢
  apply run_sound 200
  refine SmB ?_
  refine CallG.Q _ Tryz.call110 c1 ?_
  refine SmC ?_
  exact endC.oneV (.inr rfl) (by first|(simp-implicitDefEqProofs+decide only[go_sem,valC,hl,sW,bankE_0];done)|(simp-implicitDefEqProofs+decide only[go_sem,valC,hl,sW,bankE_0];rfl)) (by first|rfl|(simp-implicitDefEqProofs+decide only[go_sem,hl,sW,bankE_0];done)|(simp-implicitDefEqProofs+decide only[go_sem,hl,sW,bankE_0];rfl)) (by rintro (_|_|_|_|_) hp<;>first|(cases hp;done)|simp-implicitDefEqProofs+decide only[go_sem,hl,sW,bankE_0]) rfl
 ·rw[if_neg he]
  dsimp only
  rw[upd_id hk]
  have c1:=doErr_ok h m id s.k md s.e 3 mc tie false x.T v0.T _ _ _ _ _ _ _ _ _ _ (Vx_T x) v0_T he hb hk
  rw[v0_T]at c1⊢
  refine Ret.iC Tryz.func146 [.c 4 68] ?_
  simp only[Vx_T]at c1⊢
  refine SmB ?_
  refine CallG.Q _ Tryz.call110 c1 ?_
  refine SmC ?_
  exact endC.O
theorem fail4_ok (h:Heap) (m id k:Nat) (md:Int) (mc:AV) (tie:Bool) (hb:∀l,Lab.pool l=false→h l=none) (hk:h (.obj id)=some (bankG md mc k tie)):
  Ret Tryz.prog 183 [.ptr id,.int .i64 4] h m [] (upd h (.obj id) (some (bankE md mc k tie 4))) m:=by
 have hl:∀d j,h (.loc d j)=none:=fun d j=>hb _ rfl
 unfold bankG at hk
 refine Ret.iF Tryz.func183 [] ?_
 simp-implicitDefEqProofs+decide only[go_sem,hk,hl]
 exact endF.vals [] (.inl rfl) vals_nil (by rintro (_|_|_|_|_) hp<;>first|(cases hp;done)|simp-implicitDefEqProofs+decide only[go_sem,bankE]) rfl
theorem exQ0_ok (h:Heap) (m id k:Nat) (mc:AV) (tie:Bool) (r:Rat) (hb:∀l,Lab.pool l=false→h l=none) (hk:h (.obj id)=some (bankG 0 mc k tie)):
  Ret Tryz.prog 165 [.ptr id,.int .i64 7,(qR r).T,(qR 0).T] h m [.t noRat] (upd h (.obj id) (some (bankE 0 mc k tie 4))) m:=by
 have hl:∀d j,h (.loc d j)=none:=fun d j=>hb _ rfl
 have c1:=div0_okQ r
 have c4:=fail4_ok h m id k 0 mc tie hb hk
 unfold noRat at c1⊢
 refine Ret.iC Tryz.func165 [.c 8 65] ?_
 simp only[qT]at c1⊢
 refine SmB ?_
 refine CallG.PS _ Tryz.call182 (c1) ?_
 refine SmB ?_
 refine CallG.Q _ Tryz.call183 c4 ?_
 refine SmC ?_
 exact endC.O
theorem doQ0_ok (h:Heap) (m id k:Nat) (mc:AV) (tie:Bool) (r:Rat) (hb:∀l,Lab.pool l=false→h l=none) (hk:h (.obj id)=some (bankG 0 mc k tie)) (hkb:k<1000000000):
  Ret Tryz.prog 110 [.ptr id,.int .i64 7,vT r,vT 0,.bool true] h m [.t v0.T] (upd h (.obj id) (some (bankE 0 mc k tie 4))) m:=by
 have hl:∀d j,h (.loc d j)=none:=fun d j=>hb _ rfl
 have c1:=failsG_ok h m id k 0 mc tie hb hk
 have hb2:∀l,Lab.pool l=false→upd h (.obj id) (some (bankG 0 mc (k+1) tie)) l=none:=upd_hb hb
 have c2:=exQ0_ok (upd h (.obj id) (some (bankG 0 mc (k+1) tie))) m id (k+1) mc tie r hb2 (upd_same _ _ _)
 rw[upd_upd]at c2
 have hw:=wS (show k<1000000000000 by omega)
 have hw2:IntKind.wrap .i64 (((k+1:Nat):Int)-1)=(k:Int):=by rw[w64]<;>omega
 unfold noRat at c2
 rw[v0_T]
 refine Ret.iC Tryz.func110 [.c 10 68] ?_
 simp only[qT]at c2
 simp only[vT_eq]
 refine SmB ?_
 refine CallG.Q _ Tryz.call117 c1 ?_
 unfold bankG at hk
 simp-implicitDefEqProofs+decide only[go_sem,hk,hw,hl]
 refine CallG.pool _ Tryz.call165 c2 hb2 (by rintro (_|_|_|_|_) hp<;>first|(cases hp;done)|simp-implicitDefEqProofs+decide only[go_sem,bankG]) ?_
 apply run_sound 200
 unfold bankE
 simp-implicitDefEqProofs+decide only[go_sem,hl,sW,hw2]
 exact endC.O
theorem divE_ok (h:Heap) (m id:Nat) (md:Int) (mc:AV) (tie:Bool) (s:Es) (x y:Vx) (hb:∀l,Lab.pool l=false→h l=none) (hk:h (.obj id)=some (bankE md mc s.k tie s.e)) (hkb:s.k<1000000000) (ox:OK1 md 10000000 s x) (oy:OK1 md 10000000 s y):
  Ret Tryz.prog 74 [.ptr id,x.T,y.T] h m [.t (divE s x y).v.T] (upd h (.obj id) (some (bankE md mc (divE s x y).s.k tie (divE s x y).s.e))) m:=by
 have hl:∀d j,h (.loc d j)=none:=fun d j=>hb _ rfl
 unfold divE
 by_cases he:s.e=0
 ·rw [if_pos he]
  rw[he,bankE_0]at hk
  by_cases hz:y.zero=true
  ·rw[if_pos hz]
   have my:=(oy he).1
   have mx:=(ox he).1
   cases y with
   |d b=>cases hz
   | q t =>
     obtain rfl:t=0:=of_decide_eq_true hz
     cases x with
     |d a=>rw[←my]at mx;simp[Vx.md]at mx
     | q r =>
       obtain rfl:md=0:=my.symm
       have c1:=doQ0_ok h m id s.k mc tie r hb hk hkb
       rw[v0_T]at c1
       show Ret _ _ [_,vT r,vT 0] _ _ [.t v0.T] _ _
       rw[v0_T]
       refine Ret.iC Tryz.func74 [.c 6 68] ?_
       simp only[vT_eq]at c1⊢
       refine SmB ?_
       refine CallG.Q _ Tryz.call110 c1 ?_
       refine SmC ?_
       exact endC.O
  ·rw[if_neg hz]
   exact bankDivG_ok h m id s.k md mc tie x y hb hk hkb (ox he).1 (oy he).1 (ox he).2 (oy he).2 (Vx.nz_of (by simpa using hz))
 ·rw[if_neg he]
  dsimp only
  rw[upd_id hk]
  have c1:=doErr_ok h m id s.k md s.e 7 mc tie true x.T y.T _ _ _ _ _ _ _ _ _ _ (Vx_T x) (Vx_T y) he hb hk
  rw[v0_T]at c1⊢
  refine Ret.iC Tryz.func74 [.c 6 68] ?_
  simp only[Vx_T]at c1⊢
  refine SmB ?_
  refine CallG.Q _ Tryz.call110 c1 ?_
  refine SmC ?_
  exact endC.O
def numE (md:Int) (s:Es) (p q:Int):Vs:=if s.e=0 then (if q=0 then ⟨v0,⟨s.k,4⟩⟩ else ⟨numV md ((p:Rat)/(q:Rat)),s⟩) else ⟨v0,s⟩
theorem numErr_ok (h:Heap) (m id k:Nat) (md e p q:Int) (mc:AV) (tie:Bool) (he:e≠0) (hb:∀l,Lab.pool l=false→h l=none) (hk:h (.obj id)=some (bankE md mc k tie e)):
  Ret Tryz.prog 64 [.ptr id,.int .i64 p,.int .i64 q] h m [.t v0.T] h m:=by
 have hl:∀d j,h (.loc d j)=none:=fun d j=>hb _ rfl
 have c1:=failsE_ok h m id k md e mc tie he hb hk
 rw[v0_T]
 refine Ret.iC Tryz.func64 [.c 6 68] ?_
 refine SmB ?_
 refine CallG.Q _ Tryz.call117 c1 ?_
 refine SmB ?_
 exact endC.O
theorem quot0_ok (h:Heap) (m id k:Nat) (md:Int) (mc:AV) (tie:Bool) (p:Int) (hb:∀l,Lab.pool l=false→h l=none) (hk:h (.obj id)=some (bankG md mc k tie)) (hp1: -9223372036854775808≤p) (hp2:p≤9223372036854775807):
  Ret Tryz.prog 118 [.ptr id,.int .i64 p,.int .i64 0] h m [.t noRat] (upd h (.obj id) (some (bankE md mc k tie 4))) m:=by
 have hl:∀d j,h (.loc d j)=none:=fun d j=>hb _ rfl
 have c1:Pure Tryz.prog 181 [.int .i64 0] [.t (qR 0).T]:=of_okQ 0 (by decide) (by decide)
 have c2:=of_okQ p hp1 hp2
 have c3:=div0_okQ (p:Rat)
 have c4:=fail4_ok h m id k md mc tie hb hk
 generalize (p:Rat)=x at*
 generalize (0:Rat)=y at*
 rw[qT]at c1 c2
 rw[qT,qT]at c3
 unfold noRat at c3⊢
 refine Ret.iC Tryz.func118 [.c 6 65] ?_
 refine SmB ?_
 refine CallG.PS _ Tryz.call181 (c1) ?_
 refine SmB ?_
 refine Goes.dP ?_
 refine SmB ?_
 refine CallD.PS _ Tryz.call181 c2 ?_
 refine SmB ?_
 refine CallD.PS _ Tryz.call182 c3 ?_
 refine SmB ?_
 refine⟨.mk (by kernel_rfl),?_⟩
 apply run_sound 200
 refine SmB ?_
 refine CallG.Q _ Tryz.call183 c4 ?_
 refine SmC ?_
 exact endC.O
theorem num0_ok (h:Heap) (m id k:Nat) (md:Int) (mc:AV) (tie:Bool) (p:Int) (hb:∀l,Lab.pool l=false→h l=none) (hk:h (.obj id)=some (bankG md mc k tie)) (hp1: -9223372036854775808≤p) (hp2:p≤9223372036854775807):
  Ret Tryz.prog 64 [.ptr id,.int .i64 p,.int .i64 0] h m [.t v0.T] (upd h (.obj id) (some (bankE md mc k tie 4))) m:=by
 have hl:∀d j,h (.loc d j)=none:=fun d j=>hb _ rfl
 have c1:=failsG_ok h m id k md mc tie hb hk
 have c2:=quot0_ok h m id k md mc tie p hb hk hp1 hp2
 unfold noRat at c2
 rw[v0_T]
 refine Ret.iC Tryz.func64 [.c 6 68] ?_
 refine SmB ?_
 refine CallG.Q _ Tryz.call117 c1 ?_
 refine SmB ?_
 refine CallG.Q _ Tryz.call118 c2 ?_
 unfold bankE
 refine SmC ?_
 exact endC.O
theorem numE_ok (h:Heap) (m id:Nat) (md:Int) (hmd:md=0∨md=1) (mc:AV) (tie:Bool) (s:Es) (p q:Int) (hb:∀l,Lab.pool l=false→h l=none) (hk:h (.obj id)=some (bankE md mc s.k tie s.e)) (hp1: -9223372036854775808≤p) (hp2:p≤9223372036854775807) (hq1: -9223372036854775808≤q) (hq2:q≤9223372036854775807):
  Ret Tryz.prog 64 [.ptr id,.int .i64 p,.int .i64 q] h m [.t (numE md s p q).v.T] (upd h (.obj id) (some (bankE md mc (numE md s p q).s.k tie (numE md s p q).s.e))) m:=by
 unfold numE
 by_cases he:s.e=0
 ·rw[if_pos he]
  have hk2:=hk
  rw[he,bankE_0]at hk
  by_cases hq:q=0
  ·subst hq
   rw[if_pos rfl]
   exact num0_ok h m id s.k md mc tie p hb hk hp1 hp2
  ·rw[if_neg hq]
   dsimp only
   rw[upd_id hk2]
   exact numG_ok h m id s.k md mc tie p q hmd hb hk hq hp1 hp2 hq1 hq2
 ·rw[if_neg he]
  dsimp only
  rw[upd_id hk]
  exact numErr_ok h m id s.k md s.e p q mc tie he hb hk
def powsE (s:Es) (x:Vx):Nat→Vs
 |0=>⟨x,s⟩
 |i+1=>opE mulV (powsE s x i).s (powsE s x i).v x
def powE (s:Es) (one x:Vx) (n:Int):Vs:=
 if n=0 then ⟨one,s⟩ else if n<0 then divE (powsE s x (n.natAbs-1)).s one (powsE s x (n.natAbs-1)).v else powsE s x (n.natAbs-1)
theorem opE_e (f:Vx→Vx→Vx) (s:Es) (x y:Vx):(opE f s x y).s.e=s.e:=by
 unfold opE
 split
 ·rename_i h;exact h.symm
 ·rfl
theorem opE_k (f:Vx→Vx→Vx) (s:Es) (x y:Vx):(opE f s x y).s.k≤s.k+1:=by
 unfold opE
 split<;>simp
theorem powsE_e (s:Es) (x:Vx):∀i,(powsE s x i).s.e=s.e∧(powsE s x i).s.k≤s.k+i
 |0=>⟨rfl,Nat.le_refl _⟩
 | i + 1 => by
   have h:=powsE_e s x i
   have h2:=opE_k mulV (powsE s x i).s (powsE s x i).v x
   unfold powsE
   exact⟨(opE_e _ _ _ _).trans h.1,by omega⟩
theorem powsE_ok {s:Es} {x:Vx} {md:Int} (hx:s.e=0→x.md=md∧x.B 9):∀i,(powsE s x i).s.e=0→(powsE s x i).v.md=md∧(powsE s x i).v.B ((i+1)*9)∧(powsE s x i).v.Z ((i+1)*576)
 |0,he=>⟨(hx he).1,(hx he).2.mono (by omega),(Z_of_B (hx he).2).mono (by omega)⟩
 | i + 1, he => by
   have e0:s.e=0:=(powsE_e s x (i+1)).1.symm.trans he
   have e1:(powsE s x i).s.e=0:=(powsE_e s x i).1.trans e0
   obtain⟨h1,h2,h3⟩:=powsE_ok hx i e1
   obtain⟨g1,g2⟩:=hx e0
   unfold powsE opE
   rw[if_pos e1]
   exact⟨(mulV_md (h1.trans g1.symm)).trans h1,(mulV_B (h1.trans g1.symm) h2 g2).mono (by omega),(mulV_Z (h1.trans g1.symm) h3 (Z_of_B g2)).mono (by omega)⟩
set_option maxHeartbeats 2000000 in
theorem powG_ok (h:Heap) (m id:Nat) (md:Int) (mc:AV) (tie:Bool) (s:Es) (one x:Vx) (n:Int) (hb:∀l,Lab.pool l=false→h l=none) (hk:h (.obj id)=some (bankE md mc s.k tie s.e)) (hkb:s.k<1000000) (hn:n.natAbs≤10) (h1:OK1 md 9 s one) (hx:OK1 md 9 s x):
  Ret Tryz.prog 150 [.ptr id,one.T,x.T,.int .i64 n] h m [.t (powE s one x n).v.T] (upd h (.obj id) (some (bankE md mc (powE s one x n).s.k tie (powE s one x n).s.e))) m:=by
 have hloc:∀d j,h (.loc d j)=none:=fun d j=>hb _ rfl
 have hbU:∀o,∀l,Lab.pool l=false→upd h (.obj id) o l=none:=fun o=>upd_hb hb
 have w1:IntKind.wrap .i64 (0-n)= -n:=by rw[w64]<;>omega
 have x1:(if n< -n then-n else n)=(n.natAbs:Int):=by split<;>omega
 unfold powE
 refine Ret.introC Tryz.func150 rfl (rv:=[.c 8 68]) rfl (by simp[Tryz.ntmps150]) (by decide) (sites:=fun _=>false) (upd_hb hb) bank_keeps ?_
 by_cases h0:n=0
 ·subst h0
  rw[if_pos rfl]
  have hid:upd h (.obj id) (some (bankE md mc s.k tie s.e))=h:=upd_id hk
  dsimp only
  rw[hid]
  simp only[Vx_T]
  apply run_sound 200
  refine SmA ?_
  exact endC.O
 have d0:decide (n=0)=false:=decide_eq_false h0
 have w2:IntKind.wrap .i64 ((n.natAbs:Int)-1)=((n.natAbs-1:Nat):Int):=by rw[w64]<;>omega
 rw[if_neg h0]
 obtain⟨N,hN⟩:∃N,n.natAbs-1=N:=⟨_,rfl⟩
 rw[hN]at w2⊢
 simp only[Vx_T]
 apply run_sound 200
 simp-implicitDefEqProofs+decide only[go_sem,hloc,d0,w1,x1,w2]
 refine Goes.loop (X:=Nat) (fun i=>⟨ofL [(0,.t (.ptr id)),(3,.t (.int .i64 n)),(5,.bp (.loc 5 0) 0),(6,.bp (.loc 6 0) 0),(8,.bp (.loc 8 0) 0),(9,.bp (.loc 9 0) 0),(18,.t (.int .i64 N)),(19,.t (.int .i64 i))],
   ofH (upd h (.obj id) (some (bankE md mc (powsE s x i).s.k tie (powsE s x i).s.e))) [(.loc 5 0,.box (sCX 1 one)),(.loc 6 0,.box (sCX 1 x)),(.loc 8 0,.box [.t (.bool false),.nil,.nil,.t (.int .u64 0),.t (.int .i64 0)]),(.loc 9 0,.box (sCX 1 (powsE s x i).v))],m⟩) (fun i=>i≤N) (fun i=>N-i) 0 ?_ (by omega) ?_
 ·have e0:powsE s x 0=⟨x,s⟩:=rfl
  rw[e0]
  dsimp only
  rw[upd_id hk]
  refine Wk.boxes _ _ hb rfl rfl ?_ (by rintro (_|_|_|_|_) hp<;>first|(cases hp;done)|simp-implicitDefEqProofs+decide only[go_sem,hloc]) ?_ ?_
  ·simp-implicitDefEqProofs+decide only[go_sem,hloc,ofH,sCX_succ]<;>first|rfl|exact⟨rfl,rfl⟩|exact⟨rfl,rfl,rfl⟩|skip
  ·simp-implicitDefEqProofs+decide only[go_sem]<;>rfl
  ·simp-implicitDefEqProofs+decide only[go_sem]
 rintro i hi J hJ
 have hpe:=powsE_e s x i
 have hpo:=powsE_ok (s:=s) (x:=x) (md:=md) hx i
 have hst:powsE s x (i+1)=opE mulV (powsE s x i).s (powsE s x i).v x:=rfl
 obtain⟨⟨p,t⟩,hp⟩:∃q,powsE s x i=q:=⟨_,rfl⟩
 rw[hp]at hpe hpo hst⊢
 dsimp only at hpe hpo hst⊢
 have hB:(i+1)*9≤10000000:=by omega
 apply run_sound 200
 refine Sm ?_
 apply selP_dec<;>intro hc
 ·have hw:=wS (show i<1000000000000 by omega)
  have cm:=mulE_ok (upd h (.obj id) (some (bankE md mc t.k tie t.e))) m id md mc tie t p x (hbU _) (upd_same _ _ _) (by omega) (fun e=>⟨(hpo e).1,(hpo e).2.1.mono hB⟩) (fun e=>⟨(hx (hpe.1.symm.trans e)).1,(hx (hpe.1.symm.trans e)).2.mono (by decide)⟩)
  rw[upd_upd]at cm
  obtain⟨⟨p',t'⟩,hp'⟩:∃q,opE mulV t p x=q:=⟨_,rfl⟩
  rw[hp']at cm hst
  dsimp only at cm
  simp only[Vx_T]at cm
  simp-implicitDefEqProofs+decide only[go_sem,hloc,ofH,sCX_succ]
  refine CallG.pool _ Tryz.call56 cm (hbU _) (by rintro (_|_|_|_|_) hp<;>first|(cases hp;done)|simp-implicitDefEqProofs+decide only[go_sem,hloc]) ?_
  apply run_sound 200
  simp-implicitDefEqProofs+decide only[go_sem,hloc,hw]
  refine hJ (i+1) _ (by omega) (by omega) (Wk.boxes _ _ (hbU _) rfl rfl ?_ (by rintro (_|_|_|_|_) hp<;>first|(cases hp;done)|simp-implicitDefEqProofs+decide only[go_sem,hloc,hst]) ?_ ?_)
  ·simp-implicitDefEqProofs+decide only[go_sem,ofH,hloc,hst,sCX_succ]<;>first|rfl|exact⟨rfl,rfl⟩|exact⟨rfl,rfl,rfl⟩|skip
  ·simp-implicitDefEqProofs+decide only[go_sem]
  ·simp-implicitDefEqProofs+decide only[go_sem]
 ·obtain rfl:i=N:=by omega
  rw[hp]
  dsimp only
  simp-implicitDefEqProofs+decide only[go_sem,ofH]
  by_cases hneg:n<0
  ·have dn:decide (n<0)=true:=decide_eq_true hneg
   rw[if_pos hneg]
   have cd:=divE_ok (upd h (.obj id) (some (bankE md mc t.k tie t.e))) m id md mc tie t one p (hbU _) (upd_same _ _ _) (by omega) (fun e=>⟨(h1 (hpe.1.symm.trans e)).1,(h1 (hpe.1.symm.trans e)).2.mono (by decide)⟩) (fun e=>⟨(hpo e).1,(hpo e).2.1.mono hB⟩)
   rw[upd_upd]at cd
   obtain⟨⟨p',t'⟩,hp'⟩:∃q,divE t one p=q:=⟨_,rfl⟩
   rw[hp']at cd⊢
   dsimp only at cd⊢
   simp only[Vx_T]at cd⊢
   simp-implicitDefEqProofs+decide only[go_sem,dn,hloc,sCX_succ]
   refine CallG.pool _ Tryz.call74 cd (hbU _) (by rintro (_|_|_|_|_) hp<;>first|(cases hp;done)|simp-implicitDefEqProofs+decide only[go_sem,hloc]) ?_
   apply run_sound 200
   refine SmA ?_
   exact endC.O
  ·have dn:decide (n<0)=false:=decide_eq_false hneg
   rw[if_neg hneg]
   simp-implicitDefEqProofs+decide only[go_sem,dn,sCX_succ]
   exact endC.O
def askedL (op:Int) (x:Atr):List (Int×Int):=if op=10∨op=11 then [(1,1)] else if op=12 then (if x.n≠0∧x.n≠1 then [(1,1),(x.n,1)] else []) else if op=13∨op=16 then [(x.p,x.q)] else []
def pairT (p:Int×Int):T:=.agg [.int .i64 p.1,.int .i64 p.2]
def sPr (l:List (Int×Int)):T:=.slice (l.map pairT)
theorem askedL_len (op:Int) (x:Atr):(askedL op x).length≤2:=by
 unfold askedL
 repeat' split
 all_goals simp
theorem noPtr_sPr (l:List (Int×Int)):noPtr (sPr l)=true:=by
 unfold sPr
 rw[noPtr]
 induction l with
 |nil=>rfl
 |cons a r ih=>rw[List.map_cons,noPtrL,ih];rfl
theorem asked_ok (op:Int) (x:Atr):Pure Tryz.prog 97 [.int .i64 op,x.T] [.t (sPr (askedL op x))]:=by
 obtain⟨a1,a2,a3,a4,a5,a6,a7,a8,ak,al⟩:=x
 unfold askedL
 refine Pure.I Tryz.func97 [4] ?_
 simp-implicitDefEqProofs+decide only[go_sem,Atr.T,I,sI]
 by_cases h1:op=10∨op=11
 ·rw[if_pos h1]
  rcases h1 with rfl|rfl
  ·refine Sm ?_
   exact endF.row1 (.inr rfl) (by simp-implicitDefEqProofs+decide only[go_sem];rfl) (by simp-implicitDefEqProofs+decide only[go_sem];rfl) rfl (fun l hp=>by cases l<;>first|rfl|cases hp) rfl
  ·refine Sm ?_
   exact endF.row1 (.inr rfl) (by simp-implicitDefEqProofs+decide only[go_sem];rfl) (by simp-implicitDefEqProofs+decide only[go_sem];rfl) rfl (fun l hp=>by cases l<;>first|rfl|cases hp) rfl
 rw[if_neg h1]
 have d1:decide (op=10)=false:=decide_eq_false (by omega)
 have d2:decide (op=11)=false:=decide_eq_false (by omega)
 by_cases h2:op=12
 ·subst h2
  rw[if_pos rfl]
  by_cases h3:a1=0
  ·have e1:decide (a1≠0)=false:=decide_eq_false (fun h=>h h3)
   rw[if_neg (fun h=>h.1 h3)]
   simp-implicitDefEqProofs+decide only[go_sem,e1]
   exact endF.V [(4,.slice [])] (vals_n (by simp-implicitDefEqProofs+decide only[go_sem]) vals_nil)
  ·have e1:decide (a1≠0)=true:=decide_eq_true h3
   by_cases h4:a1=1
   ·have e2:decide (a1≠1)=false:=decide_eq_false (fun h=>h h4)
    rw[if_neg (fun h=>h.2 h4)]
    simp-implicitDefEqProofs+decide only[go_sem,e1,e2]
    exact endF.V [(4,.slice [])] (vals_n (by simp-implicitDefEqProofs+decide only[go_sem]) vals_nil)
   ·have e2:decide (a1≠1)=true:=decide_eq_true h4
    rw[if_pos ⟨h3,h4⟩]
    simp-implicitDefEqProofs+decide only[go_sem,e1,e2]
    exact endF.row1 (.inr rfl) (by simp-implicitDefEqProofs+decide only[go_sem];rfl) (by simp-implicitDefEqProofs+decide only[go_sem];rfl) rfl (fun l hp=>by cases l<;>first|rfl|cases hp) rfl
 rw[if_neg h2]
 have d3:decide (op=12)=false:=decide_eq_false h2
 by_cases h3:op=13∨op=16
 ·rw[if_pos h3]
  rcases h3 with rfl|rfl
  ·refine Sm ?_
   exact endF.row1 (.inr rfl) (by simp-implicitDefEqProofs+decide only[go_sem];rfl) (by simp-implicitDefEqProofs+decide only[go_sem];rfl) rfl (fun l hp=>by cases l<;>first|rfl|cases hp) rfl
  ·refine Sm ?_
   exact endF.row1 (.inr rfl) (by simp-implicitDefEqProofs+decide only[go_sem];rfl) (by simp-implicitDefEqProofs+decide only[go_sem];rfl) rfl (fun l hp=>by cases l<;>first|rfl|cases hp) rfl
 rw[if_neg h3]
 have d4:decide (op=13)=false:=decide_eq_false (by omega)
 have d5:decide (op=16)=false:=decide_eq_false (by omega)
 simp-implicitDefEqProofs+decide only[go_sem,d1,d2,d3,d4,d5]
 exact endF.V [(4,.slice [])] (vals_n (by simp-implicitDefEqProofs+decide only[go_sem]) vals_nil)
structure Ks where
 l:List Vx
 s:Es
def readyE (md:Int) (s:Es) (L:List (Int×Int)):Nat→Ks
 |0=>⟨[],s⟩
 |i+1=>⟨(readyE md s L i).l++[(numE md (readyE md s L i).s (L.getD i (0,0)).1 (L.getD i (0,0)).2).v],(numE md (readyE md s L i).s (L.getD i (0,0)).1 (L.getD i (0,0)).2).s⟩
theorem readyE_len (md:Int) (s:Es) (L:List (Int×Int)):∀i,(readyE md s L i).l.length=i
 |0=>rfl
 |i+1=>by unfold readyE;rw[List.length_append,readyE_len md s L i];rfl
def knT (l:List Vx):T:=.agg [sX l]
set_option maxHeartbeats 2000000 in
theorem ready_ok (h:Heap) (m id:Nat) (md op:Int) (hmd:md=0∨md=1) (mc:AV) (tie:Bool) (s:Es) (x:Atr) (hb:∀l,Lab.pool l=false→h l=none) (hk:h (.obj id)=some (bankE md mc s.k tie s.e)) (hr:∀q∈askedL op x,(-9223372036854775808≤q.1∧q.1≤9223372036854775807)∧ -9223372036854775808≤q.2∧q.2≤9223372036854775807):
  Ret Tryz.prog 43 [.ptr id,.int .i64 op,x.T] h m [.t (knT (readyE md s (askedL op x) (askedL op x).length).l)] (upd h (.obj id) (some (bankE md mc (readyE md s (askedL op x) (askedL op x).length).s.k tie (readyE md s (askedL op x) (askedL op x).length).s.e))) m:=by
 have hloc:∀d j,h (.loc d j)=none:=fun d j=>hb _ rfl
 have c1:=asked_ok op x
 have hl2:=askedL_len op x
 generalize askedL op x=L at*
 have hnp:=noPtr_sPr L
 obtain⟨a1,a2,a3,a4,a5,a6,a7,a8,ak,al⟩:=x
 refine Ret.iC Tryz.func43 [.c 6 90] ?_
 simp only[Atr.T,I,sI,sPr]at c1
 simp-implicitDefEqProofs+decide only[go_sem,hloc,Atr.T,I,sI]
 refine CallG.PS _ Tryz.call97 (c1) ?_
 simp-implicitDefEqProofs+decide only[go_sem,hloc,List.length_map]
 refine Goes.wk (Wk.nilCell (l0:=.loc 7 0) (lab:=.loc 300 0) (j:=0) (size:=5) (cs:=[.nil]) (by simp-implicitDefEqProofs+decide only[go_sem,hloc]) rfl (by simp-implicitDefEqProofs+decide only[go_sem,hloc]) rfl rfl (by decide)) ?_
 refine Goes.loop (X:=Nat) (fun i=>⟨ofL [(0,.t (.ptr id)),(6,.bp (.loc 6 0) 0),(7,.bp (.loc 7 0) 0),(12,.t (.slice (L.map pairT))),(13,.t (.int .i64 L.length)),(14,.t (.int .i64 i))],
   ofH (upd h (.obj id) (some (bankE md mc (readyE md s L i).s.k tie (readyE md s L i).s.e))) [(.loc 6 0,.box [.nil]),(.loc 7 0,.box [.sl (.loc 300 0) i 0 i]),(.loc 300 0,.arr 5 ((readyE md s L i).l.map Vx.T) i 0)],m⟩) (fun i=>i≤L.length) (fun i=>L.length-i) 0 ?_ (by omega) ?_
 ·have e0:readyE md s L 0=⟨[],s⟩:=rfl
  rw[e0]
  dsimp only
  rw[upd_id hk]
  refine Wk.boxes _ _ hb rfl rfl ?_ (by rintro (_|_|_|_|_) hp<;>first|(cases hp;done)|simp-implicitDefEqProofs+decide only[go_sem,hloc]) ?_ ?_
  ·simp-implicitDefEqProofs+decide only[go_sem,hloc,ofH,List.map_nil]<;>first|rfl|exact⟨rfl,rfl⟩|skip
  ·simp-implicitDefEqProofs+decide only[go_sem]<;>rfl
  ·simp-implicitDefEqProofs+decide only[go_sem]
 rintro i hi J hJ
 have hln:=readyE_len md s L i
 have hst:readyE md s L (i+1)=⟨(readyE md s L i).l++[(numE md (readyE md s L i).s (L.getD i (0,0)).1 (L.getD i (0,0)).2).v],(numE md (readyE md s L i).s (L.getD i (0,0)).1 (L.getD i (0,0)).2).s⟩:=rfl
 obtain⟨⟨vs,t⟩,hq⟩:∃q,readyE md s L i=q:=⟨_,rfl⟩
 rw[hq]at hln hst⊢
 dsimp only at hln hst⊢
 apply run_sound 200
 refine Sm ?_
 apply selP_dec<;>intro hc
 ·obtain⟨⟨p,q⟩,hp⟩:=getI (show i<L.length by omega)
  have hpd:L.getD i (0,0)=(p,q):=by rw[List.getD_eq_getElem?_getD,hp];rfl
  rw[hpd]at hst
  have hrr:=hr _ (List.mem_of_getElem? hp)
  have hw:=wS (show i<1000000000000 by omega)
  have hnb:i+1<big:=by unfold big;omega
  have cn:=numE_ok (upd h (.obj id) (some (bankE md mc t.k tie t.e))) m id md hmd mc tie t p q (upd_hb hb) (upd_same _ _ _) hrr.1.1 hrr.1.2 hrr.2.1 hrr.2.2
  rw[upd_upd]at cn
  obtain⟨⟨y,t'⟩,hy⟩:∃q',numE md t p q=q':=⟨_,rfl⟩
  rw[hy]at cn hst
  dsimp only at cn hst
  have e1:(vs.map Vx.T).length=i:=by rw[List.length_map,hln]
  have e3:vs.map Vx.T++[.agg [.bool y.neg,sW y.p,sW y.qq,.int .u64 y.bits,.int .i64 0]]=(vs++[y]).map Vx.T:=by rw[List.map_append,←Vx_T];rfl
  simp only[Vx_T]at cn
  have hb0:=hb
  simp-implicitDefEqProofs+decide only[go_sem,hp,pairT,ofH,hloc]
  have hb:=upd_hb (id:=id) (o:=some (bankE md mc t.k tie t.e)) hb0
  refine Goes.dP ?_
  simp-implicitDefEqProofs+decide only[go_sem,hp,pairT,ofH,hloc]
  refine CallD.M _ [(.obj id,bankE md mc t'.k tie t'.e)] Tryz.call64 cn ?_
  simp-implicitDefEqProofs+decide only[go_sem,hloc,e1,hln,e3,hnb,if_true]
  refine⟨.mk (by kernel_rfl),?_⟩
  apply run_sound 200
  simp-implicitDefEqProofs+decide only[go_sem,hloc,hw]
  refine hJ (i+1) _ (by omega) (by omega) (Wk.boxes _ _ (upd_hb hb0) rfl rfl ?_ (by rintro (_|_|_|_|_) hp<;>first|(cases hp;done)|simp-implicitDefEqProofs+decide only[go_sem,hloc,hst]) ?_ ?_)
  ·simp-implicitDefEqProofs+decide only[go_sem,ofH,hloc,hst,e1,hln,e3]<;>first|rfl|exact⟨rfl,rfl⟩|skip
  ·simp-implicitDefEqProofs+decide only[go_sem]<;>rfl
  ·simp-implicitDefEqProofs+decide only[go_sem]
 ·obtain rfl:i=L.length:=by omega
  rw[hq]
  dsimp only
  have htk:List.take L.length (vs.map Vx.T)=vs.map Vx.T:=List.take_of_length_le (by rw[List.length_map];omega)
  simp-implicitDefEqProofs+decide only[go_sem,ofH,hloc]
  exact endC.one (ws:=[(.loc 300 0,.arr 5 (vs.map Vx.T) L.length (vs.map Vx.T).length)]) (.inr rfl) (by simp-implicitDefEqProofs+decide only[go_sem,valC];rfl) (by simp-implicitDefEqProofs+decide only[go_sem,reify,reifyL,reify1,htk];rfl) (by rintro (_|_|_|_|_) hp<;>first|(cases hp;done)|simp-implicitDefEqProofs+decide only[go_sem,hloc]) rfl
inductive Ex where
 |v|y|x (i:Nat)|k (i:Nat)|pow (n:Int)|neg (a:Ex)|add (a b:Ex)|sub (a b:Ex)|mul (a b:Ex)|div (a b:Ex)
structure Ev where
 v:Vx
 y:Vx
 xs:List Vx
 ks:List Vx
def Ex.ev (E:Ev):Ex→Es→Vs
 |.v,s=>⟨E.v,s⟩
 |.y,s=>⟨E.y,s⟩
 |.x i,s=>⟨E.xs.getD i v0,s⟩
 |.k i,s=>⟨E.ks.getD i v0,s⟩
 |.pow n,s=>powE s (E.ks.getD 0 v0) (E.xs.getD 0 v0) n
 |.neg a,s=>negE (a.ev E s).s (a.ev E s).v
 |.add a b,s=>opE addV (b.ev E (a.ev E s).s).s (a.ev E s).v (b.ev E (a.ev E s).s).v
 |.sub a b,s=>opE subV (b.ev E (a.ev E s).s).s (a.ev E s).v (b.ev E (a.ev E s).s).v
 |.mul a b,s=>opE mulV (b.ev E (a.ev E s).s).s (a.ev E s).v (b.ev E (a.ev E s).s).v
 |.div a b,s=>divE (b.ev E (a.ev E s).s).s (a.ev E s).v (b.ev E (a.ev E s).s).v
section
variable {md:Int} {s:Es} {x y:Vx} {a b:Nat}
theorem opE_good {f:Vx→Vx→Vx} (hf:x.md=y.md→x.B a→y.B b→(f x y).md=x.md∧(f x y).B (a+b+1)) (hx:s.e=0→x.md=md∧x.B a) (hy:s.e=0→y.md=md∧y.B b):
  ((opE f s x y).s.e=0→s.e=0)∧((opE f s x y).s.e=0→(opE f s x y).v.md=md∧(opE f s x y).v.B (a+b+1))∧(opE f s x y).s.k≤s.k+1:=by
 refine⟨fun h=>(opE_e f s x y).symm.trans h,fun h=> ?_,opE_k f s x y⟩
 have h0:s.e=0:=(opE_e f s x y).symm.trans h
 unfold opE
 rw[if_pos h0]
 have:=hf ((hx h0).1.trans (hy h0).1.symm) (hx h0).2 (hy h0).2
 exact⟨this.1.trans (hx h0).1,this.2⟩
theorem addE_g (hx:s.e=0→x.md=md∧x.B a) (hy:s.e=0→y.md=md∧y.B b):((opE addV s x y).s.e=0→s.e=0)∧((opE addV s x y).s.e=0→(opE addV s x y).v.md=md∧(opE addV s x y).v.B (a+b+1))∧(opE addV s x y).s.k≤s.k+1:=
 opE_good (fun h1 h2 h3=>⟨addV_md h1,addV_B h1 h2 h3⟩) hx hy
theorem subE_g (hx:s.e=0→x.md=md∧x.B a) (hy:s.e=0→y.md=md∧y.B b):((opE subV s x y).s.e=0→s.e=0)∧((opE subV s x y).s.e=0→(opE subV s x y).v.md=md∧(opE subV s x y).v.B (a+b+1))∧(opE subV s x y).s.k≤s.k+1:=
 opE_good (fun h1 h2 h3=>⟨subV_md h1,subV_B h1 h2 h3⟩) hx hy
theorem mulE_g (hx:s.e=0→x.md=md∧x.B a) (hy:s.e=0→y.md=md∧y.B b):((opE mulV s x y).s.e=0→s.e=0)∧((opE mulV s x y).s.e=0→(opE mulV s x y).v.md=md∧(opE mulV s x y).v.B (a+b+1))∧(opE mulV s x y).s.k≤s.k+1:=
 opE_good (fun h1 h2 h3=>⟨mulV_md h1,(mulV_B h1 h2 h3).mono (by omega)⟩) hx hy
theorem divE_g (hx:s.e=0→x.md=md∧x.B a) (hy:s.e=0→y.md=md∧y.B b):((divE s x y).s.e=0→s.e=0)∧((divE s x y).s.e=0→(divE s x y).v.md=md∧(divE s x y).v.B (a+b+1))∧(divE s x y).s.k≤s.k+1:=by
 unfold divE
 by_cases h0:s.e=0
 ·rw[if_pos h0]
  by_cases hz:y.zero=true
  ·rw[if_pos hz]
   exact⟨fun h=>(by cases h),fun h=>(by cases h),by dsimp only;omega⟩
  ·rw[if_neg hz]
   have hm:=(hx h0).1.trans (hy h0).1.symm
   exact⟨fun _=>h0,fun _=>⟨(divV_md hm).trans (hx h0).1,(divV_B hm (hx h0).2 (hy h0).2 (Vx.nz_of (by simpa using hz))).mono (by omega)⟩,Nat.le_refl _⟩
 ·rw[if_neg h0]
  exact⟨fun h=>absurd h h0,fun h=>absurd h h0,by dsimp only;omega⟩
theorem negE_g (hx:s.e=0→x.md=md∧x.B a):((negE s x).s.e=0→s.e=0)∧((negE s x).s.e=0→(negE s x).v.md=md∧(negE s x).v.B a)∧(negE s x).s.k≤s.k+1:=by
 unfold negE
 by_cases h0:s.e=0
 ·rw[if_pos h0]
  exact⟨fun _=>h0,fun _=>⟨(negV_md x).trans (hx h0).1,negV_B (hx h0).2⟩,Nat.le_refl _⟩
 ·rw[if_neg h0]
  exact⟨fun h=>absurd h h0,fun h=>absurd h h0,by dsimp only;omega⟩
theorem powE_g {n:Int} (hn:n.natAbs≤10) (hx:s.e=0→x.md=md∧x.B 9) (hy:s.e=0→y.md=md∧y.B 9):((powE s x y n).s.e=0→s.e=0)∧((powE s x y n).s.e=0→(powE s x y n).v.md=md∧(powE s x y n).v.B 100)∧(powE s x y n).s.k≤s.k+11:=by
 unfold powE
 have he:=powsE_e s y (n.natAbs-1)
 have hp:=powsE_ok (s:=s) (x:=y) (md:=md) hy (n.natAbs-1)
 split
 ·exact⟨id,fun h=>⟨(hx h).1,(hx h).2.mono (by decide)⟩,by dsimp only;omega⟩
 split
 ·have hd:=divE_g (md:=md) (a:=9) (b:=90) (s:=(powsE s y (n.natAbs-1)).s) (x:=x) (y:=(powsE s y (n.natAbs-1)).v) (fun h=>hx (he.1.symm.trans h)) (fun h=>⟨(hp h).1,(hp h).2.1.mono (by omega)⟩)
  exact⟨fun h=>he.1.symm.trans (hd.1 h),hd.2.1,by omega⟩
 ·exact⟨fun h=>he.1.symm.trans h,fun h=>⟨(hp h).1,(hp h).2.1.mono (by omega)⟩,by omega⟩
end
theorem OK1_of {md:Int} {a:Nat} {s:Es} {x:Vx} (h:s.e=0→x.md=md∧x.B a) (ha:a≤400:=by decide):OK1 md 10000000 s x:=fun e=>⟨(h e).1,(h e).2.mono (by omega)⟩
def atT (xs:List Vx) (y:Vx) (pick:Int):T:=.agg [sX xs,.bool y.neg,sW y.p,sW y.qq,.int .u64 y.bits,.int .i64 0,.int .i64 pick]
end Go.Fm
