/- Scalars and banks, exact or of doubles. -/
import Derived.Test.YteodjhhobkcnjaaGreatHdB
import Derived.Test.YteodjhhobkcnjaaGreatHdA
import Derived.Test.YteodjhhobkcnjaaGreatHcC
import Derived.Test.YteodjhhobkcnjaaGreatHdC
import Derived.Test.YteodjhhobkcnjaaGreatHbC
import Derived.Test.YteodjhhobkcnjaaGreatHcA
import Derived.Test.YteodjhhobkcnjaaGreatHbA
import Derived.Test.YteodjhhobkcnjaaGreatHcB
import Derived.Test.YteodjhhobkcnjaaGreatHcD
set_option linter.unusedVariables false
set_option linter.unusedSimpArgs false
namespace Go.Fm
open Go.Proofs
set_option maxRecDepth 100000
attribute [local irreducible] tiOf
inductive Vx where
 |q (r:Rat)|d (b:Nat)
namespace Vx
def sc:Vx→Sc
 |.q r=>scR r
 |.d b=>⟨⟨false,[],[]⟩,b,0⟩
def md:Vx→Int
 |.q _=>0
 |.d _=>1
def B (n:Nat):Vx→Prop
 |.q r=>QB r n
 |.d b=>b<18446744073709551616
def neg (v:Vx):Bool:=v.sc.x.neg
def p (v:Vx):List Nat:=v.sc.x.p
def qq (v:Vx):List Nat:=v.sc.x.q
def bits (v:Vx):Nat:=v.sc.b
def T (v:Vx):T:=v.sc.T
end Vx
theorem Vx_T (v:Vx):v.T=.agg [.bool v.neg,sW v.p,sW v.qq,.int .u64 v.bits,.int .i64 0]:=by cases v<;>rfl
theorem Vx_q (r:Rat):(Vx.q r).T=vT r:=rfl
theorem Vx_d (b:Nat):(Vx.d b).T=.agg [.bool false,.slice [],.slice [],.int .u64 b,.int .i64 0]:=rfl
theorem Vx.B.mono {v:Vx} {a b:Nat} (h:v.B a) (hab:a≤b):v.B b:=by
 cases v with
 |q r=>exact QB.mono h hab
 |d x=>exact h
theorem noPtr_Vx (v:Vx):noPtr v.T=true:=noPtr_Sc _
theorem noPtrL_Vx (l:List Vx):noPtrL (l.map Vx.T)=true:=by
 induction l with
 |nil=>rfl
 |cons x r ih=>rw[List.map_cons,noPtrL,ih,noPtr_Vx];rfl
def sX (l:List Vx):T:=.slice (l.map Vx.T)
theorem SmX {a b:Prop} (h:b) (e:a=b:=by simp-implicitDefEqProofs+decide only[go_sem,sX];rfl):a:=Eq.mpr e h
theorem noPtr_sX (l:List Vx):noPtr (sX l)=true:=by unfold sX;rw[noPtr,noPtrL_Vx]
attribute [go_sem] noPtr_Vx noPtr_sX
theorem sX_S (l:List Vx):sX l=sS (l.map Vx.sc):=by unfold sX sS;rw[List.map_map];rfl
def addV:Vx→Vx→Vx
 |.q r,.q s=>.q (r+s)
 |.d a,.d b=>.d (addD a b)
 |_,_=>.q 0
def subV:Vx→Vx→Vx
 |.q r,.q s=>.q (r-s)
 |.d a,.d b=>.d (addD a (flipD b))
 |_,_=>.q 0
def mulV:Vx→Vx→Vx
 |.q r,.q s=>.q (r*s)
 |.d a,.d b=>.d (mulD a b)
 |_,_=>.q 0
theorem addV_md {x y:Vx} (h:x.md=y.md):(addV x y).md=x.md:=by cases x<;>cases y<;>first|rfl|(simp[Vx.md]at h)
theorem subV_md {x y:Vx} (h:x.md=y.md):(subV x y).md=x.md:=by cases x<;>cases y<;>first|rfl|(simp[Vx.md]at h)
theorem mulV_md {x y:Vx} (h:x.md=y.md):(mulV x y).md=x.md:=by cases x<;>cases y<;>first|rfl|(simp[Vx.md]at h)
theorem sgnD_lt {neg:Bool} {b:Nat} (h:b<9223372036854775808):sgnD neg b<18446744073709551616:=by unfold sgnD;split<;>omega
theorem infD_lt (neg:Bool):infD neg<18446744073709551616:=sgnD_lt (by decide)
theorem rndD_lt (neg:Bool) (m:Nat) (e:Int):rndD neg m e<18446744073709551616:=by
 unfold rndD
 split
 ·exact sgnD_lt (by decide)
 ·rename_i h
  split
  ·exact infD_lt _
  ·rename_i h2
   refine sgnD_lt (encD_lt (by unfold unitD;omega) (by omega) (unitsD_le h))
theorem addD_lt {a b:Nat} (ha:a<18446744073709551616) (hb:b<18446744073709551616):addD a b<18446744073709551616:=by
 unfold addD
 split
 ·decide
 split
 ·decide
 split
 ·exact ha
 split
 ·exact hb
 unfold numsD addE addX
 split
 ·exact rndD_lt _ _ _
 split
 ·decide
 split
 ·exact rndD_lt _ _ _
 ·exact rndD_lt _ _ _
theorem mulD_lt (a b:Nat):mulD a b<18446744073709551616:=by
 unfold mulD
 split
 ·decide
 split
 ·split
  ·decide
  ·exact infD_lt _
 ·exact rndD_lt _ _ _
theorem flipD_lt {b:Nat} (hb:b<18446744073709551616):flipD b<18446744073709551616:=by
 unfold flipD
 split
 ·decide
 ·unfold flipB;split<;>omega
theorem addV_B {x y:Vx} {a b:Nat} (h:x.md=y.md) (hx:x.B a) (hy:y.B b):(addV x y).B (a+b+1):=by
 cases x<;>cases y<;>first|exact QB_add hx hy|exact addD_lt hx hy|(simp[Vx.md]at h)
theorem mulV_B {x y:Vx} {a b:Nat} (h:x.md=y.md) (hx:x.B a) (hy:y.B b):(mulV x y).B (a+b):=by
 cases x<;>cases y<;>first|exact QB_mul hx hy|exact mulD_lt _ _|(simp[Vx.md]at h)
def bankG (md:Int) (mc:AV) (k:Nat) (tie:Bool):Obj:=.box [.t (.int .i64 md),.t (.int .i64 0),.nil,.t (.slice []),mc,.t (.int .i64 0),.t (.int .i64 k),.t (.bool tie),.t (.int .i64 0)]
theorem upd_hb {h:Heap} {id:Nat} {o:Option Obj} (hb:∀l,Lab.pool l=false→h l=none):∀l,Lab.pool l=false→upd h (.obj id) o l=none:=fun l hp=>by
 rw[upd_ne _ _ _ _ (fun e=>by subst e;cases hp)];exact hb l hp
theorem failsG_ok (h:Heap) (m id k:Nat) (md:Int) (mc:AV) (tie:Bool) (hb:∀l,Lab.pool l=false→h l=none) (hk:h (.obj id)=some (bankG md mc k tie)):
  Ret Tryz.prog 117 [.ptr id] h m [.t (.bool false)] h m:=by
 have hl:∀d j,h (.loc d j)=none:=fun d j=>hb _ rfl
 unfold bankG at hk
 refine Ret.iF Tryz.func117 [2] ?_
 simp-implicitDefEqProofs+decide only[go_sem,hk,hl]
 exact endF.oneH (.inr rfl) (by simp-implicitDefEqProofs+decide only[go_sem,hk,hl]) rfl (fun _ _=>rfl) rfl
theorem errG_ok (h:Heap) (m id k:Nat) (md:Int) (mc:AV) (tie:Bool) (hb:∀l,Lab.pool l=false→h l=none) (hk:h (.obj id)=some (bankG md mc k tie)):
  Ret Tryz.prog 17 [.ptr id] h m [.t (.int .i64 0)] h m:=by
 have hl:∀d j,h (.loc d j)=none:=fun d j=>hb _ rfl
 unfold bankG at hk
 refine Ret.iF Tryz.func17 [2] ?_
 simp-implicitDefEqProofs+decide only[go_sem,hk,hl]
 exact endF.oneH (.inr rfl) (by simp-implicitDefEqProofs+decide only[go_sem,hk,hl]) rfl (fun _ _=>rfl) rfl
theorem dblAdd_ok (a b:Nat) (ha:a<18446744073709551616) (hb:b<18446744073709551616):Pure Tryz.prog 166 [.int .i64 4,.int .u64 a,.int .u64 b] [.t (.int .u64 (addD a b:Nat))]:=by
 have c1:=fadd_ok a b ha hb
 refine Pure.I Tryz.func166 [6] ?_
 refine Sm ?_
 refine CallG.P _ Tryz.call219 (c1) ?_
 refine Sm ?_
 exact endF.V1 6 (.int .u64 (addD a b:Nat))
theorem dblSub_ok (a b:Nat) (ha:a<18446744073709551616) (hb:b<18446744073709551616):Pure Tryz.prog 166 [.int .i64 5,.int .u64 a,.int .u64 b] [.t (.int .u64 (addD a (flipD b):Nat))]:=by
 have c1:=fsub_ok a b ha hb
 refine Pure.I Tryz.func166 [6] ?_
 refine Sm ?_
 refine CallG.P _ Tryz.call220 (c1) ?_
 refine Sm ?_
 exact endF.V1 6 (.int .u64 (addD a (flipD b):Nat))
theorem dblMul_ok (a b:Nat) (ha:a<18446744073709551616) (hb:b<18446744073709551616):Pure Tryz.prog 166 [.int .i64 6,.int .u64 a,.int .u64 b] [.t (.int .u64 (mulD a b:Nat))]:=by
 have c1:=fmul_ok a b ha hb
 refine Pure.I Tryz.func166 [6] ?_
 refine Sm ?_
 refine CallG.P _ Tryz.call221 (c1) ?_
 refine Sm ?_
 exact endF.V1 6 (.int .u64 (mulD a b:Nat))
theorem doQ_ok (op:Int) (t:Rat) (h:Heap) (m id k:Nat) (mc:AV) (tie:Bool) (r s:Rat) (hb:∀l,Lab.pool l=false→h l=none) (hk:h (.obj id)=some (bankG 0 mc k tie)) (hkb:k<1000000000)
  (he:∀(h:Heap),(∀l,Lab.pool l=false→h l=none)→Ret Tryz.prog 165 [.ptr id,.int .i64 op,(qR r).T,(qR s).T] h m [.t (qR t).T] h m):
  Ret Tryz.prog 110 [.ptr id,.int .i64 op,vT r,vT s,.bool true] h m [.t (vT t)] (upd h (.obj id) (some (bankG 0 mc (k+1) tie))) m:=by
 have hl:∀d j,h (.loc d j)=none:=fun d j=>hb _ rfl
 have c1:=failsG_ok h m id k 0 mc tie hb hk
 have hb2:∀l,Lab.pool l=false→upd h (.obj id) (some (bankG 0 mc (k+1) tie)) l=none:=upd_hb hb
 have c2:=he (upd h (.obj id) (some (bankG 0 mc (k+1) tie))) hb2
 have hw:=wS (show k<1000000000000 by omega)
 refine Ret.introC Tryz.func110 rfl (rv:=[.c 10 68]) rfl (by simp[Tryz.ntmps110]) (by decide) (sites:=fun _=>false) hb2 bank_keeps ?_
 simp only[qT]at c2⊢
 simp only[vT_eq]
 apply run_sound 200
 refine SmB ?_
 refine CallG.Q _ Tryz.call117 c1 ?_
 unfold bankG at hk
 simp-implicitDefEqProofs+decide only[go_sem,hk,hw,hl]
 refine CallG.pool _ Tryz.call165 c2 hb2 (by rintro (_|_|_|_|_) hp<;>first|(cases hp;done)|simp-implicitDefEqProofs+decide only[go_sem,bankG]) ?_
 apply run_sound 200
 unfold bankG
 refine SmC ?_
 exact endC.O
theorem doD_ok (op:Int) (t:Nat) (h:Heap) (m id k:Nat) (mc:AV) (tie:Bool) (a b:Nat) (hb:∀l,Lab.pool l=false→h l=none) (hk:h (.obj id)=some (bankG 1 mc k tie)) (hkb:k<1000000000)
  (he:Pure Tryz.prog 166 [.int .i64 op,.int .u64 a,.int .u64 b] [.t (.int .u64 (t:Nat))]):
  Ret Tryz.prog 110 [.ptr id,.int .i64 op,(Vx.d a).T,(Vx.d b).T,.bool true] h m [.t (Vx.d t).T] (upd h (.obj id) (some (bankG 1 mc (k+1) tie))) m:=by
 have hl:∀d j,h (.loc d j)=none:=fun d j=>hb _ rfl
 have c1:=failsG_ok h m id k 1 mc tie hb hk
 have hb2:∀l,Lab.pool l=false→upd h (.obj id) (some (bankG 1 mc (k+1) tie)) l=none:=upd_hb hb
 have hw:=wS (show k<1000000000000 by omega)
 refine Ret.introC Tryz.func110 rfl (rv:=[.c 10 68]) rfl (by simp[Tryz.ntmps110]) (by decide) (sites:=fun _=>false) hb2 bank_keeps ?_
 simp only[Vx_d]
 apply run_sound 200
 refine SmB ?_
 refine CallG.Q _ Tryz.call117 c1 ?_
 unfold bankG at hk
 simp-implicitDefEqProofs+decide only[go_sem,hk,hw,hl]
 refine CallG.P _ Tryz.call166 (he) ?_
 unfold bankG
 refine SmC ?_
 exact endC.O
theorem exQMul_ok (h:Heap) (m id:Nat) (r s:Rat) (hb:∀l,Lab.pool l=false→h l=none) (hr:QB r 10000000) (hs:QB s 10000000):
  Ret Tryz.prog 165 [.ptr id,.int .i64 6,(qR r).T,(qR s).T] h m [.t (qR (r*s)).T] h m:=by
 have hl:∀d j,h (.loc d j)=none:=fun d j=>hb _ rfl
 have c1:=mul_okQ r s hr hs
 refine Ret.iC Tryz.func165 [.c 8 65] ?_
 simp only[qT]at c1⊢
 refine SmB ?_
 refine CallG.PS _ Tryz.call217 (c1) ?_
 refine SmC ?_
 exact endC.Q
theorem exQAdd_ok (h:Heap) (m id:Nat) (r s:Rat) (hb:∀l,Lab.pool l=false→h l=none) (hr:QB r 10000000) (hs:QB s 10000000):
  Ret Tryz.prog 165 [.ptr id,.int .i64 4,(qR r).T,(qR s).T] h m [.t (qR (r+s)).T] h m:=by
 have hl:∀d j,h (.loc d j)=none:=fun d j=>hb _ rfl
 have c1:=add_okQ r s hr hs
 refine Ret.iC Tryz.func165 [.c 8 65] ?_
 simp only[qT]at c1⊢
 refine SmB ?_
 refine CallG.PS _ Tryz.call215 (c1) ?_
 refine SmC ?_
 exact endC.Q
theorem bankMulG_ok (h:Heap) (m id k:Nat) (md:Int) (mc:AV) (tie:Bool) (x y:Vx) (hb:∀l,Lab.pool l=false→h l=none) (hk:h (.obj id)=some (bankG md mc k tie)) (hkb:k<1000000000) (mx:x.md=md) (my:y.md=md) (bx:x.B 10000000) (by':y.B 10000000):
  Ret Tryz.prog 56 [.ptr id,x.T,y.T] h m [.t (mulV x y).T] (upd h (.obj id) (some (bankG md mc (k+1) tie))) m:=by
 have hl:∀d j,h (.loc d j)=none:=fun d j=>hb _ rfl
 have c1:Ret Tryz.prog 110 [.ptr id,.int .i64 6,x.T,y.T,.bool true] h m [.t (mulV x y).T] (upd h (.obj id) (some (bankG md mc (k+1) tie))) m:=by
  subst mx
  cases x with
  | q r => cases y with
    |q s=>exact doQ_ok 6 (r*s) h m id k mc tie r s hb hk hkb fun h hb=>exQMul_ok h m id r s hb bx by'
    |d b=>simp[Vx.md]at my
  | d a => cases y with
    |q s=>simp[Vx.md]at my
    |d b=>exact doD_ok 6 (mulD a b) h m id k mc tie a b hb hk hkb (dblMul_ok a b bx by')
 refine Ret.iC Tryz.func56 [.c 6 68] ?_
 simp only[Vx_T]at c1⊢
 refine SmB ?_
 refine CallG.Q _ Tryz.call110 c1 ?_
 refine SmC ?_
 exact endC.O
theorem bankAddG_ok (h:Heap) (m id k:Nat) (md:Int) (mc:AV) (tie:Bool) (x y:Vx) (hb:∀l,Lab.pool l=false→h l=none) (hk:h (.obj id)=some (bankG md mc k tie)) (hkb:k<1000000000) (mx:x.md=md) (my:y.md=md) (bx:x.B 10000000) (by':y.B 10000000):
  Ret Tryz.prog 57 [.ptr id,x.T,y.T] h m [.t (addV x y).T] (upd h (.obj id) (some (bankG md mc (k+1) tie))) m:=by
 have hl:∀d j,h (.loc d j)=none:=fun d j=>hb _ rfl
 have c1:Ret Tryz.prog 110 [.ptr id,.int .i64 4,x.T,y.T,.bool true] h m [.t (addV x y).T] (upd h (.obj id) (some (bankG md mc (k+1) tie))) m:=by
  subst mx
  cases x with
  | q r => cases y with
    |q s=>exact doQ_ok 4 (r+s) h m id k mc tie r s hb hk hkb fun h hb=>exQAdd_ok h m id r s hb bx by'
    |d b=>simp[Vx.md]at my
  | d a => cases y with
    |q s=>simp[Vx.md]at my
    |d b=>exact doD_ok 4 (addD a b) h m id k mc tie a b hb hk hkb (dblAdd_ok a b bx by')
 refine Ret.iC Tryz.func57 [.c 6 68] ?_
 simp only[Vx_T]at c1⊢
 refine SmB ?_
 refine CallG.Q _ Tryz.call110 c1 ?_
 refine SmC ?_
 exact endC.O
def AllX (md:Int) (n:Nat) (l:List Vx):Prop:=∀v∈l,v.md=md∧v.B n
def argX (d:List Int) (l:List Vx):T:=.agg [sI d,sX l]
def sCX (k:Nat) (v:Vx):List AV:=if k=0 then [.t (.bool false),.nil,.nil,.t (.int .u64 0),.t (.int .i64 0)] else [.t (.bool v.neg),.t (sW v.p),.t (sW v.qq),.t (.int .u64 v.bits),.t (.int .i64 0)]
theorem sCX_succ (k:Nat) (v:Vx):sCX (k+1) v=[.t (.bool v.neg),.t (sW v.p),.t (sW v.qq),.t (.int .u64 v.bits),.t (.int .i64 0)]:=by unfold sCX;rw[if_neg (by omega)]
theorem bankNewG_ok (h:Heap) (m:Nat) (md:Int) (hmd:md=0∨md=1) (hb:∀l,Lab.pool l=false→h l=none) (hm:h (.obj m)=none):
  Ret Tryz.prog 11 [.int .i64 md,.slice []] h m [.t (.ptr m)] (upd h (.obj m) (some (bankG md .nil 0 false))) (m+1):=by
 have hl:∀d j,h (.loc d j)=none:=fun d j=>hb _ rfl
 have d1:decide (md<0)=false:=decide_eq_false (by omega)
 have d2:decide ((2:Int)<md)=false:=decide_eq_false (by omega)
 refine Ret.intro Tryz.func11 rfl (rt:=[4]) rfl (by simp[Tryz.ntmps11]) (by decide) (sites:=fun d=>d==16) (upd_hb hb) bank_keeps ?_
 apply run_sound 22
 simp-implicitDefEqProofs+decide only[go_sem,hl,d1,d2]
 change Goes _ _ _ _ _
 refine Goes.wk (Wk.freeze 14 (t:=.slice []) (ws:=[(.loc 12 0,.arr 1 [] 1 0)]) (acc:=[.loc 12 0]) (by simp-implicitDefEqProofs+decide only[go_sem])) ?_
 apply run_sound 200
 simp-implicitDefEqProofs+decide only[go_sem,hl,hm]
 exact endF.ptr (.inr rfl) (by simp-implicitDefEqProofs+decide only[go_sem]) (by rintro (_|_|_|_|_) hp<;>first|(cases hp;done)|simp-implicitDefEqProofs+decide only[go_sem,hl,bankG,nat0]) rfl
theorem qR_nat (n:Nat):qR (n:Rat)=⟨false,wordsOf n,[1]⟩:=by
 have h:¬(n:Rat).num<0:=by rw[Rat.num_natCast];omega
 unfold qR
 rw[decide_eq_false h,Rat.num_natCast,Rat.den_natCast,words_one,Int.natAbs_natCast]
theorem QB_nat (n:Nat) (h:n<18446744073709551616):QB (n:Rat) 1:=by
 refine⟨?_,?_⟩
 ·show(wordsOf (n:Rat).num.natAbs).length≤1
  rw[Rat.num_natCast]
  exact len_wordsOf (by simpa using h)
 ·show(wordsOf (n:Rat).den).length≤1
  rw[Rat.den_natCast,words_one];exact Nat.le_refl _
def Vx.Z (n:Nat):Vx→Prop
 |.q r=>ZB r n
 |.d _=>True
theorem Vx.Z.mono {v:Vx} {a b:Nat} (h:v.Z a) (hab:a≤b):v.Z b:=by
 cases v with
 |q r=>exact ZB.mono h hab
 |d x=>trivial
theorem mulV_Z {x y:Vx} {a b:Nat} (h:x.md=y.md) (hx:x.Z a) (hy:y.Z b):(mulV x y).Z (a+b):=by
 cases x<;>cases y<;>first|exact ZB_mul hx hy|trivial|(simp[Vx.md]at h)
theorem Z_of_B {v:Vx} {n:Nat} (h:v.B n):v.Z (64*n):=by
 cases v with
 |q r=>exact ZB_of h
 |d x=>trivial
def rightD (s:Sc):Bool:=decide (s.x=⟨false,[],[]⟩)&&(decide (s.f=0)&&decide (cleanD s.b=s.b))
def rightX (md:Int) (s:Sc):Bool:=if md=0 then rightB s else rightD s
theorem rRightD_ok (s:Sc) (h:SOK s 1000) (hb:s.b<18446744073709551616):Pure Tryz.prog 96 [.int .i64 1,s.T] [.t (.bool (rightD s))]:=by
 have c1:=rSame_ok s.x ⟨false,[],[]⟩ (by have:=h.lp;omega) (by have:=h.lq;omega) (by simp) (by simp)
 have c2:=dClean_ok s.b hb
 unfold rightD
 obtain⟨b1,hb1⟩:∃b,decide (s.x=⟨false,[],[]⟩)=b:=⟨_,rfl⟩
 rw[hb1]at c1⊢
 obtain⟨⟨n,p,q⟩,b,f⟩:=s
 simp only[Rt.T,rT]at c1
 clear hb1 h
 dsimp only at c2 hb⊢
 have d1:decide (((cleanD b:Nat):Int)=(b:Int))=decide (cleanD b=b):=decide_eq_decide.2 (by omega)
 obtain⟨v,hv⟩:∃v,(b1&&(decide (f=0)&&decide (cleanD b=b)))=v:=⟨_,rfl⟩
 rw[hv]
 refine Pure.I Tryz.func96 [4] ?_
 simp-implicitDefEqProofs+decide only[go_sem,Sc.T_eq,sW]
 simp only[sW]at c1
 refine CallG.P _ Tryz.call80 (c1) ?_
 refine Sm ?_
 refine Goes.drawN mixed ?_
 cases b1
 ·obtain rfl:v=false:=by rw[←hv];rfl
  refine Sm ?_
  refine⟨.mk (by kernel_rfl),?_⟩
  apply run_sound 200
  refine Sm ?_
  exact endF.V1 4 (.bool false)
 ·by_cases h1:f=0
  ·subst h1
   obtain rfl:decide (cleanD b=b)=v:=by rw[←hv];simp
   refine Sm ?_
   refine CallD.P _ Tryz.call157 c2 ?_
   simp-implicitDefEqProofs+decide only[go_sem,d1]
   refine⟨.mk (by kernel_rfl),?_⟩
   apply run_sound 200
   refine Sm ?_
   exact endF.V [(4,.bool (decide (cleanD b=b)))] (vals_t (by simp-implicitDefEqProofs+decide only[go_sem,d1]<;>rfl) rfl vals_nil)
  ·obtain rfl:v=false:=by rw[←hv,decide_eq_false h1];rfl
   have e1:decide (f=0)=false:=decide_eq_false h1
   simp-implicitDefEqProofs+decide only[go_sem,e1]
   refine⟨.mk (by kernel_rfl),?_⟩
   apply run_sound 200
   refine Sm ?_
   exact endF.V1 4 (.bool false)
theorem rRightX_ok (md:Int) (hmd:md=0∨md=1) (s:Sc) (h:SOK s 1000) (hb:s.b<18446744073709551616):Pure Tryz.prog 96 [.int .i64 md,s.T] [.t (.bool (rightX md s))]:=by
 rcases hmd with rfl|rfl
 ·exact rRightV_ok s h
 ·exact rRightD_ok s h hb
theorem rValsX_ok (md:Int) (hmd:md=0∨md=1) (l:List Sc) (hl:l.length<1000000000) (h:∀s∈l,SOK s 1000∧s.b<18446744073709551616):Pure Tryz.prog 42 [.int .i64 md,sS l] [.t (.bool (l.all (rightX md)))]:=by
 refine Pure.I Tryz.func42 [4] ?_
 simp-implicitDefEqProofs+decide only[go_sem,sS,List.length_map]
 refine Goes.loop (X:=Nat) (fun i=>⟨ofL [(0,.t (.int .i64 md)),(1,.t (sS l)),(7,.t (.int .i64 l.length)),(8,.t (.int .i64 i))],fun _=>none,0⟩) (fun i=>i≤l.length∧(l.take i).all (rightX md)=true) (fun i=>l.length-i) 0 (Wk.slots _ rfl rfl (by simp-implicitDefEqProofs+decide only[go_sem,sS]) (by simp-implicitDefEqProofs+decide only[go_sem,sS])) (by simp) ?_
 rintro i ⟨hi,he⟩ J hJ
 apply run_sound 200
 simp-implicitDefEqProofs+decide only[go_sem,sS]
 apply selP_dec<;>intro hc
 ·obtain⟨s,hs⟩:=getI (show i<l.length by omega)
  have c:=rRightX_ok md hmd s (h s (List.mem_of_getElem? hs)).1 (h s (List.mem_of_getElem? hs)).2
  obtain⟨b,hb⟩:∃b,rightX md s=b:=⟨_,rfl⟩
  have hw:=wS (show i<1000000000000 by omega)
  rw[hb]at c
  simp only[Sc.T,sW]at c
  simp-implicitDefEqProofs+decide only[go_sem,hs,Sc.T,sW]
  refine CallG.P _ Tryz.call96 (c) ?_
  refine Sm ?_
  cases b
  ·have e:l.all (rightX md)=false:=all_mem hs hb
   rw[e]
   refine Sm ?_
   exact endF.V1 4 (.bool false)
  ·simp-implicitDefEqProofs+decide only[go_sem,hw]
   refine hJ (i+1) _ ⟨by omega,all_take hs he hb⟩ (by omega) (Wk.slots _ rfl rfl (by simp-implicitDefEqProofs+decide only[go_sem,sS,hw]) (by simp-implicitDefEqProofs+decide only[go_sem,sS,hw]))
 ·have e:l.all (rightX md)=true:=all_done he (by omega)
  rw[e]
  refine Sm ?_
  exact endF.V1 4 (.bool true)
theorem argsRightX_ok (md:Int) (hmd:md=0∨md=1) (l:List Ag) (hl:l.length<9000000000000000000) (h:argsB l=false→∀a∈l,∀s∈a.v,SOK s 1000∧s.b<18446744073709551616):
  Pure Tryz.prog 9 [.int .i64 md,sA l] [.t (.bool (!argsB l&&l.all fun a=>a.v.all (rightX md)))]:=by
 rcases hmd with rfl|rfl
 ·have c1:=args_ok l hl
  obtain⟨b,hb⟩:∃b,argsB l=b:=⟨_,rfl⟩
  rw[hb]at c1 h⊢
  simp only[sA]at c1
  obtain⟨v,hv⟩:∃v,(!b&&l.all fun a=>a.v.all (rightX 0))=v:=⟨_,rfl⟩
  rw[hv]
  refine Pure.I Tryz.func9 [4] ?_
  simp-implicitDefEqProofs+decide only[go_sem,sA,List.length_map]
  refine CallG.P _ Tryz.call51 (c1) ?_
  refine Sm ?_
  cases b
  ·have h:=h rfl
   have hla:l.length≤6∧∀a∈l,a.v.length≤100:=by
    unfold argsB at hb
    rw[Bool.or_eq_false_iff,List.any_eq_false]at hb
    refine⟨by have:=of_decide_eq_false hb.2;omega,fun a ha=> ?_⟩
    have:=hb.1 a ha
    unfold agB at this
    simp only[Bool.or_eq_true,decide_eq_true_eq,not_or]at this
    omega
   simp-implicitDefEqProofs+decide only[go_sem,List.length_map]
   refine Goes.loop (X:=Nat) (fun i=>⟨ofL [(0,.t (.int .i64 0)),(1,.t (sA l)),(17,.t (.int .i64 l.length)),(18,.t (.int .i64 i))],fun _=>none,0⟩) (fun i=>i≤l.length∧(l.take i).all (fun a=>a.v.all (rightX 0))=true) (fun i=>l.length-i) 0 (Wk.slots _ rfl rfl (by simp-implicitDefEqProofs+decide only[go_sem,sA]) (by simp-implicitDefEqProofs+decide only[go_sem,sA])) (by simp) ?_
   rintro i ⟨hi,he⟩ J hJ
   apply run_sound 200
   simp-implicitDefEqProofs+decide only[go_sem,sA]
   apply selP_dec<;>intro hc
   ·obtain⟨a,ha⟩:=getI (show i<l.length by omega)
    have c:=rValsX_ok 0 (.inl rfl) a.v (by have:=hla.2 a (List.mem_of_getElem? ha);omega) (h a (List.mem_of_getElem? ha))
    obtain⟨b,hb⟩:∃b,a.v.all (rightX 0)=b:=⟨_,rfl⟩
    have hla6:=hla.1
    have hw:=wS (show i<1000000000000 by omega)
    rw[hb]at c
    simp only[sS]at c
    simp-implicitDefEqProofs+decide only[go_sem,ha,Ag.T,sI,sS]
    refine CallG.P _ Tryz.call42 (c) ?_
    refine Sm ?_
    cases b
    ·obtain rfl:v=false:=by rw[←hv,all_mem ha hb];rfl
     refine Sm ?_
     exact endF.V1 4 (.bool false)
    ·simp-implicitDefEqProofs+decide only[go_sem,hw]
     refine hJ (i+1) _ ⟨by omega,all_take ha he hb⟩ (by omega) (Wk.slots _ rfl rfl (by simp-implicitDefEqProofs+decide only[go_sem,sA,hw]) (by simp-implicitDefEqProofs+decide only[go_sem,sA,hw]))
   ·obtain rfl:v=true:=by rw[←hv,all_done he (by omega)];rfl
    refine Sm ?_
    exact endF.V1 4 (.bool true)
  ·obtain rfl:v=false:=by rw[←hv];rfl
   refine Sm ?_
   exact endF.V1 4 (.bool false)
 ·have c1:=args_ok l hl
  obtain⟨b,hb⟩:∃b,argsB l=b:=⟨_,rfl⟩
  rw[hb]at c1 h⊢
  simp only[sA]at c1
  obtain⟨v,hv⟩:∃v,(!b&&l.all fun a=>a.v.all (rightX 1))=v:=⟨_,rfl⟩
  rw[hv]
  refine Pure.I Tryz.func9 [4] ?_
  simp-implicitDefEqProofs+decide only[go_sem,sA,List.length_map]
  refine CallG.P _ Tryz.call51 (c1) ?_
  refine Sm ?_
  cases b
  ·have h:=h rfl
   have hla:l.length≤6∧∀a∈l,a.v.length≤100:=by
    unfold argsB at hb
    rw[Bool.or_eq_false_iff,List.any_eq_false]at hb
    refine⟨by have:=of_decide_eq_false hb.2;omega,fun a ha=> ?_⟩
    have:=hb.1 a ha
    unfold agB at this
    simp only[Bool.or_eq_true,decide_eq_true_eq,not_or]at this
    omega
   simp-implicitDefEqProofs+decide only[go_sem,List.length_map]
   refine Goes.loop (X:=Nat) (fun i=>⟨ofL [(0,.t (.int .i64 1)),(1,.t (sA l)),(17,.t (.int .i64 l.length)),(18,.t (.int .i64 i))],fun _=>none,0⟩) (fun i=>i≤l.length∧(l.take i).all (fun a=>a.v.all (rightX 1))=true) (fun i=>l.length-i) 0 (Wk.slots _ rfl rfl (by simp-implicitDefEqProofs+decide only[go_sem,sA]) (by simp-implicitDefEqProofs+decide only[go_sem,sA])) (by simp) ?_
   rintro i ⟨hi,he⟩ J hJ
   apply run_sound 200
   simp-implicitDefEqProofs+decide only[go_sem,sA]
   apply selP_dec<;>intro hc
   ·obtain⟨a,ha⟩:=getI (show i<l.length by omega)
    have c:=rValsX_ok 1 (.inr rfl) a.v (by have:=hla.2 a (List.mem_of_getElem? ha);omega) (h a (List.mem_of_getElem? ha))
    obtain⟨b,hb⟩:∃b,a.v.all (rightX 1)=b:=⟨_,rfl⟩
    have hla6:=hla.1
    have hw:=wS (show i<1000000000000 by omega)
    rw[hb]at c
    simp only[sS]at c
    simp-implicitDefEqProofs+decide only[go_sem,ha,Ag.T,sI,sS]
    refine CallG.P _ Tryz.call42 (c) ?_
    refine Sm ?_
    cases b
    ·obtain rfl:v=false:=by rw[←hv,all_mem ha hb];rfl
     refine Sm ?_
     exact endF.V1 4 (.bool false)
    ·simp-implicitDefEqProofs+decide only[go_sem,hw]
     refine hJ (i+1) _ ⟨by omega,all_take ha he hb⟩ (by omega) (Wk.slots _ rfl rfl (by simp-implicitDefEqProofs+decide only[go_sem,sA,hw]) (by simp-implicitDefEqProofs+decide only[go_sem,sA,hw]))
   ·obtain rfl:v=true:=by rw[←hv,all_done he (by omega)];rfl
    refine Sm ?_
    exact endF.V1 4 (.bool true)
  ·obtain rfl:v=false:=by rw[←hv];rfl
   refine Sm ?_
   exact endF.V1 4 (.bool false)
noncomputable def wholeB (x y:Ag):Bool:=decide ((mdims x.d y.d).2=0)&&(decide ((x.v.length:Int)=cnt x.d)&&decide ((y.v.length:Int)=cnt y.d))
attribute [go_sem] noPtr_sV
set_option maxHeartbeats 1000000 in
theorem short_of {l:List Ag} (h:argsB l=false):l.length≤6∧∀a∈l,a.d.length≤20∧a.v.length≤100∧wideB 9 a.v=false:=by
 unfold argsB at h
 rw[Bool.or_eq_false_iff,List.any_eq_false]at h
 refine⟨by have:=of_decide_eq_false h.2;omega,fun a ha=> ?_⟩
 have:=h.1 a ha
 unfold agB at this
 simp only[Bool.or_eq_true,decide_eq_true_eq,not_or]at this
 exact⟨by omega,by omega,by simpa using this.2⟩
theorem argsSOK {l:List Ag} (hw:∀a∈l,∀s∈a.v,WOK s.x.p∧WOK s.x.q):argsB l=false→∀a∈l,∀s∈a.v,SOK s 1000:=fun h a ha s hs=>by
 have:=wide_SOK ((short_of h).2 a ha).2.2 (hw a ha) s hs
 exact⟨this.p,this.q,by have:=this.lp;omega,by have:=this.lq;omega⟩
theorem rightX_sc {md:Int} (hmd:md=0∨md=1) {s:Sc} (hw:WOK s.x.p∧WOK s.x.q) (hb:s.b<18446744073709551616) (h:rightX md s=true):∃v:Vx,s=v.sc∧v.md=md∧∀b,v=.d b→b<18446744073709551616:=by
 rcases hmd with rfl|rfl
 ·obtain⟨r,hr⟩:=right_scR hw.1 hw.2 h
  exact⟨.q r,hr,rfl,fun b hb=>by cases hb⟩
 ·have h:rightD s=true:=h
  unfold rightD at h
  simp only[Bool.and_eq_true,decide_eq_true_eq]at h
  obtain⟨h1,h2,h3⟩:=h
  obtain⟨x,b,f⟩:=s
  dsimp only at h1 h2 hb
  subst h1 h2
  exact⟨.d b,rfl,rfl,fun b' hb'=>by cases hb';exact hb⟩
theorem rightX_list {md:Int} (hmd:md=0∨md=1):∀{l:List Sc},(∀s∈l,WOK s.x.p∧WOK s.x.q)→(∀s∈l,s.b<18446744073709551616)→l.all (rightX md)=true→∃xs:List Vx,l=xs.map Vx.sc∧∀v∈xs,v.md=md∧∀b,v=.d b→b<18446744073709551616
 |[],_,_,_=>⟨[],rfl,fun _ h=>by cases h⟩
 | s :: l, h, hb, ha => by
   simp only[List.all_cons,Bool.and_eq_true]at ha
   obtain⟨v,hv,hm⟩:=rightX_sc hmd (h s (by simp)) (hb s (by simp)) ha.1
   obtain⟨xs,hxs,hms⟩:=rightX_list hmd (fun t ht=>h t (by simp[ht])) (fun t ht=>hb t (by simp[ht])) ha.2
   refine⟨v::xs,by rw[hv,hxs];rfl,fun w hw=> ?_⟩
   rcases List.mem_cons.1 hw with rfl|hw
   ·exact hm
   ·exact hms w hw
theorem wideX_B {xs:List Vx} {k:Nat} (h:wideB k (xs.map Vx.sc)=false) (hb:∀v∈xs,∀b,v=.d b→b<18446744073709551616):∀v∈xs,v.B k:=by
 intro v hv
 unfold wideB at h
 rw[List.any_eq_false]at h
 have:=h v.sc (List.mem_map.2 ⟨v,hv,rfl⟩)
 unfold longB at this
 simp only[Bool.or_eq_true,decide_eq_true_eq,not_or]at this
 cases v with
 |q r=>exact⟨by have:=this.1;show(wordsOf r.num.natAbs).length≤k;exact Nat.le_of_not_lt this,by have:=this.2;show(wordsOf r.den).length≤k;exact Nat.le_of_not_lt this⟩
 |d b=>exact hb _ hv b rfl
theorem rightNumX {md:Int} (hmd:md=0∨md=1) {a:Ag} (hw:∀s∈a.v,WOK s.x.p∧WOK s.x.q) (hb:∀s∈a.v,s.b<18446744073709551616) (h:a.v.all (rightX md)=true) (hs:wideB 9 a.v=false):∃xs:List Vx,a.v=xs.map Vx.sc∧AllX md 9 xs:=by
 obtain⟨xs,hxs,hm⟩:=rightX_list hmd hw hb h
 rw[hxs]at hs
 have hB:=wideX_B hs (fun v hv b hvb=>(hm v hv).2 b hvb)
 exact⟨xs,hxs,fun v hv=>⟨(hm v hv).1,hB v hv⟩⟩
theorem Ag_sc (d:List Int) (xs:List Vx):(Ag.mk d (xs.map Vx.sc)).T=argX d xs:=by unfold Ag.T argX;rw[sX_S]
theorem ScB_Vx {v:Vx} {n:Nat} (h:v.B n) (hn:n<1000000000):ScB 1000000000 v.sc:=by
 cases v with
 | q r =>
   have h1:=h.n
   have h2:=h.d
   exact⟨by show(wordsOf r.num.natAbs).length<_;omega,by show(wordsOf r.den).length<_;omega⟩
 |d b=>exact⟨by show(0:Nat)<_;decide,by show(0:Nat)<_;decide⟩
theorem AllX.mono {md:Int} {a b:Nat} {l:List Vx} (h:AllX md a l) (hab:a≤b):AllX md b l:=fun v hv=>⟨(h v hv).1,(h v hv).2.mono hab⟩
end Go.Fm
