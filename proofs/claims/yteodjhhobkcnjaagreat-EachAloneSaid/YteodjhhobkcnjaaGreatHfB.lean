/- Slopes: what the walks share. -/
import Derived.Test.YteodjhhobkcnjaaGreatHfA
import Derived.Test.YteodjhhobkcnjaaGreatHeC
set_option linter.unusedVariables false
set_option linter.unusedSimpArgs false
namespace Go.Fm
open Go.Proofs
set_option maxRecDepth 100000
attribute [local irreducible] tiOf
theorem wl10:IntKind.wrap .i64 (1-0)=1:=by decide
theorem wl11:IntKind.wrap .i64 (1-1)=0:=by decide
theorem wl20:IntKind.wrap .i64 (2-0)=2:=by decide
theorem wl21:IntKind.wrap .i64 (2-1)=1:=by decide
theorem wl22:IntKind.wrap .i64 (2-2)=0:=by decide
theorem tn2:Int.toNat 2=2:=rfl
theorem tn0:Int.toNat 0=0:=rfl
theorem tn1:Int.toNat 1=1:=rfl
def Gd (md:Int) (s:Es) (x:Vx):Prop:=s.e=0→x.md=md∧x.B 9
def HG (md:Int) (s:Es):List Vx→Prop
 |[]=>True
 |z::r=>(s.e=0→z.md=md∧z.B 9)∧HG md s r
def HX (h:Heap) (md:Int) (s:Es) (L:List Vx):Prop:=(∀d j,h (.loc d j)=none)∧(∀l,Lab.pool l=false→h l=none)∧s.k<100000∧HG md s L
theorem keeps_box {h:Heap} {id:Nat} {a b:List AV}:Keeps (upd h (.obj id) (some (.box a))) (upd h (.obj id) (some (.box b))):=by
 have:=bank_keeps (h:=upd h (.obj id) (some (.box a))) (id:=id) (o:=b)
 rwa [upd_upd]at this
theorem Ret.iR {g:FuncId} {fn:Func} {c:Code} {ts:List T} {h:Heap} {id m m':Nat} {a b:Obj} {rs:List RC} (hf:(Tryz.prog).funcs[g]?=some fn) (rv:List RV) (hg:run ⟨Tryz.prog,fn.ntmps,fun _=>false⟩ (endC Tryz.prog rv rs (upd h (.obj id) (some b)) m') 200 [.code c] .normal ⟨ofL (argL 0 ts),upd h (.obj id) (some a),m⟩)
  (hc:fn.body=some c:=by rfl) (hres:fn.results=(rv.map RV.var).toArray:=by rfl) (hts:ts.length≤fn.ntmps:=by exact Nat.le_of_ble_eq_true rfl) (hok:okC fn.ntmps c=true:=by decide) (hn:∀l,Lab.pool l=false→h l=none:=by exact hb) (hk:Keeps (upd h (.obj id) (some a)) (upd h (.obj id) (some b)):=by exact keeps_box):Ret Tryz.prog g ts (upd h (.obj id) (some a)) m rs (upd h (.obj id) (some b)) m':=
 Ret.introC hf hc hres hts hok (upd_hb hn) hk (run_sound 200 _ _ _ hg)
theorem CallD.B {E:Env} {F:Exit→St→Prop} {pm:Bool} {all:Array Oper} {o:Oper} {gT:List Nat} {r:List Oper} {fs:List Foot} {g:FuncId} {xs:List AV} {ts:List T} {ws:List (Lab×Obj)} {acc:List Lab} {s:St} {k:List Kont} {rs:List RC} {h:Heap} {id:Nat} {a:Option Obj} {b:Obj} (he:Entry E.P g)
  (hP:Ret E.P g ts (upd h (.obj id) a) s.nxt rs (upd h (.obj id) (some b)) s.nxt)
  (hr:runD E F pm all k r (fs++[⟨o.dst,gT++tmpsOf o,acc++[],(ws++[(Lab.obj id,b)]).map (·.1),true,calmD {v:=retVal none rs,w:=ws++[(Lab.obj id,b)],nx:=0}⟩]) (s.app o.dst {v:=retVal none rs,w:=ws++[(Lab.obj id,b)],nx:=0}))
  (hws:(ws.all fun q=> !q.1.pool&&(match q.2 with|.arr ..=>true|_=>false))=true:=by rfl) (hn:∀l,Lab.pool l=false→h l=none:=by exact hb) (hh:∀l,Lab.pool l=true→s.h l=upd h (.obj id) a l:=by rintro (_|_|_|_|_) hp<;>first|(cases hp;done)|simp-implicitDefEqProofs+decide only[go_sem,hloc]):CallD E F pm all o gT r fs g xs ts ws acc s k:=
 CallD.make rs [(.obj id,b)] 0 he hP hws (upd_hb hn) hh (fun l _=>(congrFun (upd_upd _ _ _ _) l).symm) rfl (.inr rfl) hr
theorem Goes.dB {E:Env} {F:Exit→St→Prop} {k:List Kont} {all:Array Oper} {id:Nat} {s:St} (h:runD E F true all k all.toList [] s) (hm:E.P.follows .mixedOrders=true:=by exact mixed)
  (hp:Calm s:=by exact Calm.of (by repeat first|exact Clean.und|refine Clean.upd ?_ rfl|refine Clean.upd ?_ (by simp only[cleanA,cleanL])) (by repeat first|exact HCalm.hb (upd_hb hb)|refine HCalm.row ?_|refine HCalm.box ?_ (by first|rfl|(simp only[cleanA,cleanL];done)|assumption))):Goes E F (.code (.region id all true)::k) .normal s:=Goes.drawP hm hp h
section
variable {h:Heap} (m id:Nat) {md:Int} (mc:AV) (tie:Bool) {s:Es} {x y:Vx} {a b:Nat}
theorem addA (hb:∀l,Lab.pool l=false→h l=none) (hk:s.k<1000000) (hx:s.e=0→x.md=md∧x.B a) (hy:s.e=0→y.md=md∧y.B b) (ha:a≤400:=by decide) (hb2:b≤400:=by decide):
  ∃w t,opE addV s x y=⟨w,t⟩∧Ret Tryz.prog 57 [.ptr id,.agg [.bool x.neg,sW x.p,sW x.qq,.int .u64 x.bits,.int .i64 0],.agg [.bool y.neg,sW y.p,sW y.qq,.int .u64 y.bits,.int .i64 0]] (upd h (.obj id) (some (bankE md mc s.k tie s.e))) m [.t (.agg [.bool w.neg,sW w.p,sW w.qq,.int .u64 w.bits,.int .i64 0])] (upd h (.obj id) (some (bankE md mc t.k tie t.e))) m∧(t.e=0→s.e=0)∧(t.e=0→w.md=md∧w.B (a+b+1))∧t.k≤s.k+1:=by
 have c:=addE_ok (upd h (.obj id) (some (bankE md mc s.k tie s.e))) m id md mc tie s x y (upd_hb hb) (upd_same _ _ _) (by omega) (OK1_of hx ha) (OK1_of hy hb2)
 have g:=addE_g (s:=s) hx hy
 rw[upd_upd]at c
 simp only[Vx_T,v0_T]at c
 exact⟨_,_,rfl,c,g.1,g.2.1,g.2.2⟩
theorem subA (hb:∀l,Lab.pool l=false→h l=none) (hk:s.k<1000000) (hx:s.e=0→x.md=md∧x.B a) (hy:s.e=0→y.md=md∧y.B b) (ha:a≤400:=by decide) (hb2:b≤400:=by decide):
  ∃w t,opE subV s x y=⟨w,t⟩∧Ret Tryz.prog 66 [.ptr id,.agg [.bool x.neg,sW x.p,sW x.qq,.int .u64 x.bits,.int .i64 0],.agg [.bool y.neg,sW y.p,sW y.qq,.int .u64 y.bits,.int .i64 0]] (upd h (.obj id) (some (bankE md mc s.k tie s.e))) m [.t (.agg [.bool w.neg,sW w.p,sW w.qq,.int .u64 w.bits,.int .i64 0])] (upd h (.obj id) (some (bankE md mc t.k tie t.e))) m∧(t.e=0→s.e=0)∧(t.e=0→w.md=md∧w.B (a+b+1))∧t.k≤s.k+1:=by
 have c:=subE_ok (upd h (.obj id) (some (bankE md mc s.k tie s.e))) m id md mc tie s x y (upd_hb hb) (upd_same _ _ _) (by omega) (OK1_of hx ha) (OK1_of hy hb2)
 have g:=subE_g (s:=s) hx hy
 rw[upd_upd]at c
 simp only[Vx_T,v0_T]at c
 exact⟨_,_,rfl,c,g.1,g.2.1,g.2.2⟩
theorem mulA (hb:∀l,Lab.pool l=false→h l=none) (hk:s.k<1000000) (hx:s.e=0→x.md=md∧x.B a) (hy:s.e=0→y.md=md∧y.B b) (ha:a≤400:=by decide) (hb2:b≤400:=by decide):
  ∃w t,opE mulV s x y=⟨w,t⟩∧Ret Tryz.prog 56 [.ptr id,.agg [.bool x.neg,sW x.p,sW x.qq,.int .u64 x.bits,.int .i64 0],.agg [.bool y.neg,sW y.p,sW y.qq,.int .u64 y.bits,.int .i64 0]] (upd h (.obj id) (some (bankE md mc s.k tie s.e))) m [.t (.agg [.bool w.neg,sW w.p,sW w.qq,.int .u64 w.bits,.int .i64 0])] (upd h (.obj id) (some (bankE md mc t.k tie t.e))) m∧(t.e=0→s.e=0)∧(t.e=0→w.md=md∧w.B (a+b+1))∧t.k≤s.k+1:=by
 have c:=mulE_ok (upd h (.obj id) (some (bankE md mc s.k tie s.e))) m id md mc tie s x y (upd_hb hb) (upd_same _ _ _) (by omega) (OK1_of hx ha) (OK1_of hy hb2)
 have g:=mulE_g (s:=s) hx hy
 rw[upd_upd]at c
 simp only[Vx_T,v0_T]at c
 exact⟨_,_,rfl,c,g.1,g.2.1,g.2.2⟩
theorem divA (hb:∀l,Lab.pool l=false→h l=none) (hk:s.k<1000000) (hx:s.e=0→x.md=md∧x.B a) (hy:s.e=0→y.md=md∧y.B b) (ha:a≤400:=by decide) (hb2:b≤400:=by decide):
  ∃w t,divE s x y=⟨w,t⟩∧Ret Tryz.prog 74 [.ptr id,.agg [.bool x.neg,sW x.p,sW x.qq,.int .u64 x.bits,.int .i64 0],.agg [.bool y.neg,sW y.p,sW y.qq,.int .u64 y.bits,.int .i64 0]] (upd h (.obj id) (some (bankE md mc s.k tie s.e))) m [.t (.agg [.bool w.neg,sW w.p,sW w.qq,.int .u64 w.bits,.int .i64 0])] (upd h (.obj id) (some (bankE md mc t.k tie t.e))) m∧(t.e=0→s.e=0)∧(t.e=0→w.md=md∧w.B (a+b+1))∧t.k≤s.k+1:=by
 have c:=divE_ok (upd h (.obj id) (some (bankE md mc s.k tie s.e))) m id md mc tie s x y (upd_hb hb) (upd_same _ _ _) (by omega) (OK1_of hx ha) (OK1_of hy hb2)
 have g:=divE_g (s:=s) hx hy
 rw[upd_upd]at c
 simp only[Vx_T,v0_T]at c
 exact⟨_,_,rfl,c,g.1,g.2.1,g.2.2⟩
theorem negA (hb:∀l,Lab.pool l=false→h l=none) (hk:s.k<1000000) (hx:s.e=0→x.md=md∧x.B a) (ha:a≤400:=by decide):
  ∃w t,negE s x=⟨w,t⟩∧Ret Tryz.prog 146 [.ptr id,.agg [.bool x.neg,sW x.p,sW x.qq,.int .u64 x.bits,.int .i64 0]] (upd h (.obj id) (some (bankE md mc s.k tie s.e))) m [.t (.agg [.bool w.neg,sW w.p,sW w.qq,.int .u64 w.bits,.int .i64 0])] (upd h (.obj id) (some (bankE md mc t.k tie t.e))) m∧(t.e=0→s.e=0)∧(t.e=0→w.md=md∧w.B (a))∧t.k≤s.k+1:=by
 have c:=negE_ok (upd h (.obj id) (some (bankE md mc s.k tie s.e))) m id md mc tie s x (upd_hb hb) (upd_same _ _ _) (by omega) (OK1_of hx ha)
 have g:=negE_g (s:=s) hx
 rw[upd_upd]at c
 simp only[Vx_T,v0_T]at c
 exact⟨_,_,rfl,c,g.1,g.2.1,g.2.2⟩
theorem powA (hb:∀l,Lab.pool l=false→h l=none) (hk:s.k<1000000) {n:Int} (hn:n.natAbs≤10) (hx:s.e=0→x.md=md∧x.B 9) (hy:s.e=0→y.md=md∧y.B 9):
  ∃w t,powE s x y n=⟨w,t⟩∧Ret Tryz.prog 150 [.ptr id,.agg [.bool x.neg,sW x.p,sW x.qq,.int .u64 x.bits,.int .i64 0],.agg [.bool y.neg,sW y.p,sW y.qq,.int .u64 y.bits,.int .i64 0],.int .i64 n] (upd h (.obj id) (some (bankE md mc s.k tie s.e))) m [.t (.agg [.bool w.neg,sW w.p,sW w.qq,.int .u64 w.bits,.int .i64 0])] (upd h (.obj id) (some (bankE md mc t.k tie t.e))) m∧(t.e=0→s.e=0)∧(t.e=0→w.md=md∧w.B (100))∧t.k≤s.k+11:=by
 have c:=powG_ok (upd h (.obj id) (some (bankE md mc s.k tie s.e))) m id md mc tie s x y n (upd_hb hb) (upd_same _ _ _) hk hn hx hy
 have g:=powE_g (s:=s) hn hx hy
 rw[upd_upd]at c
 simp only[Vx_T,v0_T]at c
 exact⟨_,_,rfl,c,g.1,g.2.1,g.2.2⟩
end
def manyX (op:Int):Int:=if op<1∨26<op then 0 else if op<17 then 1 else if op<24 then 2 else 3
def fairX (op:Int) (x:Atr):Bool:=decide (op≠12)||(decide (-8≤x.n)&&decide (x.n≤8))
theorem many_ok (op:Int):Pure Tryz.prog 46 [.int .i64 op] [.t (.int .i64 (manyX op))]:=by
 unfold manyX
 refine Pure.I Tryz.func46 [2] ?_
 by_cases h1:op<1
 ·have d1:decide (op<1)=true:=decide_eq_true h1
  rw[if_pos (.inl h1)]
  simp-implicitDefEqProofs+decide only[go_sem,d1]
  exact endF.V1 2 (.int .i64 0)
 have d1:decide (op<1)=false:=decide_eq_false h1
 by_cases h2:26<op
 ·have d2:decide (26<op)=true:=decide_eq_true h2
  have d2':decide (op>26)=true:=decide_eq_true h2
  rw[if_pos (.inr h2)]
  simp-implicitDefEqProofs+decide only[go_sem,d1,d2,d2']
  exact endF.V1 2 (.int .i64 0)
 have d2:decide (26<op)=false:=decide_eq_false h2
 have d2':decide (op>26)=false:=decide_eq_false h2
 rw[if_neg (by omega)]
 by_cases h3:op<17
 ·have d3:decide (op<17)=true:=decide_eq_true h3
  rw[if_pos h3]
  simp-implicitDefEqProofs+decide only[go_sem,d1,d2,d2',d3]
  exact endF.V1 2 (.int .i64 1)
 have d3:decide (op<17)=false:=decide_eq_false h3
 rw[if_neg h3]
 by_cases h4:op<24
 ·have d4:decide (op<24)=true:=decide_eq_true h4
  rw[if_pos h4]
  simp-implicitDefEqProofs+decide only[go_sem,d1,d2,d2',d3,d4]
  exact endF.V1 2 (.int .i64 2)
 have d4:decide (op<24)=false:=decide_eq_false h4
 rw[if_neg h4]
 simp-implicitDefEqProofs+decide only[go_sem,d1,d2,d2',d3,d4]
 exact endF.V1 2 (.int .i64 3)
theorem fair_ok (op:Int) (x:Atr):Pure Tryz.prog 87 [.int .i64 op,x.T] [.t (.bool (fairX op x))]:=by
 obtain⟨a1,a2,a3,a4,a5,a6,a7,a8,ak,al⟩:=x
 refine Pure.I Tryz.func87 [4] ?_
 unfold fairX
 by_cases h1:op=12
 ·have d1:decide (op≠12)=false:=decide_eq_false (fun h=>h h1)
  by_cases h2: -8≤a1
  ·have d2:decide (a1≥ -8)=true:=decide_eq_true h2
   have d2':decide (-8≤a1)=true:=decide_eq_true h2
   rw[d1,d2']
   simp-implicitDefEqProofs+decide only[go_sem,d1,d2,d2',Atr.T,I,sI]
   exact endF.V1 4 (.bool (decide (a1≤8)))
  ·have d2:decide (a1≥ -8)=false:=decide_eq_false h2
   have d2':decide (-8≤a1)=false:=decide_eq_false h2
   rw[d1,d2']
   simp-implicitDefEqProofs+decide only[go_sem,d1,d2,d2',Atr.T,I,sI]
   exact endF.V1 4 (.bool false)
 ·have d1:decide (op≠12)=true:=decide_eq_true h1
  rw[d1]
  simp-implicitDefEqProofs+decide only[go_sem,d1,Atr.T,I,sI]
  exact endF.V1 4 (.bool true)
theorem lfair_ok (op:Int) (x:Atr):Pure Tryz.prog 47 [.int .i64 op,x.T] [.t (.bool (fairX op x))]:=by
 obtain⟨a1,a2,a3,a4,a5,a6,a7,a8,ak,al⟩:=x
 refine Pure.I Tryz.func47 [4] ?_
 unfold fairX
 by_cases h1:op=12
 ·have d1:decide (op≠12)=false:=decide_eq_false (fun h=>h h1)
  by_cases h2: -8≤a1
  ·have d2:decide (a1≥ -8)=true:=decide_eq_true h2
   have d2':decide (-8≤a1)=true:=decide_eq_true h2
   rw[d1,d2']
   simp-implicitDefEqProofs+decide only[go_sem,d1,d2,d2',Atr.T,I,sI]
   exact endF.V1 4 (.bool (decide (a1≤8)))
  ·have d2:decide (a1≥ -8)=false:=decide_eq_false h2
   have d2':decide (-8≤a1)=false:=decide_eq_false h2
   rw[d1,d2']
   simp-implicitDefEqProofs+decide only[go_sem,d1,d2,d2',Atr.T,I,sI]
   exact endF.V1 4 (.bool false)
 ·have d1:decide (op≠12)=true:=decide_eq_true h1
  rw[d1]
  simp-implicitDefEqProofs+decide only[go_sem,d1,Atr.T,I,sI]
  exact endF.V1 4 (.bool true)
def isX (op:Int):Bool:=decide (1≤op)&&decide (op≤26)
theorem is_ok (op:Int):Pure Tryz.prog 49 [.int .i64 op] [.t (.int .i64 (manyX op)),.t (.bool (isX op))]:=by
 unfold manyX isX
 refine Pure.I Tryz.func49 [2,3] ?_
 by_cases h1:op<1
 ·have a1:decide (op≥1)=false:=decide_eq_false (by omega)
  have a1':decide (1≤op)=false:=decide_eq_false (by omega)
  have a2:decide (op≥17)=false:=decide_eq_false (by omega)
  have a3:decide (op≥24)=false:=decide_eq_false (by omega)
  rw[if_pos (.inl h1),a1']
  simp-implicitDefEqProofs+decide only[go_sem,a1,a2,a3]
  exact endF.V [(2,.int .i64 0),(3,.bool false)] (vals_t (by simp-implicitDefEqProofs+decide only[go_sem]<;>rfl) rfl (vals_t (by simp-implicitDefEqProofs+decide only[go_sem]<;>rfl) rfl vals_nil))
 have a1:decide (op≥1)=true:=decide_eq_true (by omega)
 have a1':decide (1≤op)=true:=decide_eq_true (by omega)
 rw[a1']
 by_cases h2:26<op
 ·have b1:decide (op≤16)=false:=decide_eq_false (by omega)
  have b2:decide (op≤23)=false:=decide_eq_false (by omega)
  have b3:decide (op≤26)=false:=decide_eq_false (by omega)
  have a2:decide (op≥17)=true:=decide_eq_true (by omega)
  have a3:decide (op≥24)=true:=decide_eq_true (by omega)
  rw[if_pos (.inr h2),b3]
  simp-implicitDefEqProofs+decide only[go_sem,a1,a2,a3,b1,b2,b3]
  exact endF.V [(2,.int .i64 0),(3,.bool false)] (vals_t (by simp-implicitDefEqProofs+decide only[go_sem]<;>rfl) rfl (vals_t (by simp-implicitDefEqProofs+decide only[go_sem]<;>rfl) rfl vals_nil))
 have b3:decide (op≤26)=true:=decide_eq_true (by omega)
 rw[if_neg (by omega),b3]
 by_cases h3:op<17
 ·have b1:decide (op≤16)=true:=decide_eq_true (by omega)
  rw[if_pos h3]
  simp-implicitDefEqProofs+decide only[go_sem,a1,b1]
  exact endF.V [(2,.int .i64 1),(3,.bool true)] (vals_t (by simp-implicitDefEqProofs+decide only[go_sem]<;>rfl) rfl (vals_t (by simp-implicitDefEqProofs+decide only[go_sem]<;>rfl) rfl vals_nil))
 have b1:decide (op≤16)=false:=decide_eq_false (by omega)
 have a2:decide (op≥17)=true:=decide_eq_true (by omega)
 rw[if_neg h3]
 by_cases h4:op<24
 ·have b2:decide (op≤23)=true:=decide_eq_true (by omega)
  rw[if_pos h4]
  simp-implicitDefEqProofs+decide only[go_sem,a1,b1,a2,b2]
  exact endF.V [(2,.int .i64 2),(3,.bool true)] (vals_t (by simp-implicitDefEqProofs+decide only[go_sem]<;>rfl) rfl (vals_t (by simp-implicitDefEqProofs+decide only[go_sem]<;>rfl) rfl vals_nil))
 have b2:decide (op≤23)=false:=decide_eq_false (by omega)
 have a3:decide (op≥24)=true:=decide_eq_true (by omega)
 rw[if_neg h4]
 simp-implicitDefEqProofs+decide only[go_sem,a1,b1,a2,b2,a3,b3]
 exact endF.V [(2,.int .i64 3),(3,.bool true)] (vals_t (by simp-implicitDefEqProofs+decide only[go_sem]<;>rfl) rfl (vals_t (by simp-implicitDefEqProofs+decide only[go_sem]<;>rfl) rfl vals_nil))
theorem numE_g {md:Int} (hmd:md=0∨md=1) {s:Es} {p q:Int} (hp: -9223372036854775808≤p∧p≤9223372036854775807) (hq: -9223372036854775808≤q∧q≤9223372036854775807):
  ((numE md s p q).s.e=0→s.e=0)∧Gd md (numE md s p q).s (numE md s p q).v∧(numE md s p q).s.k=s.k:=by
 unfold numE Gd
 by_cases h0:s.e=0
 ·rw[if_pos h0]
  by_cases hz:q=0
  ·rw[if_pos hz]
   exact⟨fun h=>(by cases h),fun h=>(by cases h),rfl⟩
  ·rw[if_neg hz]
   exact⟨fun _=>h0,fun _=>⟨numV_md hmd _,numV_B ((QB_div (by omega) (by omega) (by omega)).mono (by decide))⟩,rfl⟩
 ·rw[if_neg h0]
  exact⟨fun h=>absurd h h0,fun h=>absurd h h0,rfl⟩
theorem list1 {α:Type} {l:List α} (h:l.length=1):∃a,l=[a]:=by
 cases l with
 |nil=>cases h
 | cons a r => cases r with
   |nil=>exact⟨a,rfl⟩
   |cons b q=>simp at h
theorem list2 {α:Type} {l:List α} (h:l.length=2):∃a b,l=[a,b]:=by
 cases l with
 |nil=>cases h
 |cons a r=>obtain⟨b,rfl⟩:=list1 (l:=r) (by simpa using h);exact⟨a,b,rfl⟩
theorem list3 {α:Type} {l:List α} (h:l.length=3):∃a b c,l=[a,b,c]:=by
 cases l with
 |nil=>cases h
 |cons a r=>obtain⟨b,c,rfl⟩:=list2 (l:=r) (by simpa using h);exact⟨a,b,c,rfl⟩
end Go.Fm
