/- Slopes: what the walks share. -/
import Derived.Test.YteodjhhobkcnjaaGreatXzA
import Derived.Test.YteodjhhobkcnjaaGreatWzA
set_option linter.unusedVariables false
set_option linter.unusedSimpArgs false
namespace Go.Fm
open Go.Proofs
set_option maxRecDepth 100000
attribute [local irreducible] tiOf
theorem wl10:IntKind.wrap .i64 (1-0)=1:=by decide
theorem wl11:IntKind.wrap .i64 (1-1)=0:=by decide
theorem wl20:IntKind.wrap .i64 (2-0)=2:=by decide
theorem wl21:IntKind.wrap .i64 (2-1)=1:=by decide
theorem wl22:IntKind.wrap .i64 (2-2)=0:=by decide
theorem tn2:Int.toNat 2=2:=rfl
theorem tn0:Int.toNat 0=0:=rfl
theorem tn1:Int.toNat 1=1:=rfl
def Gd (md:Int) (s:Es) (x:Vx):Prop:=s.e=0→x.md=md∧x.B 9
def HG (md:Int) (s:Es):List Vx→Prop
 |[]=>True
 |z::r=>(s.e=0→z.md=md∧z.B 9)∧HG md s r
def HX (h:Heap) (md:Int) (s:Es) (L:List Vx):Prop:=(∀d j,h (.loc d j)=none)∧(∀l,Lab.pool l=false→h l=none)∧s.k<100000∧HG md s L
def RR (g:FuncId) (A:List T) (bk:Int→AV→Nat→Bool→Int→Obj) (h:Heap) (m id:Nat) (md:Int) (mc:AV) (tie:Bool) (s:Es) (w:Vx) (b:Bool) (t:Es):Prop:=
 Ret Tryz.prog g (.ptr id::A) (upd h (.obj id) (some (bk md mc s.k tie s.e))) m [.t w.T,.t (.bool b)] (upd h (.obj id) (some (bk md mc t.k tie t.e))) m
theorem keeps_box {h:Heap} {id:Nat} {a b:List AV}:Keeps (upd h (.obj id) (some (.box a))) (upd h (.obj id) (some (.box b))):=by
 have:=bank_keeps (h:=upd h (.obj id) (some (.box a))) (id:=id) (o:=b)
 rwa [upd_upd]at this
theorem Ret.iR {g:FuncId} {fn:Func} {c:Code} {ts:List T} {h:Heap} {id m m':Nat} {a b:Obj} {rs:List RC} (hf:(Tryz.prog).funcs[g]?=some fn) (rv:List RV) (hg:run ⟨Tryz.prog,fn.ntmps,fun _=>false⟩ (endC Tryz.prog rv rs (upd h (.obj id) (some b)) m') 200 [.code c] .normal ⟨ofL (argL 0 ts),upd h (.obj id) (some a),m⟩)
  (hc:fn.body=some c:=by rfl) (hres:fn.results=(rv.map RV.var).toArray:=by rfl) (hts:ts.length≤fn.ntmps:=by exact Nat.le_of_ble_eq_true rfl) (hok:okC fn.ntmps c=true:=by decide) (hn:∀l,Lab.pool l=false→h l=none:=by exact hb) (hk:Keeps (upd h (.obj id) (some a)) (upd h (.obj id) (some b)):=by exact keeps_box):Ret Tryz.prog g ts (upd h (.obj id) (some a)) m rs (upd h (.obj id) (some b)) m':=
 Ret.introC hf hc hres hts hok (upd_hb hn) hk (run_sound 200 _ _ _ hg)
theorem CallD.B {E:Env} {F:Exit→St→Prop} {pm:Bool} {all:Array Oper} {o:Oper} {gT:List Nat} {r:List Oper} {fs:List Foot} {g:FuncId} {xs:List AV} {ts:List T} {ws:List (Lab×Obj)} {acc:List Lab} {s:St} {k:List Kont} {rs:List RC} {h:Heap} {id:Nat} {a:Option Obj} {b:Obj} (he:Entry E.P g)
  (hP:Ret E.P g ts (upd h (.obj id) a) s.nxt rs (upd h (.obj id) (some b)) s.nxt)
  (hr:runD E F pm all k r (fs++[⟨o.dst,gT++tmpsOf o,acc++[],(ws++[(Lab.obj id,b)]).map (·.1),true,calmD {v:=retVal none rs,w:=ws++[(Lab.obj id,b)],nx:=0}⟩]) (s.app o.dst {v:=retVal none rs,w:=ws++[(Lab.obj id,b)],nx:=0}))
  (hws:(ws.all fun q=> !q.1.pool&&(match q.2 with|.arr ..=>true|_=>false))=true:=by rfl) (hn:∀l,Lab.pool l=false→h l=none:=by exact hb) (hh:∀l,Lab.pool l=true→s.h l=upd h (.obj id) a l:=by rintro (_|_|_|_|_) hp<;>first|(cases hp;done)|simp-implicitDefEqProofs+decide only[go_sem,hloc]):CallD E F pm all o gT r fs g xs ts ws acc s k:=
 CallD.make rs [(.obj id,b)] 0 he hP hws (upd_hb hn) hh (fun l _=>(congrFun (upd_upd _ _ _ _) l).symm) rfl (.inr rfl) hr
theorem Goes.dB {E:Env} {F:Exit→St→Prop} {k:List Kont} {all:Array Oper} {id:Nat} {s:St} (h:runD E F true all k all.toList [] s) (hm:E.P.follows .mixedOrders=true:=by exact mixed)
  (hp:Calm s:=by exact Calm.of (by repeat first|exact Clean.und|refine Clean.upd ?_ rfl|refine Clean.upd ?_ (by simp only[cleanA,cleanL])) (by repeat first|exact HCalm.hb (upd_hb hb)|refine HCalm.row ?_|refine HCalm.box ?_ (by first|rfl|(simp only[cleanA,cleanL];done)|assumption))):Goes E F (.code (.region id all true)::k) .normal s:=Goes.drawP hm hp h
section
variable {h:Heap} (m id:Nat) {md:Int} (mc:AV) (tie:Bool) {s:Es} {x y:Vx} {a b:Nat}
theorem addA (hb:∀l,Lab.pool l=false→h l=none) (hk:s.k<1000000) (hx:s.e=0→x.md=md∧x.B a) (hy:s.e=0→y.md=md∧y.B b) (ha:a≤400:=by decide) (hb2:b≤400:=by decide):
  ∃w t,opE addV s x y=⟨w,t⟩∧Ret Tryz.prog 57 [.ptr id,.agg [.bool x.neg,sW x.p,sW x.qq,.int .u64 x.bits,.int .i64 0],.agg [.bool y.neg,sW y.p,sW y.qq,.int .u64 y.bits,.int .i64 0]] (upd h (.obj id) (some (bankE md mc s.k tie s.e))) m [.t (.agg [.bool w.neg,sW w.p,sW w.qq,.int .u64 w.bits,.int .i64 0])] (upd h (.obj id) (some (bankE md mc t.k tie t.e))) m∧(t.e=0→s.e=0)∧(t.e=0→w.md=md∧w.B (a+b+1))∧t.k≤s.k+1:=by
 have c:=addE_ok (upd h (.obj id) (some (bankE md mc s.k tie s.e))) m id md mc tie s x y (upd_hb hb) (upd_same _ _ _) (by omega) (OK1_of hx ha) (OK1_of hy hb2)
 have g:=addE_g (s:=s) hx hy
 rw[upd_upd]at c
 simp only[Vx_T,v0_T]at c
 exact⟨_,_,rfl,c,g.1,g.2.1,g.2.2⟩
theorem subA (hb:∀l,Lab.pool l=false→h l=none) (hk:s.k<1000000) (hx:s.e=0→x.md=md∧x.B a) (hy:s.e=0→y.md=md∧y.B b) (ha:a≤400:=by decide) (hb2:b≤400:=by decide):
  ∃w t,opE subV s x y=⟨w,t⟩∧Ret Tryz.prog 66 [.ptr id,.agg [.bool x.neg,sW x.p,sW x.qq,.int .u64 x.bits,.int .i64 0],.agg [.bool y.neg,sW y.p,sW y.qq,.int .u64 y.bits,.int .i64 0]] (upd h (.obj id) (some (bankE md mc s.k tie s.e))) m [.t (.agg [.bool w.neg,sW w.p,sW w.qq,.int .u64 w.bits,.int .i64 0])] (upd h (.obj id) (some (bankE md mc t.k tie t.e))) m∧(t.e=0→s.e=0)∧(t.e=0→w.md=md∧w.B (a+b+1))∧t.k≤s.k+1:=by
 have c:=subE_ok (upd h (.obj id) (some (bankE md mc s.k tie s.e))) m id md mc tie s x y (upd_hb hb) (upd_same _ _ _) (by omega) (OK1_of hx ha) (OK1_of hy hb2)
 have g:=subE_g (s:=s) hx hy
 rw[upd_upd]at c
 simp only[Vx_T,v0_T]at c
 exact⟨_,_,rfl,c,g.1,g.2.1,g.2.2⟩
theorem mulA (hb:∀l,Lab.pool l=false→h l=none) (hk:s.k<1000000) (hx:s.e=0→x.md=md∧x.B a) (hy:s.e=0→y.md=md∧y.B b) (ha:a≤400:=by decide) (hb2:b≤400:=by decide):
  ∃w t,opE mulV s x y=⟨w,t⟩∧Ret Tryz.prog 56 [.ptr id,.agg [.bool x.neg,sW x.p,sW x.qq,.int .u64 x.bits,.int .i64 0],.agg [.bool y.neg,sW y.p,sW y.qq,.int .u64 y.bits,.int .i64 0]] (upd h (.obj id) (some (bankE md mc s.k tie s.e))) m [.t (.agg [.bool w.neg,sW w.p,sW w.qq,.int .u64 w.bits,.int .i64 0])] (upd h (.obj id) (some (bankE md mc t.k tie t.e))) m∧(t.e=0→s.e=0)∧(t.e=0→w.md=md∧w.B (a+b+1))∧t.k≤s.k+1:=by
 have c:=mulE_ok (upd h (.obj id) (some (bankE md mc s.k tie s.e))) m id md mc tie s x y (upd_hb hb) (upd_same _ _ _) (by omega) (OK1_of hx ha) (OK1_of hy hb2)
 have g:=mulE_g (s:=s) hx hy
 rw[upd_upd]at c
 simp only[Vx_T,v0_T]at c
 exact⟨_,_,rfl,c,g.1,g.2.1,g.2.2⟩
theorem divA (hb:∀l,Lab.pool l=false→h l=none) (hk:s.k<1000000) (hx:s.e=0→x.md=md∧x.B a) (hy:s.e=0→y.md=md∧y.B b) (ha:a≤400:=by decide) (hb2:b≤400:=by decide):
  ∃w t,divE s x y=⟨w,t⟩∧Ret Tryz.prog 74 [.ptr id,.agg [.bool x.neg,sW x.p,sW x.qq,.int .u64 x.bits,.int .i64 0],.agg [.bool y.neg,sW y.p,sW y.qq,.int .u64 y.bits,.int .i64 0]] (upd h (.obj id) (some (bankE md mc s.k tie s.e))) m [.t (.agg [.bool w.neg,sW w.p,sW w.qq,.int .u64 w.bits,.int .i64 0])] (upd h (.obj id) (some (bankE md mc t.k tie t.e))) m∧(t.e=0→s.e=0)∧(t.e=0→w.md=md∧w.B (a+b+1))∧t.k≤s.k+1:=by
 have c:=divE_ok (upd h (.obj id) (some (bankE md mc s.k tie s.e))) m id md mc tie s x y (upd_hb hb) (upd_same _ _ _) (by omega) (OK1_of hx ha) (OK1_of hy hb2)
 have g:=divE_g (s:=s) hx hy
 rw[upd_upd]at c
 simp only[Vx_T,v0_T]at c
 exact⟨_,_,rfl,c,g.1,g.2.1,g.2.2⟩
theorem negA (hb:∀l,Lab.pool l=false→h l=none) (hk:s.k<1000000) (hx:s.e=0→x.md=md∧x.B a) (ha:a≤400:=by decide):
  ∃w t,negE s x=⟨w,t⟩∧Ret Tryz.prog 146 [.ptr id,.agg [.bool x.neg,sW x.p,sW x.qq,.int .u64 x.bits,.int .i64 0]] (upd h (.obj id) (some (bankE md mc s.k tie s.e))) m [.t (.agg [.bool w.neg,sW w.p,sW w.qq,.int .u64 w.bits,.int .i64 0])] (upd h (.obj id) (some (bankE md mc t.k tie t.e))) m∧(t.e=0→s.e=0)∧(t.e=0→w.md=md∧w.B (a))∧t.k≤s.k+1:=by
 have c:=negE_ok (upd h (.obj id) (some (bankE md mc s.k tie s.e))) m id md mc tie s x (upd_hb hb) (upd_same _ _ _) (by omega) (OK1_of hx ha)
 have g:=negE_g (s:=s) hx
 rw[upd_upd]at c
 simp only[Vx_T,v0_T]at c
 exact⟨_,_,rfl,c,g.1,g.2.1,g.2.2⟩
theorem powA (hb:∀l,Lab.pool l=false→h l=none) (hk:s.k<1000000) {n:Int} (hn:n.natAbs≤10) (hx:s.e=0→x.md=md∧x.B 9) (hy:s.e=0→y.md=md∧y.B 9):
  ∃w t,powE s x y n=⟨w,t⟩∧Ret Tryz.prog 150 [.ptr id,.agg [.bool x.neg,sW x.p,sW x.qq,.int .u64 x.bits,.int .i64 0],.agg [.bool y.neg,sW y.p,sW y.qq,.int .u64 y.bits,.int .i64 0],.int .i64 n] (upd h (.obj id) (some (bankE md mc s.k tie s.e))) m [.t (.agg [.bool w.neg,sW w.p,sW w.qq,.int .u64 w.bits,.int .i64 0])] (upd h (.obj id) (some (bankE md mc t.k tie t.e))) m∧(t.e=0→s.e=0)∧(t.e=0→w.md=md∧w.B (100))∧t.k≤s.k+11:=by
 have c:=powG_ok (upd h (.obj id) (some (bankE md mc s.k tie s.e))) m id md mc tie s x y n (upd_hb hb) (upd_same _ _ _) hk hn hx hy
 have g:=powE_g (s:=s) hn hx hy
 rw[upd_upd]at c
 simp only[Vx_T,v0_T]at c
 exact⟨_,_,rfl,c,g.1,g.2.1,g.2.2⟩
theorem addF (hb:∀l,Lab.pool l=false→h l=none) (hk:s.k<1000000) (hx:s.e=0→x.md=md∧x.B a) (hy:s.e=0→y.md=md∧y.B b) (ha:a≤400:=by decide) (hb2:b≤400:=by decide):
  ∃w t,opE addV s x y=⟨w,t⟩∧Ret Tryz.prog 60 [.ptr id,.int .i64 4,.agg [.bool x.neg,sW x.p,sW x.qq,.int .u64 x.bits,.int .i64 0],.agg [.bool y.neg,sW y.p,sW y.qq,.int .u64 y.bits,.int .i64 0]] (upd h (.obj id) (some (bankF md mc s.k tie s.e))) m [.t (.agg [.bool w.neg,sW w.p,sW w.qq,.int .u64 w.bits,.int .i64 0])] (upd h (.obj id) (some (bankF md mc t.k tie t.e))) m∧(t.e=0→s.e=0)∧(t.e=0→w.md=md∧w.B (a+b+1))∧t.k≤s.k+1:=by
 have c:=rAddE_ok (upd h (.obj id) (some (bankF md mc s.k tie s.e))) m id md mc tie s x y (upd_hb hb) (upd_same _ _ _) (by omega) (OK2_of hx ha) (OK2_of hy hb2)
 have g:=addE_g (s:=s) hx hy
 rw[upd_upd]at c
 simp only[Vx_T,v0_T]at c
 exact⟨_,_,rfl,c,g.1,g.2.1,g.2.2⟩
theorem subF (hb:∀l,Lab.pool l=false→h l=none) (hk:s.k<1000000) (hx:s.e=0→x.md=md∧x.B a) (hy:s.e=0→y.md=md∧y.B b) (ha:a≤400:=by decide) (hb2:b≤400:=by decide):
  ∃w t,opE subV s x y=⟨w,t⟩∧Ret Tryz.prog 60 [.ptr id,.int .i64 5,.agg [.bool x.neg,sW x.p,sW x.qq,.int .u64 x.bits,.int .i64 0],.agg [.bool y.neg,sW y.p,sW y.qq,.int .u64 y.bits,.int .i64 0]] (upd h (.obj id) (some (bankF md mc s.k tie s.e))) m [.t (.agg [.bool w.neg,sW w.p,sW w.qq,.int .u64 w.bits,.int .i64 0])] (upd h (.obj id) (some (bankF md mc t.k tie t.e))) m∧(t.e=0→s.e=0)∧(t.e=0→w.md=md∧w.B (a+b+1))∧t.k≤s.k+1:=by
 have c:=rSubE_ok (upd h (.obj id) (some (bankF md mc s.k tie s.e))) m id md mc tie s x y (upd_hb hb) (upd_same _ _ _) (by omega) (OK2_of hx ha) (OK2_of hy hb2)
 have g:=subE_g (s:=s) hx hy
 rw[upd_upd]at c
 simp only[Vx_T,v0_T]at c
 exact⟨_,_,rfl,c,g.1,g.2.1,g.2.2⟩
theorem mulF (hb:∀l,Lab.pool l=false→h l=none) (hk:s.k<1000000) (hx:s.e=0→x.md=md∧x.B a) (hy:s.e=0→y.md=md∧y.B b) (ha:a≤400:=by decide) (hb2:b≤400:=by decide):
  ∃w t,opE mulV s x y=⟨w,t⟩∧Ret Tryz.prog 60 [.ptr id,.int .i64 6,.agg [.bool x.neg,sW x.p,sW x.qq,.int .u64 x.bits,.int .i64 0],.agg [.bool y.neg,sW y.p,sW y.qq,.int .u64 y.bits,.int .i64 0]] (upd h (.obj id) (some (bankF md mc s.k tie s.e))) m [.t (.agg [.bool w.neg,sW w.p,sW w.qq,.int .u64 w.bits,.int .i64 0])] (upd h (.obj id) (some (bankF md mc t.k tie t.e))) m∧(t.e=0→s.e=0)∧(t.e=0→w.md=md∧w.B (a+b+1))∧t.k≤s.k+1:=by
 have c:=rMulE_ok (upd h (.obj id) (some (bankF md mc s.k tie s.e))) m id md mc tie s x y (upd_hb hb) (upd_same _ _ _) (by omega) (OK2_of hx ha) (OK2_of hy hb2)
 have g:=mulE_g (s:=s) hx hy
 rw[upd_upd]at c
 simp only[Vx_T,v0_T]at c
 exact⟨_,_,rfl,c,g.1,g.2.1,g.2.2⟩
theorem divF (hb:∀l,Lab.pool l=false→h l=none) (hk:s.k<1000000) (hx:s.e=0→x.md=md∧x.B a) (hy:s.e=0→y.md=md∧y.B b) (ha:a≤400:=by decide) (hb2:b≤400:=by decide):
  ∃w t,divE s x y=⟨w,t⟩∧Ret Tryz.prog 60 [.ptr id,.int .i64 7,.agg [.bool x.neg,sW x.p,sW x.qq,.int .u64 x.bits,.int .i64 0],.agg [.bool y.neg,sW y.p,sW y.qq,.int .u64 y.bits,.int .i64 0]] (upd h (.obj id) (some (bankF md mc s.k tie s.e))) m [.t (.agg [.bool w.neg,sW w.p,sW w.qq,.int .u64 w.bits,.int .i64 0])] (upd h (.obj id) (some (bankF md mc t.k tie t.e))) m∧(t.e=0→s.e=0)∧(t.e=0→w.md=md∧w.B (a+b+1))∧t.k≤s.k+1:=by
 have c:=rDivE_ok (upd h (.obj id) (some (bankF md mc s.k tie s.e))) m id md mc tie s x y (upd_hb hb) (upd_same _ _ _) (by omega) (OK2_of hx ha) (OK2_of hy hb2) (Zi_of hy hb2)
 have g:=divE_g (s:=s) hx hy
 rw[upd_upd]at c
 simp only[Vx_T,v0_T]at c
 exact⟨_,_,rfl,c,g.1,g.2.1,g.2.2⟩
theorem negF (hb:∀l,Lab.pool l=false→h l=none) (hk:s.k<1000000) (hx:s.e=0→x.md=md∧x.B a) (ha:a≤400:=by decide):
  ∃w t,negE s x=⟨w,t⟩∧Ret Tryz.prog 60 [.ptr id,.int .i64 3,.agg [.bool x.neg,sW x.p,sW x.qq,.int .u64 x.bits,.int .i64 0],.agg [.bool false,.slice [],.slice [],.int .u64 0,.int .i64 0]] (upd h (.obj id) (some (bankF md mc s.k tie s.e))) m [.t (.agg [.bool w.neg,sW w.p,sW w.qq,.int .u64 w.bits,.int .i64 0])] (upd h (.obj id) (some (bankF md mc t.k tie t.e))) m∧(t.e=0→s.e=0)∧(t.e=0→w.md=md∧w.B (a))∧t.k≤s.k+1:=by
 have c:=rNegE_ok (upd h (.obj id) (some (bankF md mc s.k tie s.e))) m id md mc tie s x (upd_hb hb) (upd_same _ _ _) (by omega) (OK2_of hx ha)
 have g:=negE_g (s:=s) hx
 rw[upd_upd]at c
 simp only[Vx_T,v0_T]at c
 exact⟨_,_,rfl,c,g.1,g.2.1,g.2.2⟩
theorem powF (hb:∀l,Lab.pool l=false→h l=none) (hk:s.k<1000000) {n:Int} (hn:n.natAbs≤10) (hx:s.e=0→x.md=md∧x.B 9) (hy:s.e=0→y.md=md∧y.B 9):
  ∃w t,powE s x y n=⟨w,t⟩∧Ret Tryz.prog 159 [.ptr id,.agg [.bool x.neg,sW x.p,sW x.qq,.int .u64 x.bits,.int .i64 0],.agg [.bool y.neg,sW y.p,sW y.qq,.int .u64 y.bits,.int .i64 0],.int .i64 n] (upd h (.obj id) (some (bankF md mc s.k tie s.e))) m [.t (.agg [.bool w.neg,sW w.p,sW w.qq,.int .u64 w.bits,.int .i64 0])] (upd h (.obj id) (some (bankF md mc t.k tie t.e))) m∧(t.e=0→s.e=0)∧(t.e=0→w.md=md∧w.B (100))∧t.k≤s.k+11:=by
 have c:=rPowG_ok (upd h (.obj id) (some (bankF md mc s.k tie s.e))) m id md mc tie s x y n (upd_hb hb) (upd_same _ _ _) hk hn hx hy
 have g:=powE_g (s:=s) hn hx hy
 rw[upd_upd]at c
 simp only[Vx_T,v0_T]at c
 exact⟨_,_,rfl,c,g.1,g.2.1,g.2.2⟩
end
section
variable {h:Heap} {m id:Nat} {md:Int} {mc:AV} {tie:Bool} {s:Es} {v y x0 x1 x2 k0 k1:Vx} {ks:List Vx} {x:Atr} {n which pick:Int}
set_option maxHeartbeats 2000000 in
theorem one1 (H:HX h md s [v,y,x0]):RR 98 [.int .i64 1,.int .i64 n,sX ks,v.T,atT [x0] y pick] bankE h m id md mc tie s (Ex.ev ⟨v,y,[x0],ks⟩ (.neg .v) s).v true (Ex.ev ⟨v,y,[x0],ks⟩ (.neg .v) s).s:=by
 obtain⟨hloc,hb,hkb,hv,hy,hx0,_⟩:=H
 obtain⟨w1,s1,e1,c1,f1,g1,q1⟩:=negA m id mc tie hb (by omega) hv
 simp only[RR,Ex.ev,List.getD_cons_zero,List.getD_cons_succ,e1]
 refine Ret.iR Tryz.func98 [.c 12 68,.s 13] ?_
 refine SmT ?_
 refine SmA ?_
 refine CallG.Q _ Tryz.call146 c1 ?_
 refine SmA ?_
 exact endC.W
set_option maxHeartbeats 2000000 in
theorem one2 (H:HX h md s [v,y,x0]):RR 98 [.int .i64 2,.int .i64 n,sX ks,v.T,atT [x0] y pick] bankE h m id md mc tie s (Ex.ev ⟨v,y,[x0],ks⟩ (.neg (.mul .v (.mul .y .y))) s).v true (Ex.ev ⟨v,y,[x0],ks⟩ (.neg (.mul .v (.mul .y .y))) s).s:=by
 obtain⟨hloc,hb,hkb,hv,hy,hx0,_⟩:=H
 obtain⟨w1,s1,e1,c1,f1,g1,q1⟩:=mulA m id mc tie hb (by omega) hy hy
 obtain⟨w2,s2,e2,c2,f2,g2,q2⟩:=mulA m id mc tie hb (by omega) (fun e=>hv (f1 e)) g1
 obtain⟨w3,s3,e3,c3,f3,g3,q3⟩:=negA m id mc tie hb (by omega) g2
 simp only[RR,Ex.ev,List.getD_cons_zero,List.getD_cons_succ,e1,e2,e3]
 refine Ret.iR Tryz.func98 [.c 12 68,.s 13] ?_
 refine SmT ?_
 refine SmA ?_
 refine Goes.dB ?_
 refine SmA ?_
 refine CallD.B Tryz.call56 c1 ?_
 refine SmA ?_
 refine CallD.B Tryz.call56 c2 ?_
 refine SmA ?_
 refine CallD.B Tryz.call146 c3 ?_
 refine SmA ?_
 refine⟨.mk (by kernel_rfl),?_⟩
 apply run_sound 200
 refine SmA ?_
 exact endC.W
set_option maxHeartbeats 2000000 in
theorem one3 (H:HX h md s [v,y,x0]):RR 98 [.int .i64 3,.int .i64 n,sX ks,v.T,atT [x0] y pick] bankE h m id md mc tie s (Ex.ev ⟨v,y,[x0],ks⟩ (.mul .v (.add (.x 0) (.x 0))) s).v true (Ex.ev ⟨v,y,[x0],ks⟩ (.mul .v (.add (.x 0) (.x 0))) s).s:=by
 obtain⟨hloc,hb,hkb,hv,hy,hx0,_⟩:=H
 obtain⟨w1,s1,e1,c1,f1,g1,q1⟩:=addA m id mc tie hb (by omega) hx0 hx0
 obtain⟨w2,s2,e2,c2,f2,g2,q2⟩:=mulA m id mc tie hb (by omega) (fun e=>hv (f1 e)) g1
 simp only[RR,Ex.ev,List.getD_cons_zero,List.getD_cons_succ,e1,e2]
 refine Ret.iR Tryz.func98 [.c 12 68,.s 13] ?_
 refine SmT ?_
 refine SmA ?_
 refine Goes.dB ?_
 refine SmA ?_
 refine CallD.B Tryz.call57 c1 ?_
 refine SmA ?_
 refine CallD.B Tryz.call56 c2 ?_
 refine SmA ?_
 refine⟨.mk (by kernel_rfl),?_⟩
 apply run_sound 200
 refine SmA ?_
 exact endC.W
set_option maxHeartbeats 2000000 in
theorem one4a (H:HX h md s [v,y,x0]) (hp:pick=1):RR 98 [.int .i64 4,.int .i64 n,sX ks,v.T,atT [x0] y pick] bankE h m id md mc tie s (Ex.ev ⟨v,y,[x0],ks⟩ (.neg .v) s).v true (Ex.ev ⟨v,y,[x0],ks⟩ (.neg .v) s).s:=by
 obtain⟨hloc,hb,hkb,hv,hy,hx0,_⟩:=H
 subst hp
 obtain⟨w1,s1,e1,c1,f1,g1,q1⟩:=negA m id mc tie hb (by omega) hv
 simp only[RR,Ex.ev,List.getD_cons_zero,List.getD_cons_succ,e1]
 refine Ret.iR Tryz.func98 [.c 12 68,.s 13] ?_
 refine SmT ?_
 refine SmA ?_
 refine CallG.Q _ Tryz.call146 c1 ?_
 refine SmA ?_
 exact endC.W
set_option maxHeartbeats 2000000 in
theorem one4b (H:HX h md s [v,y,x0]) (hp:pick≠1):RR 98 [.int .i64 4,.int .i64 n,sX ks,v.T,atT [x0] y pick] bankE h m id md mc tie s (Ex.ev ⟨v,y,[x0],ks⟩ .v s).v true (Ex.ev ⟨v,y,[x0],ks⟩ .v s).s:=by
 obtain⟨hloc,hb,hkb,hv,hy,hx0,_⟩:=H
 have d1:decide (pick=1)=false:=decide_eq_false hp
 simp only[RR,Ex.ev,List.getD_cons_zero,List.getD_cons_succ]
 refine Ret.iR Tryz.func98 [.c 12 68,.s 13] ?_
 refine SmT ?_
 simp-implicitDefEqProofs+decide only[go_sem,hloc,d1]
 exact endC.W
set_option maxHeartbeats 2000000 in
theorem one6 (H:HX h md s [v,y,x0]):RR 98 [.int .i64 6,.int .i64 n,sX ks,v.T,atT [x0] y pick] bankE h m id md mc tie s (Ex.ev ⟨v,y,[x0],ks⟩ .v s).v (decide (pick=1)) (Ex.ev ⟨v,y,[x0],ks⟩ .v s).s:=by
 obtain⟨hloc,hb,hkb,hv,hy,hx0,_⟩:=H
 simp only[RR,Ex.ev,List.getD_cons_zero,List.getD_cons_succ]
 refine Ret.iR Tryz.func98 [.c 12 68,.s 13] ?_
 refine SmT ?_
 refine SmA ?_
 refine Goes.dB ?_
 refine SmA ?_
 refine⟨.mk (by kernel_rfl),?_⟩
 apply run_sound 200
 refine SmA ?_
 exact endC.W
set_option maxHeartbeats 2000000 in
theorem one7 (H:HX h md s [v,y,x0]):RR 98 [.int .i64 7,.int .i64 n,sX ks,v.T,atT [x0] y pick] bankE h m id md mc tie s (Ex.ev ⟨v,y,[x0],ks⟩ (.mul .v .y) s).v true (Ex.ev ⟨v,y,[x0],ks⟩ (.mul .v .y) s).s:=by
 obtain⟨hloc,hb,hkb,hv,hy,hx0,_⟩:=H
 obtain⟨w1,s1,e1,c1,f1,g1,q1⟩:=mulA m id mc tie hb (by omega) hv hy
 simp only[RR,Ex.ev,List.getD_cons_zero,List.getD_cons_succ,e1]
 refine Ret.iR Tryz.func98 [.c 12 68,.s 13] ?_
 refine SmT ?_
 refine SmA ?_
 refine CallG.Q _ Tryz.call56 c1 ?_
 refine SmA ?_
 exact endC.W
end
section
variable {h:Heap} {m id:Nat} {md:Int} {mc:AV} {tie:Bool} {s:Es} {v y x0 x1 x2 k0 k1:Vx} {ks:List Vx} {x:Atr} {n which pick:Int}
set_option maxHeartbeats 2000000 in
theorem one8 (H:HX h md s [v,y,x0]):RR 98 [.int .i64 8,.int .i64 n,sX ks,v.T,atT [x0] y pick] bankE h m id md mc tie s (Ex.ev ⟨v,y,[x0],ks⟩ (.div .v (.x 0)) s).v true (Ex.ev ⟨v,y,[x0],ks⟩ (.div .v (.x 0)) s).s:=by
 obtain⟨hloc,hb,hkb,hv,hy,hx0,_⟩:=H
 obtain⟨w1,s1,e1,c1,f1,g1,q1⟩:=divA m id mc tie hb (by omega) hv hx0
 simp only[RR,Ex.ev,List.getD_cons_zero,List.getD_cons_succ,e1]
 refine Ret.iR Tryz.func98 [.c 12 68,.s 13] ?_
 refine SmT ?_
 refine SmA ?_
 refine Goes.dB ?_
 refine SmA ?_
 refine CallD.B Tryz.call74 c1 ?_
 refine SmA ?_
 refine⟨.mk (by kernel_rfl),?_⟩
 apply run_sound 200
 refine SmA ?_
 exact endC.W
set_option maxHeartbeats 2000000 in
theorem one9 (H:HX h md s [v,y,x0]):RR 98 [.int .i64 9,.int .i64 n,sX ks,v.T,atT [x0] y pick] bankE h m id md mc tie s (Ex.ev ⟨v,y,[x0],ks⟩ (.div .v (.add .y .y)) s).v true (Ex.ev ⟨v,y,[x0],ks⟩ (.div .v (.add .y .y)) s).s:=by
 obtain⟨hloc,hb,hkb,hv,hy,hx0,_⟩:=H
 obtain⟨w1,s1,e1,c1,f1,g1,q1⟩:=addA m id mc tie hb (by omega) hy hy
 obtain⟨w2,s2,e2,c2,f2,g2,q2⟩:=divA m id mc tie hb (by omega) (fun e=>hv (f1 e)) g1
 simp only[RR,Ex.ev,List.getD_cons_zero,List.getD_cons_succ,e1,e2]
 refine Ret.iR Tryz.func98 [.c 12 68,.s 13] ?_
 refine SmT ?_
 refine SmA ?_
 refine Goes.dB ?_
 refine SmA ?_
 refine CallD.B Tryz.call57 c1 ?_
 refine SmA ?_
 refine CallD.B Tryz.call74 c2 ?_
 refine SmA ?_
 refine⟨.mk (by kernel_rfl),?_⟩
 apply run_sound 200
 refine SmA ?_
 exact endC.W
set_option maxHeartbeats 2000000 in
theorem one10 (H:HX h md s [v,y,x0,k0]):RR 98 [.int .i64 10,.int .i64 n,sX [k0],v.T,atT [x0] y pick] bankE h m id md mc tie s (Ex.ev ⟨v,y,[x0],[k0]⟩ (.mul .v (.mul .y (.sub (.k 0) .y))) s).v true (Ex.ev ⟨v,y,[x0],[k0]⟩ (.mul .v (.mul .y (.sub (.k 0) .y))) s).s:=by
 obtain⟨hloc,hb,hkb,hv,hy,hx0,hk0,_⟩:=H
 obtain⟨w1,s1,e1,c1,f1,g1,q1⟩:=subA m id mc tie hb (by omega) hk0 hy
 obtain⟨w2,s2,e2,c2,f2,g2,q2⟩:=mulA m id mc tie hb (by omega) (fun e=>hy (f1 e)) g1
 obtain⟨w3,s3,e3,c3,f3,g3,q3⟩:=mulA m id mc tie hb (by omega) (fun e=>hv (f1 (f2 e))) g2
 simp only[RR,Ex.ev,List.getD_cons_zero,List.getD_cons_succ,e1,e2,e3]
 refine Ret.iR Tryz.func98 [.c 12 68,.s 13] ?_
 refine SmT ?_
 refine SmA ?_
 refine Goes.dB ?_
 refine SmA ?_
 refine CallD.B Tryz.call66 c1 ?_
 refine SmA ?_
 refine CallD.B Tryz.call56 c2 ?_
 refine SmA ?_
 refine CallD.B Tryz.call56 c3 ?_
 refine SmA ?_
 refine⟨.mk (by kernel_rfl),?_⟩
 apply run_sound 200
 refine SmA ?_
 exact endC.W
set_option maxHeartbeats 2000000 in
theorem one11 (H:HX h md s [v,y,x0,k0]):RR 98 [.int .i64 11,.int .i64 n,sX [k0],v.T,atT [x0] y pick] bankE h m id md mc tie s (Ex.ev ⟨v,y,[x0],[k0]⟩ (.mul .v (.sub (.k 0) (.mul .y .y))) s).v true (Ex.ev ⟨v,y,[x0],[k0]⟩ (.mul .v (.sub (.k 0) (.mul .y .y))) s).s:=by
 obtain⟨hloc,hb,hkb,hv,hy,hx0,hk0,_⟩:=H
 obtain⟨w1,s1,e1,c1,f1,g1,q1⟩:=mulA m id mc tie hb (by omega) hy hy
 obtain⟨w2,s2,e2,c2,f2,g2,q2⟩:=subA m id mc tie hb (by omega) (fun e=>hk0 (f1 e)) g1
 obtain⟨w3,s3,e3,c3,f3,g3,q3⟩:=mulA m id mc tie hb (by omega) (fun e=>hv (f1 (f2 e))) g2
 simp only[RR,Ex.ev,List.getD_cons_zero,List.getD_cons_succ,e1,e2,e3]
 refine Ret.iR Tryz.func98 [.c 12 68,.s 13] ?_
 refine SmT ?_
 refine SmA ?_
 refine Goes.dB ?_
 refine SmA ?_
 refine CallD.B Tryz.call56 c1 ?_
 refine SmA ?_
 refine CallD.B Tryz.call66 c2 ?_
 refine SmA ?_
 refine CallD.B Tryz.call56 c3 ?_
 refine SmA ?_
 refine⟨.mk (by kernel_rfl),?_⟩
 apply run_sound 200
 refine SmA ?_
 exact endC.W
set_option maxHeartbeats 2000000 in
theorem one12a (H:HX h md s [v,y,x0]) (hn0:n=0):RR 98 [.int .i64 12,.int .i64 n,sX ks,v.T,atT [x0] y pick] bankE h m id md mc tie s (Ex.ev ⟨v,y,[x0],ks⟩ .v s).v (decide (n=1)) (Ex.ev ⟨v,y,[x0],ks⟩ .v s).s:=by
 obtain⟨hloc,hb,hkb,hv,hy,hx0,_⟩:=H
 subst hn0
 simp only[RR,Ex.ev,List.getD_cons_zero,List.getD_cons_succ]
 refine Ret.iR Tryz.func98 [.c 12 68,.s 13] ?_
 refine SmT ?_
 refine SmA ?_
 exact endC.W
set_option maxHeartbeats 2000000 in
theorem one12c (H:HX h md s [v,y,x0]) (hn0:n=1):RR 98 [.int .i64 12,.int .i64 n,sX ks,v.T,atT [x0] y pick] bankE h m id md mc tie s (Ex.ev ⟨v,y,[x0],ks⟩ .v s).v (decide (n=1)) (Ex.ev ⟨v,y,[x0],ks⟩ .v s).s:=by
 obtain⟨hloc,hb,hkb,hv,hy,hx0,_⟩:=H
 subst hn0
 simp only[RR,Ex.ev,List.getD_cons_zero,List.getD_cons_succ]
 refine Ret.iR Tryz.func98 [.c 12 68,.s 13] ?_
 refine SmT ?_
 refine SmA ?_
 exact endC.W
set_option maxHeartbeats 2000000 in
theorem one12b (H:HX h md s [v,y,x0,k0,k1]) (hn0:n≠0) (hn1:n≠1) (hn:(n-1).natAbs≤10):RR 98 [.int .i64 12,.int .i64 n,sX [k0,k1],v.T,atT [x0] y pick] bankE h m id md mc tie s (Ex.ev ⟨v,y,[x0],[k0,k1]⟩ (.mul .v (.mul (.k 1) (.pow (n-1)))) s).v true (Ex.ev ⟨v,y,[x0],[k0,k1]⟩ (.mul .v (.mul (.k 1) (.pow (n-1)))) s).s:=by
 obtain⟨hloc,hb,hkb,hv,hy,hx0,hk0,hk1,_⟩:=H
 have d1:decide (n=0)=false:=decide_eq_false hn0
 have d2:decide (n=1)=false:=decide_eq_false hn1
 have d3:IntKind.wrap .i64 (n-1)=n-1:=by rw[w64]<;>omega
 obtain⟨w1,s1,e1,c1,f1,g1,q1⟩:=powA m id mc tie hb (by omega) hn hk0 hx0
 obtain⟨w2,s2,e2,c2,f2,g2,q2⟩:=mulA m id mc tie hb (by omega) (fun e=>hk1 (f1 e)) g1
 obtain⟨w3,s3,e3,c3,f3,g3,q3⟩:=mulA m id mc tie hb (by omega) (fun e=>hv (f1 (f2 e))) g2
 simp only[RR,Ex.ev,List.getD_cons_zero,List.getD_cons_succ,e1,e2,e3]
 refine Ret.iR Tryz.func98 [.c 12 68,.s 13] ?_
 refine SmT ?_
 simp-implicitDefEqProofs+decide only[go_sem,hloc,d1,d2,d3]
 refine Goes.dB ?_
 simp-implicitDefEqProofs+decide only[go_sem,hloc,d1,d2,d3]
 refine CallD.B Tryz.call150 c1 ?_
 simp-implicitDefEqProofs+decide only[go_sem,hloc,d1,d2,d3]
 refine CallD.B Tryz.call56 c2 ?_
 simp-implicitDefEqProofs+decide only[go_sem,hloc,d1,d2,d3]
 refine CallD.B Tryz.call56 c3 ?_
 simp-implicitDefEqProofs+decide only[go_sem,hloc,d1,d2,d3]
 refine⟨.mk (by kernel_rfl),?_⟩
 apply run_sound 200
 simp-implicitDefEqProofs+decide only[go_sem,hloc,d1,d2,d3]
 exact endC.W
set_option maxHeartbeats 2000000 in
theorem one13 (H:HX h md s [v,y,x0,k0]):RR 98 [.int .i64 13,.int .i64 n,sX [k0],v.T,atT [x0] y pick] bankE h m id md mc tie s (Ex.ev ⟨v,y,[x0],[k0]⟩ (.mul .v (.k 0)) s).v true (Ex.ev ⟨v,y,[x0],[k0]⟩ (.mul .v (.k 0)) s).s:=by
 obtain⟨hloc,hb,hkb,hv,hy,hx0,hk0,_⟩:=H
 obtain⟨w1,s1,e1,c1,f1,g1,q1⟩:=mulA m id mc tie hb (by omega) hv hk0
 simp only[RR,Ex.ev,List.getD_cons_zero,List.getD_cons_succ,e1]
 refine Ret.iR Tryz.func98 [.c 12 68,.s 13] ?_
 refine SmT ?_
 refine SmA ?_
 refine Goes.dB ?_
 refine SmA ?_
 refine CallD.B Tryz.call56 c1 ?_
 refine SmA ?_
 refine⟨.mk (by kernel_rfl),?_⟩
 apply run_sound 200
 refine SmA ?_
 exact endC.W
set_option maxHeartbeats 2000000 in
theorem one14 (H:HX h md s [v,y,x0]):RR 98 [.int .i64 14,.int .i64 n,sX ks,v.T,atT [x0] y pick] bankE h m id md mc tie s (Ex.ev ⟨v,y,[x0],ks⟩ .v s).v true (Ex.ev ⟨v,y,[x0],ks⟩ .v s).s:=by
 obtain⟨hloc,hb,hkb,hv,hy,hx0,_⟩:=H
 simp only[RR,Ex.ev,List.getD_cons_zero,List.getD_cons_succ]
 refine Ret.iR Tryz.func98 [.c 12 68,.s 13] ?_
 refine SmT ?_
 refine SmA ?_
 exact endC.W
set_option maxHeartbeats 2000000 in
theorem one15 (H:HX h md s [v,y,x0]):RR 98 [.int .i64 15,.int .i64 n,sX ks,v.T,atT [x0] y pick] bankE h m id md mc tie s (Ex.ev ⟨v,y,[x0],ks⟩ .v s).v (decide (pick=0)) (Ex.ev ⟨v,y,[x0],ks⟩ .v s).s:=by
 obtain⟨hloc,hb,hkb,hv,hy,hx0,_⟩:=H
 simp only[RR,Ex.ev,List.getD_cons_zero,List.getD_cons_succ]
 refine Ret.iR Tryz.func98 [.c 12 68,.s 13] ?_
 refine SmT ?_
 refine SmA ?_
 refine Goes.dB ?_
 refine SmA ?_
 refine⟨.mk (by kernel_rfl),?_⟩
 apply run_sound 200
 refine SmA ?_
 exact endC.W
set_option maxHeartbeats 2000000 in
theorem one16a (H:HX h md s [v,y,x0,k0]) (hp:pick=1):RR 98 [.int .i64 16,.int .i64 n,sX [k0],v.T,atT [x0] y pick] bankE h m id md mc tie s (Ex.ev ⟨v,y,[x0],[k0]⟩ (.mul .v (.k 0)) s).v true (Ex.ev ⟨v,y,[x0],[k0]⟩ (.mul .v (.k 0)) s).s:=by
 obtain⟨hloc,hb,hkb,hv,hy,hx0,hk0,_⟩:=H
 subst hp
 obtain⟨w1,s1,e1,c1,f1,g1,q1⟩:=mulA m id mc tie hb (by omega) hv hk0
 simp only[RR,Ex.ev,List.getD_cons_zero,List.getD_cons_succ,e1]
 refine Ret.iR Tryz.func98 [.c 12 68,.s 13] ?_
 refine SmT ?_
 refine SmA ?_
 refine Goes.dB ?_
 refine SmA ?_
 refine CallD.B Tryz.call56 c1 ?_
 refine SmA ?_
 refine⟨.mk (by kernel_rfl),?_⟩
 apply run_sound 200
 refine SmA ?_
 exact endC.W
set_option maxHeartbeats 2000000 in
theorem one16b (H:HX h md s [v,y,x0,k0]) (hp:pick≠1):RR 98 [.int .i64 16,.int .i64 n,sX [k0],v.T,atT [x0] y pick] bankE h m id md mc tie s (Ex.ev ⟨v,y,[x0],[k0]⟩ .v s).v true (Ex.ev ⟨v,y,[x0],[k0]⟩ .v s).s:=by
 obtain⟨hloc,hb,hkb,hv,hy,hx0,hk0,_⟩:=H
 have d1:decide (pick=1)=false:=decide_eq_false hp
 simp only[RR,Ex.ev,List.getD_cons_zero,List.getD_cons_succ]
 refine Ret.iR Tryz.func98 [.c 12 68,.s 13] ?_
 refine SmT ?_
 simp-implicitDefEqProofs+decide only[go_sem,hloc,d1]
 exact endC.W
end
section
variable {h:Heap} {m id:Nat} {md:Int} {mc:AV} {tie:Bool} {s:Es} {v y x0 x1 x2 k0 k1:Vx} {ks:List Vx} {x:Atr} {n which pick:Int}
set_option maxHeartbeats 2000000 in
theorem mix26a (H:HX h md s [v,y,x0,x1,x2]):RR 158 [.int .i64 26,.int .i64 (0),v.T,atT [x0,x1,x2] y pick] bankE h m id md mc tie s (Ex.ev ⟨v,y,[x0,x1,x2],ks⟩ (.sub .v (.mul .v (.x 2))) s).v true (Ex.ev ⟨v,y,[x0,x1,x2],ks⟩ (.sub .v (.mul .v (.x 2))) s).s:=by
 obtain⟨hloc,hb,hkb,hv,hy,hx0,hx1,hx2,_⟩:=H
 obtain⟨w1,s1,e1,c1,f1,g1,q1⟩:=mulA m id mc tie hb (by omega) hv hx2
 obtain⟨w2,s2,e2,c2,f2,g2,q2⟩:=subA m id mc tie hb (by omega) (fun e=>hv (f1 e)) g1
 simp only[RR,Ex.ev,List.getD_cons_zero,List.getD_cons_succ,e1,e2]
 refine Ret.iR Tryz.func158 [.c 10 68,.s 11] ?_
 refine SmT ?_
 refine SmD ?_
 refine Goes.dB ?_
 refine SmD ?_
 refine CallD.B Tryz.call56 c1 ?_
 refine SmD ?_
 refine CallD.B Tryz.call66 c2 ?_
 refine SmD ?_
 refine⟨.mk (by kernel_rfl),?_⟩
 apply run_sound 200
 refine SmD ?_
 exact endC.W
set_option maxHeartbeats 2000000 in
theorem mix26b (H:HX h md s [v,y,x0,x1,x2]):RR 158 [.int .i64 26,.int .i64 (1),v.T,atT [x0,x1,x2] y pick] bankE h m id md mc tie s (Ex.ev ⟨v,y,[x0,x1,x2],ks⟩ (.mul .v (.x 2)) s).v true (Ex.ev ⟨v,y,[x0,x1,x2],ks⟩ (.mul .v (.x 2)) s).s:=by
 obtain⟨hloc,hb,hkb,hv,hy,hx0,hx1,hx2,_⟩:=H
 obtain⟨w1,s1,e1,c1,f1,g1,q1⟩:=mulA m id mc tie hb (by omega) hv hx2
 simp only[RR,Ex.ev,List.getD_cons_zero,List.getD_cons_succ,e1]
 refine Ret.iR Tryz.func158 [.c 10 68,.s 11] ?_
 refine SmT ?_
 refine SmD ?_
 refine Goes.dB ?_
 refine SmD ?_
 refine CallD.B Tryz.call56 c1 ?_
 refine SmD ?_
 refine⟨.mk (by kernel_rfl),?_⟩
 apply run_sound 200
 refine SmD ?_
 exact endC.W
set_option maxHeartbeats 2000000 in
theorem mix26c (H:HX h md s [v,y,x0,x1,x2]):RR 158 [.int .i64 26,.int .i64 (2),v.T,atT [x0,x1,x2] y pick] bankE h m id md mc tie s (Ex.ev ⟨v,y,[x0,x1,x2],ks⟩ (.mul .v (.sub (.x 1) (.x 0))) s).v true (Ex.ev ⟨v,y,[x0,x1,x2],ks⟩ (.mul .v (.sub (.x 1) (.x 0))) s).s:=by
 obtain⟨hloc,hb,hkb,hv,hy,hx0,hx1,hx2,_⟩:=H
 obtain⟨w1,s1,e1,c1,f1,g1,q1⟩:=subA m id mc tie hb (by omega) hx1 hx0
 obtain⟨w2,s2,e2,c2,f2,g2,q2⟩:=mulA m id mc tie hb (by omega) (fun e=>hv (f1 e)) g1
 simp only[RR,Ex.ev,List.getD_cons_zero,List.getD_cons_succ,e1,e2]
 refine Ret.iR Tryz.func158 [.c 10 68,.s 11] ?_
 refine SmT ?_
 refine SmD ?_
 refine Goes.dB ?_
 refine SmD ?_
 refine CallD.B Tryz.call66 c1 ?_
 refine SmD ?_
 refine CallD.B Tryz.call56 c2 ?_
 refine SmD ?_
 refine⟨.mk (by kernel_rfl),?_⟩
 apply run_sound 200
 refine SmD ?_
 exact endC.W
set_option maxHeartbeats 2000000 in
theorem more17 (H:HX h md s [v,y,x0,x1]):RR 99 [.int .i64 17,.int .i64 which,v.T,atT [x0,x1] y pick] bankE h m id md mc tie s (Ex.ev ⟨v,y,[x0,x1],ks⟩ .v s).v true (Ex.ev ⟨v,y,[x0,x1],ks⟩ .v s).s:=by
 obtain⟨hloc,hb,hkb,hv,hy,hx0,hx1,_⟩:=H
 simp only[RR,Ex.ev,List.getD_cons_zero,List.getD_cons_succ]
 refine Ret.iR Tryz.func99 [.c 10 68,.s 11] ?_
 refine SmT ?_
 refine SmD ?_
 exact endC.W
set_option maxHeartbeats 2000000 in
theorem more18a (H:HX h md s [v,y,x0,x1]):RR 99 [.int .i64 18,.int .i64 (1),v.T,atT [x0,x1] y pick] bankE h m id md mc tie s (Ex.ev ⟨v,y,[x0,x1],ks⟩ (.neg .v) s).v true (Ex.ev ⟨v,y,[x0,x1],ks⟩ (.neg .v) s).s:=by
 obtain⟨hloc,hb,hkb,hv,hy,hx0,hx1,_⟩:=H
 obtain⟨w1,s1,e1,c1,f1,g1,q1⟩:=negA m id mc tie hb (by omega) hv
 simp only[RR,Ex.ev,List.getD_cons_zero,List.getD_cons_succ,e1]
 refine Ret.iR Tryz.func99 [.c 10 68,.s 11] ?_
 refine SmT ?_
 refine SmD ?_
 refine CallG.Q _ Tryz.call146 c1 ?_
 refine SmD ?_
 exact endC.W
set_option maxHeartbeats 2000000 in
theorem more18b (H:HX h md s [v,y,x0,x1]):RR 99 [.int .i64 18,.int .i64 (0),v.T,atT [x0,x1] y pick] bankE h m id md mc tie s (Ex.ev ⟨v,y,[x0,x1],ks⟩ .v s).v true (Ex.ev ⟨v,y,[x0,x1],ks⟩ .v s).s:=by
 obtain⟨hloc,hb,hkb,hv,hy,hx0,hx1,_⟩:=H
 simp only[RR,Ex.ev,List.getD_cons_zero,List.getD_cons_succ]
 refine Ret.iR Tryz.func99 [.c 10 68,.s 11] ?_
 refine SmT ?_
 refine SmD ?_
 exact endC.W
set_option maxHeartbeats 2000000 in
theorem more19a (H:HX h md s [v,y,x0,x1]):RR 99 [.int .i64 19,.int .i64 (0),v.T,atT [x0,x1] y pick] bankE h m id md mc tie s (Ex.ev ⟨v,y,[x0,x1],ks⟩ (.mul .v (.x 1)) s).v true (Ex.ev ⟨v,y,[x0,x1],ks⟩ (.mul .v (.x 1)) s).s:=by
 obtain⟨hloc,hb,hkb,hv,hy,hx0,hx1,_⟩:=H
 obtain⟨w1,s1,e1,c1,f1,g1,q1⟩:=mulA m id mc tie hb (by omega) hv hx1
 simp only[RR,Ex.ev,List.getD_cons_zero,List.getD_cons_succ,e1]
 refine Ret.iR Tryz.func99 [.c 10 68,.s 11] ?_
 refine SmT ?_
 refine SmD ?_
 refine Goes.dB ?_
 refine SmD ?_
 refine CallD.B Tryz.call56 c1 ?_
 refine SmD ?_
 refine⟨.mk (by kernel_rfl),?_⟩
 apply run_sound 200
 refine SmD ?_
 exact endC.W
set_option maxHeartbeats 2000000 in
theorem more19b (H:HX h md s [v,y,x0,x1]):RR 99 [.int .i64 19,.int .i64 (1),v.T,atT [x0,x1] y pick] bankE h m id md mc tie s (Ex.ev ⟨v,y,[x0,x1],ks⟩ (.mul .v (.x 0)) s).v true (Ex.ev ⟨v,y,[x0,x1],ks⟩ (.mul .v (.x 0)) s).s:=by
 obtain⟨hloc,hb,hkb,hv,hy,hx0,hx1,_⟩:=H
 obtain⟨w1,s1,e1,c1,f1,g1,q1⟩:=mulA m id mc tie hb (by omega) hv hx0
 simp only[RR,Ex.ev,List.getD_cons_zero,List.getD_cons_succ,e1]
 refine Ret.iR Tryz.func99 [.c 10 68,.s 11] ?_
 refine SmT ?_
 refine SmD ?_
 refine Goes.dB ?_
 refine SmD ?_
 refine CallD.B Tryz.call56 c1 ?_
 refine SmD ?_
 refine⟨.mk (by kernel_rfl),?_⟩
 apply run_sound 200
 refine SmD ?_
 exact endC.W
set_option maxHeartbeats 2000000 in
theorem more20a (H:HX h md s [v,y,x0,x1]):RR 99 [.int .i64 20,.int .i64 (0),v.T,atT [x0,x1] y pick] bankE h m id md mc tie s (Ex.ev ⟨v,y,[x0,x1],ks⟩ (.div .v (.x 1)) s).v true (Ex.ev ⟨v,y,[x0,x1],ks⟩ (.div .v (.x 1)) s).s:=by
 obtain⟨hloc,hb,hkb,hv,hy,hx0,hx1,_⟩:=H
 obtain⟨w1,s1,e1,c1,f1,g1,q1⟩:=divA m id mc tie hb (by omega) hv hx1
 simp only[RR,Ex.ev,List.getD_cons_zero,List.getD_cons_succ,e1]
 refine Ret.iR Tryz.func99 [.c 10 68,.s 11] ?_
 refine SmT ?_
 refine SmD ?_
 refine Goes.dB ?_
 refine SmD ?_
 refine CallD.B Tryz.call74 c1 ?_
 refine SmD ?_
 refine⟨.mk (by kernel_rfl),?_⟩
 apply run_sound 200
 refine SmD ?_
 exact endC.W
set_option maxHeartbeats 2000000 in
theorem more20b (H:HX h md s [v,y,x0,x1]):RR 99 [.int .i64 20,.int .i64 (1),v.T,atT [x0,x1] y pick] bankE h m id md mc tie s (Ex.ev ⟨v,y,[x0,x1],ks⟩ (.neg (.div (.mul .v .y) (.x 1))) s).v true (Ex.ev ⟨v,y,[x0,x1],ks⟩ (.neg (.div (.mul .v .y) (.x 1))) s).s:=by
 obtain⟨hloc,hb,hkb,hv,hy,hx0,hx1,_⟩:=H
 obtain⟨w1,s1,e1,c1,f1,g1,q1⟩:=mulA m id mc tie hb (by omega) hv hy
 obtain⟨w2,s2,e2,c2,f2,g2,q2⟩:=divA m id mc tie hb (by omega) g1 (fun e=>hx1 (f1 e))
 obtain⟨w3,s3,e3,c3,f3,g3,q3⟩:=negA m id mc tie hb (by omega) g2
 simp only[RR,Ex.ev,List.getD_cons_zero,List.getD_cons_succ,e1,e2,e3]
 refine Ret.iR Tryz.func99 [.c 10 68,.s 11] ?_
 refine SmT ?_
 refine SmD ?_
 refine Goes.dB ?_
 refine SmD ?_
 refine CallD.B Tryz.call56 c1 ?_
 refine SmD ?_
 refine CallD.B Tryz.call74 c2 ?_
 refine SmD ?_
 refine CallD.B Tryz.call146 c3 ?_
 refine SmD ?_
 refine⟨.mk (by kernel_rfl),?_⟩
 apply run_sound 200
 refine SmD ?_
 exact endC.W
set_option maxHeartbeats 2000000 in
theorem more21 (H:HX h md s [v,y,x0,x1]):RR 99 [.int .i64 21,.int .i64 which,v.T,atT [x0,x1] y pick] bankE h m id md mc tie s (Ex.ev ⟨v,y,[x0,x1],ks⟩ .v s).v (decide (pick=which)) (Ex.ev ⟨v,y,[x0,x1],ks⟩ .v s).s:=by
 obtain⟨hloc,hb,hkb,hv,hy,hx0,hx1,_⟩:=H
 simp only[RR,Ex.ev,List.getD_cons_zero,List.getD_cons_succ]
 refine Ret.iR Tryz.func99 [.c 10 68,.s 11] ?_
 refine SmT ?_
 refine SmD ?_
 refine Goes.dB ?_
 refine SmD ?_
 refine⟨.mk (by kernel_rfl),?_⟩
 apply run_sound 200
 refine SmD ?_
 exact endC.W
set_option maxHeartbeats 2000000 in
theorem more22 (H:HX h md s [v,y,x0,x1]):RR 99 [.int .i64 22,.int .i64 which,v.T,atT [x0,x1] y pick] bankE h m id md mc tie s (Ex.ev ⟨v,y,[x0,x1],ks⟩ .v s).v (decide (pick=which)) (Ex.ev ⟨v,y,[x0,x1],ks⟩ .v s).s:=by
 obtain⟨hloc,hb,hkb,hv,hy,hx0,hx1,_⟩:=H
 simp only[RR,Ex.ev,List.getD_cons_zero,List.getD_cons_succ]
 refine Ret.iR Tryz.func99 [.c 10 68,.s 11] ?_
 refine SmT ?_
 refine SmD ?_
 refine Goes.dB ?_
 refine SmD ?_
 refine⟨.mk (by kernel_rfl),?_⟩
 apply run_sound 200
 refine SmD ?_
 exact endC.W
set_option maxHeartbeats 2000000 in
theorem more24a (H:HX h md s [v,y,x0,x1,x2]):RR 99 [.int .i64 24,.int .i64 (0),v.T,atT [x0,x1,x2] y pick] bankE h m id md mc tie s (Ex.ev ⟨v,y,[x0,x1,x2],ks⟩ .v s).v false (Ex.ev ⟨v,y,[x0,x1,x2],ks⟩ .v s).s:=by
 obtain⟨hloc,hb,hkb,hv,hy,hx0,hx1,hx2,_⟩:=H
 simp only[RR,Ex.ev,List.getD_cons_zero,List.getD_cons_succ]
 refine Ret.iR Tryz.func99 [.c 10 68,.s 11] ?_
 refine SmT ?_
 refine SmD ?_
 refine Goes.dB ?_
 refine SmD ?_
 refine⟨.mk (by kernel_rfl),?_⟩
 apply run_sound 200
 refine SmD ?_
 exact endC.W
set_option maxHeartbeats 2000000 in
theorem more24b (H:HX h md s [v,y,x0,x1,x2]):RR 99 [.int .i64 24,.int .i64 (1),v.T,atT [x0,x1,x2] y pick] bankE h m id md mc tie s (Ex.ev ⟨v,y,[x0,x1,x2],ks⟩ .v s).v (decide (pick=1)) (Ex.ev ⟨v,y,[x0,x1,x2],ks⟩ .v s).s:=by
 obtain⟨hloc,hb,hkb,hv,hy,hx0,hx1,hx2,_⟩:=H
 simp only[RR,Ex.ev,List.getD_cons_zero,List.getD_cons_succ]
 refine Ret.iR Tryz.func99 [.c 10 68,.s 11] ?_
 refine SmT ?_
 refine SmD ?_
 refine Goes.dB ?_
 refine SmD ?_
 refine⟨.mk (by kernel_rfl),?_⟩
 apply run_sound 200
 refine SmD ?_
 exact endC.W
set_option maxHeartbeats 2000000 in
theorem more24c (H:HX h md s [v,y,x0,x1,x2]):RR 99 [.int .i64 24,.int .i64 (2),v.T,atT [x0,x1,x2] y pick] bankE h m id md mc tie s (Ex.ev ⟨v,y,[x0,x1,x2],ks⟩ .v s).v (decide (pick=0)) (Ex.ev ⟨v,y,[x0,x1,x2],ks⟩ .v s).s:=by
 obtain⟨hloc,hb,hkb,hv,hy,hx0,hx1,hx2,_⟩:=H
 simp only[RR,Ex.ev,List.getD_cons_zero,List.getD_cons_succ]
 refine Ret.iR Tryz.func99 [.c 10 68,.s 11] ?_
 refine SmT ?_
 refine SmD ?_
 refine Goes.dB ?_
 refine SmD ?_
 refine⟨.mk (by kernel_rfl),?_⟩
 apply run_sound 200
 refine SmD ?_
 exact endC.W
set_option maxHeartbeats 2000000 in
theorem more25a (H:HX h md s [v,y,x0,x1,x2]):RR 99 [.int .i64 25,.int .i64 (0),v.T,atT [x0,x1,x2] y pick] bankE h m id md mc tie s (Ex.ev ⟨v,y,[x0,x1,x2],ks⟩ (.mul .v (.x 1)) s).v true (Ex.ev ⟨v,y,[x0,x1,x2],ks⟩ (.mul .v (.x 1)) s).s:=by
 obtain⟨hloc,hb,hkb,hv,hy,hx0,hx1,hx2,_⟩:=H
 obtain⟨w1,s1,e1,c1,f1,g1,q1⟩:=mulA m id mc tie hb (by omega) hv hx1
 simp only[RR,Ex.ev,List.getD_cons_zero,List.getD_cons_succ,e1]
 refine Ret.iR Tryz.func99 [.c 10 68,.s 11] ?_
 refine SmT ?_
 refine SmD ?_
 refine Goes.dB ?_
 refine SmD ?_
 refine CallD.B Tryz.call56 c1 ?_
 refine SmD ?_
 refine⟨.mk (by kernel_rfl),?_⟩
 apply run_sound 200
 refine SmD ?_
 exact endC.W
set_option maxHeartbeats 2000000 in
theorem more25b (H:HX h md s [v,y,x0,x1,x2]):RR 99 [.int .i64 25,.int .i64 (1),v.T,atT [x0,x1,x2] y pick] bankE h m id md mc tie s (Ex.ev ⟨v,y,[x0,x1,x2],ks⟩ (.mul .v (.x 0)) s).v true (Ex.ev ⟨v,y,[x0,x1,x2],ks⟩ (.mul .v (.x 0)) s).s:=by
 obtain⟨hloc,hb,hkb,hv,hy,hx0,hx1,hx2,_⟩:=H
 obtain⟨w1,s1,e1,c1,f1,g1,q1⟩:=mulA m id mc tie hb (by omega) hv hx0
 simp only[RR,Ex.ev,List.getD_cons_zero,List.getD_cons_succ,e1]
 refine Ret.iR Tryz.func99 [.c 10 68,.s 11] ?_
 refine SmT ?_
 refine SmD ?_
 refine Goes.dB ?_
 refine SmD ?_
 refine CallD.B Tryz.call56 c1 ?_
 refine SmD ?_
 refine⟨.mk (by kernel_rfl),?_⟩
 apply run_sound 200
 refine SmD ?_
 exact endC.W
set_option maxHeartbeats 2000000 in
theorem more25c (H:HX h md s [v,y,x0,x1,x2]):RR 99 [.int .i64 25,.int .i64 (2),v.T,atT [x0,x1,x2] y pick] bankE h m id md mc tie s (Ex.ev ⟨v,y,[x0,x1,x2],ks⟩ .v s).v true (Ex.ev ⟨v,y,[x0,x1,x2],ks⟩ .v s).s:=by
 obtain⟨hloc,hb,hkb,hv,hy,hx0,hx1,hx2,_⟩:=H
 simp only[RR,Ex.ev,List.getD_cons_zero,List.getD_cons_succ]
 refine Ret.iR Tryz.func99 [.c 10 68,.s 11] ?_
 refine SmT ?_
 refine SmD ?_
 exact endC.W
end
def manyX (op:Int):Int:=if op<1∨26<op then 0 else if op<17 then 1 else if op<24 then 2 else 3
def fairX (op:Int) (x:Atr):Bool:=decide (op≠12)||(decide (-8≤x.n)&&decide (x.n≤8))
theorem many_ok (op:Int):Pure Tryz.prog 46 [.int .i64 op] [.t (.int .i64 (manyX op))]:=by
 unfold manyX
 refine Pure.I Tryz.func46 [2] ?_
 by_cases h1:op<1
 ·have d1:decide (op<1)=true:=decide_eq_true h1
  rw[if_pos (.inl h1)]
  simp-implicitDefEqProofs+decide only[go_sem,d1]
  exact endF.V1 2 (.int .i64 0)
 have d1:decide (op<1)=false:=decide_eq_false h1
 by_cases h2:26<op
 ·have d2:decide (26<op)=true:=decide_eq_true h2
  have d2':decide (op>26)=true:=decide_eq_true h2
  rw[if_pos (.inr h2)]
  simp-implicitDefEqProofs+decide only[go_sem,d1,d2,d2']
  exact endF.V1 2 (.int .i64 0)
 have d2:decide (26<op)=false:=decide_eq_false h2
 have d2':decide (op>26)=false:=decide_eq_false h2
 rw[if_neg (by omega)]
 by_cases h3:op<17
 ·have d3:decide (op<17)=true:=decide_eq_true h3
  rw[if_pos h3]
  simp-implicitDefEqProofs+decide only[go_sem,d1,d2,d2',d3]
  exact endF.V1 2 (.int .i64 1)
 have d3:decide (op<17)=false:=decide_eq_false h3
 rw[if_neg h3]
 by_cases h4:op<24
 ·have d4:decide (op<24)=true:=decide_eq_true h4
  rw[if_pos h4]
  simp-implicitDefEqProofs+decide only[go_sem,d1,d2,d2',d3,d4]
  exact endF.V1 2 (.int .i64 2)
 have d4:decide (op<24)=false:=decide_eq_false h4
 rw[if_neg h4]
 simp-implicitDefEqProofs+decide only[go_sem,d1,d2,d2',d3,d4]
 exact endF.V1 2 (.int .i64 3)
theorem fair_ok (op:Int) (x:Atr):Pure Tryz.prog 87 [.int .i64 op,x.T] [.t (.bool (fairX op x))]:=by
 obtain⟨a1,a2,a3,a4,a5,a6,a7,a8,ak,al⟩:=x
 refine Pure.I Tryz.func87 [4] ?_
 unfold fairX
 by_cases h1:op=12
 ·have d1:decide (op≠12)=false:=decide_eq_false (fun h=>h h1)
  by_cases h2: -8≤a1
  ·have d2:decide (a1≥ -8)=true:=decide_eq_true h2
   have d2':decide (-8≤a1)=true:=decide_eq_true h2
   rw[d1,d2']
   simp-implicitDefEqProofs+decide only[go_sem,d1,d2,d2',Atr.T,I,sI]
   exact endF.V1 4 (.bool (decide (a1≤8)))
  ·have d2:decide (a1≥ -8)=false:=decide_eq_false h2
   have d2':decide (-8≤a1)=false:=decide_eq_false h2
   rw[d1,d2']
   simp-implicitDefEqProofs+decide only[go_sem,d1,d2,d2',Atr.T,I,sI]
   exact endF.V1 4 (.bool false)
 ·have d1:decide (op≠12)=true:=decide_eq_true h1
  rw[d1]
  simp-implicitDefEqProofs+decide only[go_sem,d1,Atr.T,I,sI]
  exact endF.V1 4 (.bool true)
theorem lfair_ok (op:Int) (x:Atr):Pure Tryz.prog 47 [.int .i64 op,x.T] [.t (.bool (fairX op x))]:=by
 obtain⟨a1,a2,a3,a4,a5,a6,a7,a8,ak,al⟩:=x
 refine Pure.I Tryz.func47 [4] ?_
 unfold fairX
 by_cases h1:op=12
 ·have d1:decide (op≠12)=false:=decide_eq_false (fun h=>h h1)
  by_cases h2: -8≤a1
  ·have d2:decide (a1≥ -8)=true:=decide_eq_true h2
   have d2':decide (-8≤a1)=true:=decide_eq_true h2
   rw[d1,d2']
   simp-implicitDefEqProofs+decide only[go_sem,d1,d2,d2',Atr.T,I,sI]
   exact endF.V1 4 (.bool (decide (a1≤8)))
  ·have d2:decide (a1≥ -8)=false:=decide_eq_false h2
   have d2':decide (-8≤a1)=false:=decide_eq_false h2
   rw[d1,d2']
   simp-implicitDefEqProofs+decide only[go_sem,d1,d2,d2',Atr.T,I,sI]
   exact endF.V1 4 (.bool false)
 ·have d1:decide (op≠12)=true:=decide_eq_true h1
  rw[d1]
  simp-implicitDefEqProofs+decide only[go_sem,d1,Atr.T,I,sI]
  exact endF.V1 4 (.bool true)
def isX (op:Int):Bool:=decide (1≤op)&&decide (op≤26)
theorem is_ok (op:Int):Pure Tryz.prog 49 [.int .i64 op] [.t (.int .i64 (manyX op)),.t (.bool (isX op))]:=by
 unfold manyX isX
 refine Pure.I Tryz.func49 [2,3] ?_
 by_cases h1:op<1
 ·have a1:decide (op≥1)=false:=decide_eq_false (by omega)
  have a1':decide (1≤op)=false:=decide_eq_false (by omega)
  have a2:decide (op≥17)=false:=decide_eq_false (by omega)
  have a3:decide (op≥24)=false:=decide_eq_false (by omega)
  rw[if_pos (.inl h1),a1']
  simp-implicitDefEqProofs+decide only[go_sem,a1,a2,a3]
  exact endF.V [(2,.int .i64 0),(3,.bool false)] (vals_t (by simp-implicitDefEqProofs+decide only[go_sem]<;>rfl) rfl (vals_t (by simp-implicitDefEqProofs+decide only[go_sem]<;>rfl) rfl vals_nil))
 have a1:decide (op≥1)=true:=decide_eq_true (by omega)
 have a1':decide (1≤op)=true:=decide_eq_true (by omega)
 rw[a1']
 by_cases h2:26<op
 ·have b1:decide (op≤16)=false:=decide_eq_false (by omega)
  have b2:decide (op≤23)=false:=decide_eq_false (by omega)
  have b3:decide (op≤26)=false:=decide_eq_false (by omega)
  have a2:decide (op≥17)=true:=decide_eq_true (by omega)
  have a3:decide (op≥24)=true:=decide_eq_true (by omega)
  rw[if_pos (.inr h2),b3]
  simp-implicitDefEqProofs+decide only[go_sem,a1,a2,a3,b1,b2,b3]
  exact endF.V [(2,.int .i64 0),(3,.bool false)] (vals_t (by simp-implicitDefEqProofs+decide only[go_sem]<;>rfl) rfl (vals_t (by simp-implicitDefEqProofs+decide only[go_sem]<;>rfl) rfl vals_nil))
 have b3:decide (op≤26)=true:=decide_eq_true (by omega)
 rw[if_neg (by omega),b3]
 by_cases h3:op<17
 ·have b1:decide (op≤16)=true:=decide_eq_true (by omega)
  rw[if_pos h3]
  simp-implicitDefEqProofs+decide only[go_sem,a1,b1]
  exact endF.V [(2,.int .i64 1),(3,.bool true)] (vals_t (by simp-implicitDefEqProofs+decide only[go_sem]<;>rfl) rfl (vals_t (by simp-implicitDefEqProofs+decide only[go_sem]<;>rfl) rfl vals_nil))
 have b1:decide (op≤16)=false:=decide_eq_false (by omega)
 have a2:decide (op≥17)=true:=decide_eq_true (by omega)
 rw[if_neg h3]
 by_cases h4:op<24
 ·have b2:decide (op≤23)=true:=decide_eq_true (by omega)
  rw[if_pos h4]
  simp-implicitDefEqProofs+decide only[go_sem,a1,b1,a2,b2]
  exact endF.V [(2,.int .i64 2),(3,.bool true)] (vals_t (by simp-implicitDefEqProofs+decide only[go_sem]<;>rfl) rfl (vals_t (by simp-implicitDefEqProofs+decide only[go_sem]<;>rfl) rfl vals_nil))
 have b2:decide (op≤23)=false:=decide_eq_false (by omega)
 have a3:decide (op≥24)=true:=decide_eq_true (by omega)
 rw[if_neg h4]
 simp-implicitDefEqProofs+decide only[go_sem,a1,b1,a2,b2,a3,b3]
 exact endF.V [(2,.int .i64 3),(3,.bool true)] (vals_t (by simp-implicitDefEqProofs+decide only[go_sem]<;>rfl) rfl (vals_t (by simp-implicitDefEqProofs+decide only[go_sem]<;>rfl) rfl vals_nil))
theorem numE_g {md:Int} (hmd:md=0∨md=1) {s:Es} {p q:Int} (hp: -9223372036854775808≤p∧p≤9223372036854775807) (hq: -9223372036854775808≤q∧q≤9223372036854775807):
  ((numE md s p q).s.e=0→s.e=0)∧Gd md (numE md s p q).s (numE md s p q).v∧(numE md s p q).s.k=s.k:=by
 unfold numE Gd
 by_cases h0:s.e=0
 ·rw[if_pos h0]
  by_cases hz:q=0
  ·rw[if_pos hz]
   exact⟨fun h=>(by cases h),fun h=>(by cases h),rfl⟩
  ·rw[if_neg hz]
   exact⟨fun _=>h0,fun _=>⟨numV_md hmd _,numV_B ((QB_div (by omega) (by omega) (by omega)).mono (by decide))⟩,rfl⟩
 ·rw[if_neg h0]
  exact⟨fun h=>absurd h h0,fun h=>absurd h h0,rfl⟩
theorem readyE_g {md:Int} (hmd:md=0∨md=1) {s:Es} (x:Atr) (op:Int) (hr:∀q∈askedL op x,(-9223372036854775808≤q.1∧q.1≤9223372036854775807)∧ -9223372036854775808≤q.2∧q.2≤9223372036854775807):∀i,i≤(askedL op x).length→
  ((readyE md s (askedL op x) i).s.e=0→s.e=0)∧(∀k∈(readyE md s (askedL op x) i).l,Gd md (readyE md s (askedL op x) i).s k)∧(readyE md s (askedL op x) i).s.k=s.k
 |0,_=>⟨id,fun k hk=>(by cases hk),rfl⟩
 | i + 1, hi => by
   have ih:=readyE_g hmd (s:=s) x op hr i (by omega)
   obtain⟨⟨p,q⟩,hp⟩:=getI (show i<(askedL op x).length by omega)
   have hpd:(askedL op x).getD i (0,0)=(p,q):=by rw[List.getD_eq_getElem?_getD,hp];rfl
   have hrr:=hr _ (List.mem_of_getElem? hp)
   have g:=numE_g hmd (s:=(readyE md s (askedL op x) i).s) (p:=p) (q:=q) hrr.1 hrr.2
   unfold readyE
   rw[hpd]
   dsimp only
   refine⟨fun h=>ih.1 (g.1 h),fun k hk e=> ?_,g.2.2.trans ih.2.2⟩
   rcases List.mem_append.mp hk with h1|h1
   ·exact ih.2.1 k h1 (g.1 e)
   ·obtain rfl:=List.mem_singleton.mp h1
    exact g.2.1 e
theorem asked_in (op:Int) (x:Atr) (hn: -9223372036854775808≤x.n∧x.n≤9223372036854775807) (hp: -9223372036854775808≤x.p∧x.p≤9223372036854775807) (hq: -9223372036854775808≤x.q∧x.q≤9223372036854775807):∀q∈askedL op x,(-9223372036854775808≤q.1∧q.1≤9223372036854775807)∧ -9223372036854775808≤q.2∧q.2≤9223372036854775807:=by
 intro q h
 unfold askedL at h
 split at h
 ·obtain rfl:=List.mem_singleton.mp h
  decide
 split at h
 ·split at h
  ·rcases List.mem_cons.mp h with rfl|h
   ·decide
   ·obtain rfl:=List.mem_singleton.mp h
    exact⟨hn,(by decide:(-9223372036854775808:Int)≤1∧(1:Int)≤9223372036854775807)⟩
  ·cases h
 split at h
 ·obtain rfl:=List.mem_singleton.mp h
  exact⟨hp,hq⟩
 ·cases h
theorem list1 {α:Type} {l:List α} (h:l.length=1):∃a,l=[a]:=by
 cases l with
 |nil=>cases h
 | cons a r => cases r with
   |nil=>exact⟨a,rfl⟩
   |cons b q=>simp at h
theorem list2 {α:Type} {l:List α} (h:l.length=2):∃a b,l=[a,b]:=by
 cases l with
 |nil=>cases h
 |cons a r=>obtain⟨b,rfl⟩:=list1 (l:=r) (by simpa using h);exact⟨a,b,rfl⟩
theorem list3 {α:Type} {l:List α} (h:l.length=3):∃a b c,l=[a,b,c]:=by
 cases l with
 |nil=>cases h
 |cons a r=>obtain⟨b,c,rfl⟩:=list2 (l:=r) (by simpa using h);exact⟨a,b,c,rfl⟩
theorem fair_n {op:Int} {x:Atr} (h:fairX op x=true) (ho:op=12):(x.n-1).natAbs≤10:=by
 unfold fairX at h
 subst ho
 have h2: -8≤x.n∧x.n≤8:=by simpa using h
 omega
theorem asked_k {op:Int} {x:Atr} (h:op=10∨op=11∨op=13∨op=16):(askedL op x).length=1:=by
 unfold askedL
 rcases h with rfl|rfl|rfl|rfl<;>rfl
theorem asked_12 {x:Atr} (h0:x.n≠0) (h1:x.n≠1):(askedL 12 x).length=2:=by
 unfold askedL
 rw[if_neg (by decide),if_pos rfl,if_pos ⟨h0,h1⟩]
 rfl
theorem oneG (h:Heap) (m id:Nat) (md:Int) (mc:AV) (tie:Bool) (s:Es) (v y:Vx) (x0:Vx) (ks:List Vx) (op which pick:Int) (x:Atr) (hb:∀l,Lab.pool l=false→h l=none) (hk:h (.obj id)=some (bankE md mc s.k tie s.e)) (hkb:s.k<100000) (hv:Gd md s v) (hy:Gd md s y) (hx0:Gd md s x0) (hks:∀k∈ks,Gd md s k) (hop:1≤op∧op≤16) (h5:op≠5) (hl:ks.length=(askedL op x).length) (hf:fairX op x=true):
  Ret Tryz.prog 98 [.ptr id,.int .i64 op,.int .i64 x.n,sX ks,v.T,atT [x0] y pick] h m [.t ((slopeX op x.n which pick).2.ev ⟨v,y,[x0],ks⟩ s).v.T,.t (.bool (slopeX op x.n which pick).1)] (upd h (.obj id) (some (bankE md mc ((slopeX op x.n which pick).2.ev ⟨v,y,[x0],ks⟩ s).s.k tie ((slopeX op x.n which pick).2.ev ⟨v,y,[x0],ks⟩ s).s.e))) m:=by
 suffices hs:RR 98 [.int .i64 op,.int .i64 x.n,sX ks,v.T,atT [x0] y pick] bankE h m id md mc tie s ((slopeX op x.n which pick).2.ev ⟨v,y,[x0],ks⟩ s).v (slopeX op x.n which pick).1 ((slopeX op x.n which pick).2.ev ⟨v,y,[x0],ks⟩ s).s by
  unfold RR at hs
  rwa [upd_id hk]at hs
 have hc:op=1∨op=2∨op=3∨op=4∨op=6∨op=7∨op=8∨op=9∨op=10∨op=11∨op=12∨op=13∨op=14∨op=15∨op=16:=by omega
 rcases hc with rfl|rfl|rfl|rfl|rfl|rfl|rfl|rfl|rfl|rfl|rfl|rfl|rfl|rfl|rfl
 ·rw[show slopeX 1 x.n which pick=(true,(.neg .v)) by simp[slopeX]]
  exact one1 ⟨fun d j=>hb _ rfl,hb,hkb,hv,hy,hx0,trivial⟩
 ·rw[show slopeX 2 x.n which pick=(true,(.neg (.mul .v (.mul .y .y)))) by simp[slopeX]]
  exact one2 ⟨fun d j=>hb _ rfl,hb,hkb,hv,hy,hx0,trivial⟩
 ·rw[show slopeX 3 x.n which pick=(true,(.mul .v (.add (.x 0) (.x 0)))) by simp[slopeX]]
  exact one3 ⟨fun d j=>hb _ rfl,hb,hkb,hv,hy,hx0,trivial⟩
 ·by_cases hp:pick=1
  ·rw[show slopeX 4 x.n which pick=(true,(.neg .v)) by simp[slopeX,hp]]
   exact one4a ⟨fun d j=>hb _ rfl,hb,hkb,hv,hy,hx0,trivial⟩ hp
  ·rw[show slopeX 4 x.n which pick=(true,.v) by simp[slopeX,hp]]
   exact one4b ⟨fun d j=>hb _ rfl,hb,hkb,hv,hy,hx0,trivial⟩ hp
 ·rw[show slopeX 6 x.n which pick=(decide (pick=1),.v) by simp[slopeX]]
  exact one6 ⟨fun d j=>hb _ rfl,hb,hkb,hv,hy,hx0,trivial⟩
 ·rw[show slopeX 7 x.n which pick=(true,(.mul .v .y)) by simp[slopeX]]
  exact one7 ⟨fun d j=>hb _ rfl,hb,hkb,hv,hy,hx0,trivial⟩
 ·rw[show slopeX 8 x.n which pick=(true,(.div .v (.x 0))) by simp[slopeX]]
  exact one8 ⟨fun d j=>hb _ rfl,hb,hkb,hv,hy,hx0,trivial⟩
 ·rw[show slopeX 9 x.n which pick=(true,(.div .v (.add .y .y))) by simp[slopeX]]
  exact one9 ⟨fun d j=>hb _ rfl,hb,hkb,hv,hy,hx0,trivial⟩
 ·obtain⟨k0,rfl⟩:=list1 (hl.trans (asked_k (by decide)))
  have hk0:=hks k0 (by simp)
  rw[show slopeX 10 x.n which pick=(true,(.mul .v (.mul .y (.sub (.k 0) .y)))) by simp[slopeX]]
  exact one10 ⟨fun d j=>hb _ rfl,hb,hkb,hv,hy,hx0,hk0,trivial⟩
 ·obtain⟨k0,rfl⟩:=list1 (hl.trans (asked_k (by decide)))
  have hk0:=hks k0 (by simp)
  rw[show slopeX 11 x.n which pick=(true,(.mul .v (.sub (.k 0) (.mul .y .y)))) by simp[slopeX]]
  exact one11 ⟨fun d j=>hb _ rfl,hb,hkb,hv,hy,hx0,hk0,trivial⟩
 ·by_cases h0:x.n=0
  ·rw[show slopeX 12 x.n which pick=(decide (x.n=1),.v) by simp[slopeX,h0]]
   exact one12a ⟨fun d j=>hb _ rfl,hb,hkb,hv,hy,hx0,trivial⟩ h0
  by_cases h1:x.n=1
  ·rw[show slopeX 12 x.n which pick=(decide (x.n=1),.v) by simp[slopeX,h0,h1]]
   exact one12c ⟨fun d j=>hb _ rfl,hb,hkb,hv,hy,hx0,trivial⟩ h1
  ·obtain⟨k0,k1,rfl⟩:=list2 (hl.trans (asked_12 h0 h1))
   have hk0:=hks k0 (by simp)
   have hk1:=hks k1 (by simp)
   rw[show slopeX 12 x.n which pick=(true,(.mul .v (.mul (.k 1) (.pow (x.n-1))))) by simp[slopeX,h0,h1]]
   exact one12b ⟨fun d j=>hb _ rfl,hb,hkb,hv,hy,hx0,hk0,hk1,trivial⟩ h0 h1 (fair_n hf rfl)
 ·obtain⟨k0,rfl⟩:=list1 (hl.trans (asked_k (by decide)))
  have hk0:=hks k0 (by simp)
  rw[show slopeX 13 x.n which pick=(true,(.mul .v (.k 0))) by simp[slopeX]]
  exact one13 ⟨fun d j=>hb _ rfl,hb,hkb,hv,hy,hx0,hk0,trivial⟩
 ·rw[show slopeX 14 x.n which pick=(true,.v) by simp[slopeX]]
  exact one14 ⟨fun d j=>hb _ rfl,hb,hkb,hv,hy,hx0,trivial⟩
 ·rw[show slopeX 15 x.n which pick=(decide (pick=0),.v) by simp[slopeX]]
  exact one15 ⟨fun d j=>hb _ rfl,hb,hkb,hv,hy,hx0,trivial⟩
 ·by_cases hp:pick=1
  ·obtain⟨k0,rfl⟩:=list1 (hl.trans (asked_k (by decide)))
   have hk0:=hks k0 (by simp)
   rw[show slopeX 16 x.n which pick=(true,(.mul .v (.k 0))) by simp[slopeX,hp]]
   exact one16a ⟨fun d j=>hb _ rfl,hb,hkb,hv,hy,hx0,hk0,trivial⟩ hp
  ·obtain⟨k0,rfl⟩:=list1 (hl.trans (asked_k (by decide)))
   have hk0:=hks k0 (by simp)
   rw[show slopeX 16 x.n which pick=(true,.v) by simp[slopeX,hp]]
   exact one16b ⟨fun d j=>hb _ rfl,hb,hkb,hv,hy,hx0,hk0,trivial⟩ hp
theorem mixG (h:Heap) (m id:Nat) (md:Int) (mc:AV) (tie:Bool) (s:Es) (v y:Vx) (x0 x1 x2:Vx) (ks:List Vx) (n which pick:Int) (hb:∀l,Lab.pool l=false→h l=none) (hk:h (.obj id)=some (bankE md mc s.k tie s.e)) (hkb:s.k<100000) (hv:Gd md s v) (hy:Gd md s y) (hx0:Gd md s x0) (hx1:Gd md s x1) (hx2:Gd md s x2) (hw:0≤which∧which<3):
  Ret Tryz.prog 158 [.ptr id,.int .i64 26,.int .i64 which,v.T,atT [x0,x1,x2] y pick] h m [.t ((slopeX 26 n which pick).2.ev ⟨v,y,[x0,x1,x2],ks⟩ s).v.T,.t (.bool (slopeX 26 n which pick).1)] (upd h (.obj id) (some (bankE md mc ((slopeX 26 n which pick).2.ev ⟨v,y,[x0,x1,x2],ks⟩ s).s.k tie ((slopeX 26 n which pick).2.ev ⟨v,y,[x0,x1,x2],ks⟩ s).s.e))) m:=by
 suffices hs:RR 158 [.int .i64 26,.int .i64 which,v.T,atT [x0,x1,x2] y pick] bankE h m id md mc tie s ((slopeX 26 n which pick).2.ev ⟨v,y,[x0,x1,x2],ks⟩ s).v (slopeX 26 n which pick).1 ((slopeX 26 n which pick).2.ev ⟨v,y,[x0,x1,x2],ks⟩ s).s by
  unfold RR at hs
  rwa [upd_id hk]at hs
 have H:HX h md s [v,y,x0,x1,x2]:=⟨fun d j=>hb _ rfl,hb,hkb,hv,hy,hx0,hx1,hx2,trivial⟩
 have hc:which=0∨which=1∨which=2:=by omega
 rcases hc with rfl|rfl|rfl
 ·rw[show slopeX 26 n 0 pick=(true,(.sub .v (.mul .v (.x 2)))) by simp[slopeX]]
  exact mix26a H
 ·rw[show slopeX 26 n 1 pick=(true,(.mul .v (.x 2))) by simp[slopeX]]
  exact mix26b H
 ·rw[show slopeX 26 n 2 pick=(true,(.mul .v (.sub (.x 1) (.x 0)))) by simp[slopeX]]
  exact mix26c H
set_option maxHeartbeats 2000000 in
theorem more26 (h:Heap) (m id:Nat) (md:Int) (mc:AV) (tie:Bool) (s:Es) (v y:Vx) (x0 x1 x2:Vx) (ks:List Vx) (n which pick:Int) (hb:∀l,Lab.pool l=false→h l=none) (hk:h (.obj id)=some (bankE md mc s.k tie s.e)) (hkb:s.k<100000) (hv:Gd md s v) (hy:Gd md s y) (hx0:Gd md s x0) (hx1:Gd md s x1) (hx2:Gd md s x2) (hw:0≤which∧which<3):
  Ret Tryz.prog 99 [.ptr id,.int .i64 26,.int .i64 which,v.T,atT [x0,x1,x2] y pick] h m [.t ((slopeX 26 n which pick).2.ev ⟨v,y,[x0,x1,x2],ks⟩ s).v.T,.t (.bool (slopeX 26 n which pick).1)] (upd h (.obj id) (some (bankE md mc ((slopeX 26 n which pick).2.ev ⟨v,y,[x0,x1,x2],ks⟩ s).s.k tie ((slopeX 26 n which pick).2.ev ⟨v,y,[x0,x1,x2],ks⟩ s).s.e))) m:=by
 have hloc:∀d j,h (.loc d j)=none:=fun d j=>hb _ rfl
 have c1:=mixG h m id md mc tie s v y x0 x1 x2 ks n which pick hb hk hkb hv hy hx0 hx1 hx2 hw
 obtain⟨⟨b,e⟩,he⟩:∃q,slopeX 26 n which pick=q:=⟨_,rfl⟩
 rw[he]at c1⊢
 dsimp only at c1⊢
 obtain⟨⟨w1,s1⟩,e1⟩:∃q,e.ev ⟨v,y,[x0,x1,x2],ks⟩ s=q:=⟨_,rfl⟩
 rw[e1]at c1⊢
 dsimp only at c1⊢
 refine Ret.iC Tryz.func99 [.c 10 68,.s 11] ?_
 simp only[atT,sX,List.map_cons,List.map_nil,Vx_T]at c1⊢
 refine SmA ?_
 refine CallG.Q _ Tryz.call158 c1 ?_
 refine SmA ?_
 exact endC.W
theorem moreG (h:Heap) (m id:Nat) (md:Int) (mc:AV) (tie:Bool) (s:Es) (v y:Vx) (xs ks:List Vx) (op n which pick:Int) (hb:∀l,Lab.pool l=false→h l=none) (hk:h (.obj id)=some (bankE md mc s.k tie s.e)) (hkb:s.k<100000) (hv:Gd md s v) (hy:Gd md s y) (hxs:∀k∈xs,Gd md s k) (hop:17≤op∧op≤26) (h5:op≠23) (hl:(xs.length:Int)=manyX op) (hw:0≤which∧which<manyX op):
  Ret Tryz.prog 99 [.ptr id,.int .i64 op,.int .i64 which,v.T,atT xs y pick] h m [.t ((slopeX op n which pick).2.ev ⟨v,y,xs,ks⟩ s).v.T,.t (.bool (slopeX op n which pick).1)] (upd h (.obj id) (some (bankE md mc ((slopeX op n which pick).2.ev ⟨v,y,xs,ks⟩ s).s.k tie ((slopeX op n which pick).2.ev ⟨v,y,xs,ks⟩ s).s.e))) m:=by
 suffices hs:RR 99 [.int .i64 op,.int .i64 which,v.T,atT xs y pick] bankE h m id md mc tie s ((slopeX op n which pick).2.ev ⟨v,y,xs,ks⟩ s).v (slopeX op n which pick).1 ((slopeX op n which pick).2.ev ⟨v,y,xs,ks⟩ s).s by
  unfold RR at hs
  rwa [upd_id hk]at hs
 by_cases h3:op<24
 ·have hm:manyX op=2:=by unfold manyX;rw[if_neg (by omega),if_neg (by omega),if_pos h3]
  rw[hm]at hl hw
  obtain⟨x0,x1,rfl⟩:=list2 (show xs.length=2 by omega)
  have H:HX h md s [v,y,x0,x1]:=⟨fun d j=>hb _ rfl,hb,hkb,hv,hy,hxs x0 (by simp),hxs x1 (by simp),trivial⟩
  have hc:op=17∨op=18∨op=19∨op=20∨op=21∨op=22:=by omega
  have hc2:which=0∨which=1:=by omega
  rcases hc with rfl|rfl|rfl|rfl|rfl|rfl
  ·rw[show slopeX 17 n which pick=(true,.v) by simp[slopeX]]
   exact more17 H
  ·rcases hc2 with rfl|rfl
   ·rw[show slopeX 18 n 0 pick=(true,.v) by simp[slopeX]]
    exact more18b H
   ·rw[show slopeX 18 n 1 pick=(true,(.neg .v)) by simp[slopeX]]
    exact more18a H
  ·rcases hc2 with rfl|rfl
   ·rw[show slopeX 19 n 0 pick=(true,(.mul .v (.x 1))) by simp[slopeX]]
    exact more19a H
   ·rw[show slopeX 19 n 1 pick=(true,(.mul .v (.x 0))) by simp[slopeX]]
    exact more19b H
  ·rcases hc2 with rfl|rfl
   ·rw[show slopeX 20 n 0 pick=(true,(.div .v (.x 1))) by simp[slopeX]]
    exact more20a H
   ·rw[show slopeX 20 n 1 pick=(true,(.neg (.div (.mul .v .y) (.x 1)))) by simp[slopeX]]
    exact more20b H
  ·rw[show slopeX 21 n which pick=(decide (pick=which),.v) by simp[slopeX]]
   exact more21 H
  ·rw[show slopeX 22 n which pick=(decide (pick=which),.v) by simp[slopeX]]
   exact more22 H
 ·have hm:manyX op=3:=by unfold manyX;rw[if_neg (by omega),if_neg (by omega),if_neg h3]
  rw[hm]at hl hw
  obtain⟨x0,x1,x2,rfl⟩:=list3 (show xs.length=3 by omega)
  have H:HX h md s [v,y,x0,x1,x2]:=⟨fun d j=>hb _ rfl,hb,hkb,hv,hy,hxs x0 (by simp),hxs x1 (by simp),hxs x2 (by simp),trivial⟩
  have hc:op=24∨op=25∨op=26:=by omega
  have hc2:which=0∨which=1∨which=2:=by omega
  rcases hc with rfl|rfl|rfl
  ·rcases hc2 with rfl|rfl|rfl
   ·rw[show slopeX 24 n 0 pick=(false,.v) by simp[slopeX]]
    exact more24a H
   ·rw[show slopeX 24 n 1 pick=(decide (pick=1),.v) by simp[slopeX]]
    exact more24b H
   ·rw[show slopeX 24 n 2 pick=(decide (pick=0),.v) by simp[slopeX]]
    exact more24c H
  ·rcases hc2 with rfl|rfl|rfl
   ·rw[show slopeX 25 n 0 pick=(true,(.mul .v (.x 1))) by simp[slopeX]]
    exact more25a H
   ·rw[show slopeX 25 n 1 pick=(true,(.mul .v (.x 0))) by simp[slopeX]]
    exact more25b H
   ·rw[show slopeX 25 n 2 pick=(true,.v) by simp[slopeX]]
    exact more25c H
  ·have:=more26 h m id md mc tie s v y x0 x1 x2 ks n which pick hb hk hkb hv hy (hxs x0 (by simp)) (hxs x1 (by simp)) (hxs x2 (by simp)) hw
   unfold RR
   rwa [upd_id hk]
end Go.Fm
