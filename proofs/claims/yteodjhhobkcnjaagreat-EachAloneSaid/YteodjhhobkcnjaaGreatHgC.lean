/- each.reckons, op by op (printed by gen_reck.py). -/
import Derived.Test.YteodjhhobkcnjaaGreatHgA
import Derived.Test.YteodjhhobkcnjaaGreatHfB
import Derived.Test.YteodjhhobkcnjaaGreatHfA
import Derived.Test.YteodjhhobkcnjaaGreatHgB
import Derived.Test.YteodjhhobkcnjaaGreatHfE
import Derived.Test.YteodjhhobkcnjaaGreatHfC
set_option linter.unusedVariables false
set_option linter.unusedSimpArgs false
namespace Go.Fm
open Go.Proofs
set_option maxRecDepth 100000
attribute [local irreducible] tiOf
theorem HCalm.ob {h:Heap} {i:Nat} {o:Option Obj} (hh:HCalm h):HCalm (upd h (.obj i) o):=fun l' o' ho=>by
 by_cases e:l'=.obj i
 ·subst e;exact .inl rfl
 ·rw[upd_ne _ _ _ _ e]at ho;exact hh l' o' ho
theorem Goes.dC {E:Env} {F:Exit→St→Prop} {k:List Kont} {all:Array Oper} {id:Nat} {s:St} (h:runD E F true all k all.toList [] s) (hm:E.P.follows .mixedOrders=true:=by exact mixed)
  (hp:Calm s:=by exact Calm.of (by repeat first|exact Clean.und|refine Clean.upd ?_ rfl|refine Clean.upd ?_ (by simp only[cleanA,cleanL])) (by repeat first|exact HCalm.hb (upd_hb hb)|refine HCalm.ob ?_|refine HCalm.row ?_|refine HCalm.box ?_ (by first|rfl|(simp only[cleanA,cleanL];done)|assumption))):Goes E F (.code (.region id all true)::k) .normal s:=Goes.drawP hm hp h
theorem cleanD_lt {b:Nat} (hb:b<18446744073709551616):cleanD b<18446744073709551616:=by
 unfold cleanD
 split
 ·decide
 ·exact hb
theorem scaleD_lt {b:Nat} (hb:b<18446744073709551616) (k:Int):scaleD b k<18446744073709551616:=by
 unfold scaleD
 split
 ·exact cleanD_lt hb
 ·exact rndD_lt _ _ _
theorem sqrtD_lt {b:Nat} (hb:b<18446744073709551616):sqrtD b<18446744073709551616:=by
 unfold sqrtD
 split
 ·decide
 split
 ·split
  ·decide
  ·exact hb
 split
 ·exact hb
 split
 ·decide
 ·exact rndD_lt _ _ _
theorem expD_lt {b:Nat}:expD b<18446744073709551616:=by
 unfold expD
 split
 ·decide
 split
 ·decide
 split
 ·decide
 ·exact scaleD_lt (hornE_lt _ _) _
theorem logD_lt {b:Nat} (hb:b<18446744073709551616):logD b<18446744073709551616:=by
 unfold logD
 split
 ·decide
 split
 ·decide
 split
 ·exact hb
 rename_i h0 h4 h3
 have hs:=splitD_bnd b h3 (fun e=>h4 (.inl e))
 unfold endL
 have h1:sumL (ratL (addD (splitD b).1 (flipD 4607182418800017408)))<18446744073709551616:=by
  have hd:=divD_lt (addD (splitD b).1 (flipD 4607182418800017408)) (addD 4611686018427387904 (addD (splitD b).1 (flipD 4607182418800017408)))
  unfold sumL
  exact addD_lt (addD_lt hd hd) (mulD_lt _ _)
 split
 ·exact h1
 ·exact addD_lt (mulD_lt _ _) (addD_lt h1 (mulD_lt _ _))
theorem fnU_lt (op:Int) {b:Nat} (hb:b<18446744073709551616):fnU op b<18446744073709551616:=by
 unfold fnU
 split
 ·exact sqrtD_lt hb
 split
 ·exact expD_lt
 ·exact logD_lt hb
theorem unE_g {op md:Int} {a:Nat} {s:Es} {x:Vx} (hx:s.e=0→x.md=md∧x.B a):((unE (fnU op) s x).s.e=0→s.e=0)∧((unE (fnU op) s x).s.e=0→(unE (fnU op) s x).v.md=md∧(unE (fnU op) s x).v.B 9)∧(unE (fnU op) s x).s.k≤s.k+1:=by
 unfold unE
 by_cases he:s.e=0
 ·rw[if_pos he]
  obtain⟨h1,h2⟩:=hx he
  cases x with
  |q r=>exact⟨fun h=>absurd (show(6:Int)=0 from h) (by decide),fun h=>absurd (show(6:Int)=0 from h) (by decide),Nat.le_succ _⟩
  |d b=>exact⟨fun _=>he,fun _=>⟨h1,fnU_lt op h2⟩,Nat.le_refl _⟩
 ·rw[if_neg he]
  exact⟨fun h=>absurd h he,fun h=>absurd h he,Nat.le_succ _⟩
section
variable {h:Heap} (m id:Nat) {md:Int} (mc:AV) (tie:Bool) {s:Es} {x y:Vx} {a b:Nat}
theorem sqrtA (hb:∀l,Lab.pool l=false→h l=none) (hk:s.k<1000000) (hx:s.e=0→x.md=md∧x.B a) (ha:a≤400:=by decide):
  ∃w t,unE (fnU 8) s x=⟨w,t⟩∧Ret Tryz.prog 149 [.ptr id,.agg [.bool x.neg,sW x.p,sW x.qq,.int .u64 x.bits,.int .i64 0]] (upd h (.obj id) (some (bankE md mc s.k tie s.e))) m [.t (.agg [.bool w.neg,sW w.p,sW w.qq,.int .u64 w.bits,.int .i64 0])] (upd h (.obj id) (some (bankE md mc t.k tie t.e))) m∧(t.e=0→s.e=0)∧(t.e=0→w.md=md∧w.B 9)∧t.k≤s.k+1:=by
 have c:=unSqrt_ok (upd h (.obj id) (some (bankE md mc s.k tie s.e))) m id md mc tie s x (upd_hb hb) (upd_same _ _ _) (by omega) (OK1_of hx ha)
 have g:=unE_g (op:=8) (s:=s) hx
 rw[upd_upd]at c
 simp only[Vx_T]at c
 exact⟨_,_,rfl,c,g.1,g.2.1,g.2.2⟩
theorem expA (hb:∀l,Lab.pool l=false→h l=none) (hk:s.k<1000000) (hx:s.e=0→x.md=md∧x.B a) (ha:a≤400:=by decide):
  ∃w t,unE (fnU 9) s x=⟨w,t⟩∧Ret Tryz.prog 147 [.ptr id,.agg [.bool x.neg,sW x.p,sW x.qq,.int .u64 x.bits,.int .i64 0]] (upd h (.obj id) (some (bankE md mc s.k tie s.e))) m [.t (.agg [.bool w.neg,sW w.p,sW w.qq,.int .u64 w.bits,.int .i64 0])] (upd h (.obj id) (some (bankE md mc t.k tie t.e))) m∧(t.e=0→s.e=0)∧(t.e=0→w.md=md∧w.B 9)∧t.k≤s.k+1:=by
 have c:=unExp_ok (upd h (.obj id) (some (bankE md mc s.k tie s.e))) m id md mc tie s x (upd_hb hb) (upd_same _ _ _) (by omega) (OK1_of hx ha)
 have g:=unE_g (op:=9) (s:=s) hx
 rw[upd_upd]at c
 simp only[Vx_T]at c
 exact⟨_,_,rfl,c,g.1,g.2.1,g.2.2⟩
theorem logA (hb:∀l,Lab.pool l=false→h l=none) (hk:s.k<1000000) (hx:s.e=0→x.md=md∧x.B a) (ha:a≤400:=by decide):
  ∃w t,unE (fnU 10) s x=⟨w,t⟩∧Ret Tryz.prog 148 [.ptr id,.agg [.bool x.neg,sW x.p,sW x.qq,.int .u64 x.bits,.int .i64 0]] (upd h (.obj id) (some (bankE md mc s.k tie s.e))) m [.t (.agg [.bool w.neg,sW w.p,sW w.qq,.int .u64 w.bits,.int .i64 0])] (upd h (.obj id) (some (bankE md mc t.k tie t.e))) m∧(t.e=0→s.e=0)∧(t.e=0→w.md=md∧w.B 9)∧t.k≤s.k+1:=by
 have c:=unLog_ok (upd h (.obj id) (some (bankE md mc s.k tie s.e))) m id md mc tie s x (upd_hb hb) (upd_same _ _ _) (by omega) (OK1_of hx ha)
 have g:=unE_g (op:=10) (s:=s) hx
 rw[upd_upd]at c
 simp only[Vx_T]at c
 exact⟨_,_,rfl,c,g.1,g.2.1,g.2.2⟩
end
def RK (A:List T) (h:Heap) (m id:Nat) (md:Int) (mc:AV) (tie:Bool) (s:Es) (r:Vs):Prop:=
 Ret Tryz.prog 91 (.ptr id::A) (upd h (.obj id) (some (bankE md mc s.k tie s.e))) m [.t r.v.T] (upd h (.obj id) (some (bankE md mc r.s.k tie r.s.e))) m
def sigE (s:Es) (x0:Vx) (k0:Vx):Vs:=divE (opE addV (unE (fnU 9) (negE s x0).s (negE s x0).v).s k0 (unE (fnU 9) (negE s x0).s (negE s x0).v).v).s k0 (opE addV (unE (fnU 9) (negE s x0).s (negE s x0).v).s k0 (unE (fnU 9) (negE s x0).s (negE s x0).v).v).v
def tanE (s:Es) (x0:Vx) (k0:Vx):Vs:=
 divE (opE addV (opE subV (unE (fnU 9) (opE addV s x0 x0).s (opE addV s x0 x0).v).s (unE (fnU 9) (opE addV s x0 x0).s (opE addV s x0 x0).v).v k0).s (unE (fnU 9) (opE addV s x0 x0).s (opE addV s x0 x0).v).v k0).s
  (opE subV (unE (fnU 9) (opE addV s x0 x0).s (opE addV s x0 x0).v).s (unE (fnU 9) (opE addV s x0 x0).s (opE addV s x0 x0).v).v k0).v
  (opE addV (opE subV (unE (fnU 9) (opE addV s x0 x0).s (opE addV s x0 x0).v).s (unE (fnU 9) (opE addV s x0 x0).s (opE addV s x0 x0).v).v k0).s (unE (fnU 9) (opE addV s x0 x0).s (opE addV s x0 x0).v).v k0).v
def madE (s:Es) (x0 x1 x2:Vx):Vs:=opE addV (opE mulV s x0 x1).s (opE mulV s x0 x1).v x2
def mixE (s:Es) (x0 x1 x2:Vx):Vs:=opE addV (opE mulV (opE subV s x1 x0).s x2 (opE subV s x1 x0).v).s x0 (opE mulV (opE subV s x1 x0).s x2 (opE subV s x1 x0).v).v
section
variable {h:Heap} {m id:Nat} {md:Int} {mc:AV} {tie:Bool} {s:Es} {x0 x1 x2 k0:Vx} {ks:List Vx} {n:Int}
set_option maxHeartbeats 2000000 in
theorem reck1 (H:HX h md s [x0]):RK [.int .i64 1,.int .i64 n,sX ks,sX [x0]] h m id md mc tie s (negE s x0):=by
 obtain⟨hloc,hb,hkb,hx0,_⟩:=H
 obtain⟨w1,s1,e1,c1,f1,g1,q1⟩:=negA m id mc tie hb (by omega) hx0
 simp only[RK,sigE,tanE,madE,mixE,e1]
 refine Ret.iR Tryz.func91 [.c 10 68] ?_
 simp only[sX,List.map_cons,List.map_nil,Vx_T]
 refine SmD ?_
 refine CallG.Q _ Tryz.call146 c1 ?_
 refine SmD ?_
 exact endC.O
set_option maxHeartbeats 2000000 in
theorem reck2 (H:HX h md s [x0,k0]):RK [.int .i64 2,.int .i64 n,sX [k0],sX [x0]] h m id md mc tie s (divE s k0 x0):=by
 obtain⟨hloc,hb,hkb,hx0,hk0,_⟩:=H
 obtain⟨w1,s1,e1,c1,f1,g1,q1⟩:=divA m id mc tie hb (by omega) hk0 hx0
 simp only[RK,sigE,tanE,madE,mixE,e1]
 refine Ret.iR Tryz.func91 [.c 10 68] ?_
 simp only[sX,List.map_cons,List.map_nil,Vx_T]
 refine SmD ?_
 refine Goes.dB ?_
 refine SmD ?_
 refine CallD.B Tryz.call74 c1 ?_
 refine SmD ?_
 refine⟨.mk (by kernel_rfl),?_⟩
 apply run_sound 200
 refine SmD ?_
 exact endC.O
set_option maxHeartbeats 2000000 in
theorem reck3 (H:HX h md s [x0]):RK [.int .i64 3,.int .i64 n,sX ks,sX [x0]] h m id md mc tie s (opE mulV s x0 x0):=by
 obtain⟨hloc,hb,hkb,hx0,_⟩:=H
 obtain⟨w1,s1,e1,c1,f1,g1,q1⟩:=mulA m id mc tie hb (by omega) hx0 hx0
 simp only[RK,sigE,tanE,madE,mixE,e1]
 refine Ret.iR Tryz.func91 [.c 10 68] ?_
 simp only[sX,List.map_cons,List.map_nil,Vx_T]
 refine SmD ?_
 refine Goes.dB ?_
 refine SmD ?_
 refine CallD.B Tryz.call56 c1 ?_
 refine SmD ?_
 refine⟨.mk (by kernel_rfl),?_⟩
 apply run_sound 200
 refine SmD ?_
 exact endC.O
set_option maxHeartbeats 2000000 in
theorem reck7 (H:HX h md s [x0]):RK [.int .i64 7,.int .i64 n,sX ks,sX [x0]] h m id md mc tie s (unE (fnU 9) s x0):=by
 obtain⟨hloc,hb,hkb,hx0,_⟩:=H
 obtain⟨w1,s1,e1,c1,f1,g1,q1⟩:=expA m id mc tie hb (by omega) hx0
 simp only[RK,sigE,tanE,madE,mixE,e1]
 refine Ret.iR Tryz.func91 [.c 10 68] ?_
 simp only[sX,List.map_cons,List.map_nil,Vx_T]
 refine SmD ?_
 refine CallG.Q _ Tryz.call147 c1 ?_
 refine SmD ?_
 exact endC.O
set_option maxHeartbeats 2000000 in
theorem reck8 (H:HX h md s [x0]):RK [.int .i64 8,.int .i64 n,sX ks,sX [x0]] h m id md mc tie s (unE (fnU 10) s x0):=by
 obtain⟨hloc,hb,hkb,hx0,_⟩:=H
 obtain⟨w1,s1,e1,c1,f1,g1,q1⟩:=logA m id mc tie hb (by omega) hx0
 simp only[RK,sigE,tanE,madE,mixE,e1]
 refine Ret.iR Tryz.func91 [.c 10 68] ?_
 simp only[sX,List.map_cons,List.map_nil,Vx_T]
 refine SmD ?_
 refine CallG.Q _ Tryz.call148 c1 ?_
 refine SmD ?_
 exact endC.O
set_option maxHeartbeats 2000000 in
theorem reck9 (H:HX h md s [x0]):RK [.int .i64 9,.int .i64 n,sX ks,sX [x0]] h m id md mc tie s (unE (fnU 8) s x0):=by
 obtain⟨hloc,hb,hkb,hx0,_⟩:=H
 obtain⟨w1,s1,e1,c1,f1,g1,q1⟩:=sqrtA m id mc tie hb (by omega) hx0
 simp only[RK,sigE,tanE,madE,mixE,e1]
 refine Ret.iR Tryz.func91 [.c 10 68] ?_
 simp only[sX,List.map_cons,List.map_nil,Vx_T]
 refine SmD ?_
 refine CallG.Q _ Tryz.call149 c1 ?_
 refine SmD ?_
 exact endC.O
set_option maxHeartbeats 2000000 in
theorem reck10 (H:HX h md s [x0,k0]):RK [.int .i64 10,.int .i64 n,sX [k0],sX [x0]] h m id md mc tie s (sigE s x0 k0):=by
 obtain⟨hloc,hb,hkb,hx0,hk0,_⟩:=H
 obtain⟨w1,s1,e1,c1,f1,g1,q1⟩:=negA m id mc tie hb (by omega) hx0
 obtain⟨w2,s2,e2,c2,f2,g2,q2⟩:=expA m id mc tie hb (by omega) g1
 obtain⟨w3,s3,e3,c3,f3,g3,q3⟩:=addA m id mc tie hb (by omega) (fun e=>hk0 (f1 (f2 e))) g2
 obtain⟨w4,s4,e4,c4,f4,g4,q4⟩:=divA m id mc tie hb (by omega) (fun e=>hk0 (f1 (f2 (f3 e)))) g3
 simp only[RK,sigE,tanE,madE,mixE,e1,e2,e3,e4]
 refine Ret.iR Tryz.func91 [.c 10 68] ?_
 simp only[sX,List.map_cons,List.map_nil,Vx_T]
 refine SmD ?_
 refine Goes.dB ?_
 refine SmD ?_
 refine CallD.B Tryz.call146 c1 ?_
 refine SmD ?_
 refine CallD.B Tryz.call147 c2 ?_
 refine SmD ?_
 refine CallD.B Tryz.call57 c3 ?_
 refine SmD ?_
 refine CallD.B Tryz.call74 c4 ?_
 refine SmD ?_
 refine⟨.mk (by kernel_rfl),?_⟩
 apply run_sound 200
 refine SmD ?_
 exact endC.O
set_option maxHeartbeats 2000000 in
theorem reck11 (H:HX h md s [x0,k0]):RK [.int .i64 11,.int .i64 n,sX [k0],sX [x0]] h m id md mc tie s (tanE s x0 k0):=by
 obtain⟨hloc,hb,hkb,hx0,hk0,_⟩:=H
 obtain⟨w1,s1,e1,c1,f1,g1,q1⟩:=addA m id mc tie hb (by omega) hx0 hx0
 obtain⟨w2,s2,e2,c2,f2,g2,q2⟩:=expA m id mc tie hb (by omega) g1
 obtain⟨w3,s3,e3,c3,f3,g3,q3⟩:=subA m id mc tie hb (by omega) g2 (fun e=>hk0 (f1 (f2 e)))
 obtain⟨w4,s4,e4,c4,f4,g4,q4⟩:=addA m id mc tie hb (by omega) (fun e=>g2 (f3 e)) (fun e=>hk0 (f1 (f2 (f3 e))))
 obtain⟨w5,s5,e5,c5,f5,g5,q5⟩:=divA m id mc tie hb (by omega) (fun e=>g3 (f4 e)) g4
 simp only[RK,sigE,tanE,madE,mixE,e1,e2,e3,e4,e5]
 refine Ret.iR Tryz.func91 [.c 10 68] ?_
 simp only[sX,List.map_cons,List.map_nil,Vx_T]
 refine SmD ?_
 refine Goes.dB ?_
 refine SmD ?_
 refine CallD.B Tryz.call57 c1 ?_
 refine SmD ?_
 refine CallD.B Tryz.call147 c2 ?_
 refine SmD ?_
 refine⟨.mk (by kernel_rfl),?_⟩
 apply run_sound 200
 refine SmD ?_
 refine Goes.dC ?_
 refine SmD ?_
 refine CallD.B Tryz.call66 c3 ?_
 refine SmD ?_
 refine CallD.B Tryz.call57 c4 ?_
 refine SmD ?_
 refine CallD.B Tryz.call74 c5 ?_
 refine SmD ?_
 refine⟨.mk (by kernel_rfl),?_⟩
 apply run_sound 200
 refine SmD ?_
 exact endC.O
set_option maxHeartbeats 2000000 in
theorem reck12 (H:HX h md s [x0,k0]) (hn:n.natAbs≤10):RK [.int .i64 12,.int .i64 n,sX [k0],sX [x0]] h m id md mc tie s (powE s k0 x0 n):=by
 obtain⟨hloc,hb,hkb,hx0,hk0,_⟩:=H
 obtain⟨w1,s1,e1,c1,f1,g1,q1⟩:=powA m id mc tie hb (by omega) hn hk0 hx0
 simp only[RK,sigE,tanE,madE,mixE,e1]
 refine Ret.iR Tryz.func91 [.c 10 68] ?_
 simp only[sX,List.map_cons,List.map_nil,Vx_T]
 refine SmD ?_
 refine Goes.dB ?_
 refine SmD ?_
 refine CallD.B Tryz.call150 c1 ?_
 refine SmD ?_
 refine⟨.mk (by kernel_rfl),?_⟩
 apply run_sound 200
 refine SmD ?_
 exact endC.O
set_option maxHeartbeats 2000000 in
theorem reck13 (H:HX h md s [x0,k0]):RK [.int .i64 13,.int .i64 n,sX [k0],sX [x0]] h m id md mc tie s (opE mulV s x0 k0):=by
 obtain⟨hloc,hb,hkb,hx0,hk0,_⟩:=H
 obtain⟨w1,s1,e1,c1,f1,g1,q1⟩:=mulA m id mc tie hb (by omega) hx0 hk0
 simp only[RK,sigE,tanE,madE,mixE,e1]
 refine Ret.iR Tryz.func91 [.c 10 68] ?_
 simp only[sX,List.map_cons,List.map_nil,Vx_T]
 refine SmD ?_
 refine Goes.dB ?_
 refine SmD ?_
 refine CallD.B Tryz.call56 c1 ?_
 refine SmD ?_
 refine⟨.mk (by kernel_rfl),?_⟩
 apply run_sound 200
 refine SmD ?_
 exact endC.O
set_option maxHeartbeats 2000000 in
theorem reck14 (H:HX h md s [x0,k0]):RK [.int .i64 14,.int .i64 n,sX [k0],sX [x0]] h m id md mc tie s (opE addV s x0 k0):=by
 obtain⟨hloc,hb,hkb,hx0,hk0,_⟩:=H
 obtain⟨w1,s1,e1,c1,f1,g1,q1⟩:=addA m id mc tie hb (by omega) hx0 hk0
 simp only[RK,sigE,tanE,madE,mixE,e1]
 refine Ret.iR Tryz.func91 [.c 10 68] ?_
 simp only[sX,List.map_cons,List.map_nil,Vx_T]
 refine SmD ?_
 refine Goes.dB ?_
 refine SmD ?_
 refine CallD.B Tryz.call57 c1 ?_
 refine SmD ?_
 refine⟨.mk (by kernel_rfl),?_⟩
 apply run_sound 200
 refine SmD ?_
 exact endC.O
set_option maxHeartbeats 2000000 in
theorem reck17 (H:HX h md s [x0,x1]):RK [.int .i64 17,.int .i64 n,sX ks,sX [x0,x1]] h m id md mc tie s (opE addV s x0 x1):=by
 obtain⟨hloc,hb,hkb,hx0,hx1,_⟩:=H
 obtain⟨w1,s1,e1,c1,f1,g1,q1⟩:=addA m id mc tie hb (by omega) hx0 hx1
 simp only[RK,sigE,tanE,madE,mixE,e1]
 refine Ret.iR Tryz.func91 [.c 10 68] ?_
 simp only[sX,List.map_cons,List.map_nil,Vx_T]
 refine SmD ?_
 refine Goes.dB ?_
 refine SmD ?_
 refine CallD.B Tryz.call57 c1 ?_
 refine SmD ?_
 refine⟨.mk (by kernel_rfl),?_⟩
 apply run_sound 200
 refine SmD ?_
 exact endC.O
set_option maxHeartbeats 2000000 in
theorem reck18 (H:HX h md s [x0,x1]):RK [.int .i64 18,.int .i64 n,sX ks,sX [x0,x1]] h m id md mc tie s (opE subV s x0 x1):=by
 obtain⟨hloc,hb,hkb,hx0,hx1,_⟩:=H
 obtain⟨w1,s1,e1,c1,f1,g1,q1⟩:=subA m id mc tie hb (by omega) hx0 hx1
 simp only[RK,sigE,tanE,madE,mixE,e1]
 refine Ret.iR Tryz.func91 [.c 10 68] ?_
 simp only[sX,List.map_cons,List.map_nil,Vx_T]
 refine SmD ?_
 refine Goes.dB ?_
 refine SmD ?_
 refine CallD.B Tryz.call66 c1 ?_
 refine SmD ?_
 refine⟨.mk (by kernel_rfl),?_⟩
 apply run_sound 200
 refine SmD ?_
 exact endC.O
set_option maxHeartbeats 2000000 in
theorem reck19 (H:HX h md s [x0,x1]):RK [.int .i64 19,.int .i64 n,sX ks,sX [x0,x1]] h m id md mc tie s (opE mulV s x0 x1):=by
 obtain⟨hloc,hb,hkb,hx0,hx1,_⟩:=H
 obtain⟨w1,s1,e1,c1,f1,g1,q1⟩:=mulA m id mc tie hb (by omega) hx0 hx1
 simp only[RK,sigE,tanE,madE,mixE,e1]
 refine Ret.iR Tryz.func91 [.c 10 68] ?_
 simp only[sX,List.map_cons,List.map_nil,Vx_T]
 refine SmD ?_
 refine Goes.dB ?_
 refine SmD ?_
 refine CallD.B Tryz.call56 c1 ?_
 refine SmD ?_
 refine⟨.mk (by kernel_rfl),?_⟩
 apply run_sound 200
 refine SmD ?_
 exact endC.O
set_option maxHeartbeats 2000000 in
theorem reck20 (H:HX h md s [x0,x1]):RK [.int .i64 20,.int .i64 n,sX ks,sX [x0,x1]] h m id md mc tie s (divE s x0 x1):=by
 obtain⟨hloc,hb,hkb,hx0,hx1,_⟩:=H
 obtain⟨w1,s1,e1,c1,f1,g1,q1⟩:=divA m id mc tie hb (by omega) hx0 hx1
 simp only[RK,sigE,tanE,madE,mixE,e1]
 refine Ret.iR Tryz.func91 [.c 10 68] ?_
 simp only[sX,List.map_cons,List.map_nil,Vx_T]
 refine SmD ?_
 refine Goes.dB ?_
 refine SmD ?_
 refine CallD.B Tryz.call74 c1 ?_
 refine SmD ?_
 refine⟨.mk (by kernel_rfl),?_⟩
 apply run_sound 200
 refine SmD ?_
 exact endC.O
set_option maxHeartbeats 2000000 in
theorem reck25 (H:HX h md s [x0,x1,x2]):RK [.int .i64 25,.int .i64 n,sX ks,sX [x0,x1,x2]] h m id md mc tie s (madE s x0 x1 x2):=by
 obtain⟨hloc,hb,hkb,hx0,hx1,hx2,_⟩:=H
 obtain⟨w1,s1,e1,c1,f1,g1,q1⟩:=mulA m id mc tie hb (by omega) hx0 hx1
 obtain⟨w2,s2,e2,c2,f2,g2,q2⟩:=addA m id mc tie hb (by omega) g1 (fun e=>hx2 (f1 e))
 simp only[RK,sigE,tanE,madE,mixE,e1,e2]
 refine Ret.iR Tryz.func91 [.c 10 68] ?_
 simp only[sX,List.map_cons,List.map_nil,Vx_T]
 refine SmD ?_
 refine Goes.dB ?_
 refine SmD ?_
 refine CallD.B Tryz.call56 c1 ?_
 refine SmD ?_
 refine CallD.B Tryz.call57 c2 ?_
 refine SmD ?_
 refine⟨.mk (by kernel_rfl),?_⟩
 apply run_sound 200
 refine SmD ?_
 exact endC.O
set_option maxHeartbeats 2000000 in
theorem reck26 (H:HX h md s [x0,x1,x2]):RK [.int .i64 26,.int .i64 n,sX ks,sX [x0,x1,x2]] h m id md mc tie s (mixE s x0 x1 x2):=by
 obtain⟨hloc,hb,hkb,hx0,hx1,hx2,_⟩:=H
 obtain⟨w1,s1,e1,c1,f1,g1,q1⟩:=subA m id mc tie hb (by omega) hx1 hx0
 obtain⟨w2,s2,e2,c2,f2,g2,q2⟩:=mulA m id mc tie hb (by omega) (fun e=>hx2 (f1 e)) g1
 obtain⟨w3,s3,e3,c3,f3,g3,q3⟩:=addA m id mc tie hb (by omega) (fun e=>hx0 (f1 (f2 e))) g2
 simp only[RK,sigE,tanE,madE,mixE,e1,e2,e3]
 refine Ret.iR Tryz.func91 [.c 10 68] ?_
 simp only[sX,List.map_cons,List.map_nil,Vx_T]
 refine SmD ?_
 refine Goes.dB ?_
 refine SmD ?_
 refine CallD.B Tryz.call66 c1 ?_
 refine SmD ?_
 refine CallD.B Tryz.call56 c2 ?_
 refine SmD ?_
 refine CallD.B Tryz.call57 c3 ?_
 refine SmD ?_
 refine⟨.mk (by kernel_rfl),?_⟩
 apply run_sound 200
 refine SmD ?_
 exact endC.O
end
def cmpX (op:Int):Bool:=decide (op=4∨op=5∨op=6∨op=15∨op=16∨op=21∨op=22∨op=23∨op=24)
def reckE (op n:Int) (k x:List Vx) (s:Es):Vs:=
 if op=1 then negE s (x.getD 0 v0) else if op=2 then divE s (k.getD 0 v0) (x.getD 0 v0) else if op=3 then opE mulV s (x.getD 0 v0) (x.getD 0 v0)
 else if op=7 then unE (fnU 9) s (x.getD 0 v0) else if op=8 then unE (fnU 10) s (x.getD 0 v0) else if op=9 then unE (fnU 8) s (x.getD 0 v0)
 else if op=10 then sigE s (x.getD 0 v0) (k.getD 0 v0) else if op=11 then tanE s (x.getD 0 v0) (k.getD 0 v0) else if op=12 then powE s (k.getD 0 v0) (x.getD 0 v0) n
 else if op=13 then opE mulV s (x.getD 0 v0) (k.getD 0 v0) else if op=14 then opE addV s (x.getD 0 v0) (k.getD 0 v0)
 else if op=17 then opE addV s (x.getD 0 v0) (x.getD 1 v0) else if op=18 then opE subV s (x.getD 0 v0) (x.getD 1 v0) else if op=19 then opE mulV s (x.getD 0 v0) (x.getD 1 v0)
 else if op=20 then divE s (x.getD 0 v0) (x.getD 1 v0) else if op=25 then madE s (x.getD 0 v0) (x.getD 1 v0) (x.getD 2 v0) else mixE s (x.getD 0 v0) (x.getD 1 v0) (x.getD 2 v0)
theorem fair_n0 {op:Int} {x:Atr} (h:fairX op x=true) (ho:op=12):x.n.natAbs≤10:=by
 unfold fairX at h
 subst ho
 have h2: -8≤x.n∧x.n≤8:=by simpa using h
 omega
theorem compares_ok (op:Int) (hop:1≤op∧op≤26):Pure Tryz.prog 90 [.int .i64 op] [.t (.bool (cmpX op))]:=by
 have hc:op=1∨op=2∨op=3∨op=4∨op=5∨op=6∨op=7∨op=8∨op=9∨op=10∨op=11∨op=12∨op=13∨op=14∨op=15∨op=16∨op=17∨op=18∨op=19∨op=20∨op=21∨op=22∨op=23∨op=24∨op=25∨op=26:=by omega
 rcases hc with rfl|rfl|rfl|rfl|rfl|rfl|rfl|rfl|rfl|rfl|rfl|rfl|rfl|rfl|rfl|rfl|rfl|rfl|rfl|rfl|rfl|rfl|rfl|rfl|rfl|rfl
 all_goals
  refine Pure.I Tryz.func90 [2] ?_
  refine Sm ?_
  first
   |(exact endF.vals [(2,.bool true)] (.inr rfl) (vals_t (by simp-implicitDefEqProofs+decide only[go_sem]<;>rfl) rfl vals_nil) (fun l hp=>by cases l<;>first|rfl|cases hp) rfl;done)
   |(exact endF.vals [(2,.bool false)] (.inr rfl) (vals_t (by simp-implicitDefEqProofs+decide only[go_sem]<;>rfl) rfl vals_nil) (fun l hp=>by cases l<;>first|rfl|cases hp) rfl;done)
theorem reckG (h:Heap) (m id:Nat) (md:Int) (mc:AV) (tie:Bool) (s:Es) (op:Int) (x:Atr) (ks xs:List Vx) (hb:∀l,Lab.pool l=false→h l=none) (hk:h (.obj id)=some (bankE md mc s.k tie s.e)) (hkb:s.k<100000) (hxs:∀z∈xs,Gd md s z) (hks:∀z∈ks,Gd md s z) (hop:1≤op∧op≤26) (hcm:cmpX op=false) (hl:(xs.length:Int)=manyX op) (hlk:ks.length=(knownL op x).length) (hf:fairX op x=true):
  Ret Tryz.prog 91 [.ptr id,.int .i64 op,.int .i64 x.n,sX ks,sX xs] h m [.t (reckE op x.n ks xs s).v.T] (upd h (.obj id) (some (bankE md mc (reckE op x.n ks xs s).s.k tie (reckE op x.n ks xs s).s.e))) m:=by
 suffices hs:RK [.int .i64 op,.int .i64 x.n,sX ks,sX xs] h m id md mc tie s (reckE op x.n ks xs s) by
  unfold RK at hs
  rwa [upd_id hk]at hs
 have hcm:=of_decide_eq_false hcm
 have hc:op=1∨op=2∨op=3∨op=7∨op=8∨op=9∨op=10∨op=11∨op=12∨op=13∨op=14∨op=17∨op=18∨op=19∨op=20∨op=25∨op=26:=by omega
 rcases hc with rfl|rfl|rfl|rfl|rfl|rfl|rfl|rfl|rfl|rfl|rfl|rfl|rfl|rfl|rfl|rfl|rfl
 ·obtain⟨x0,rfl⟩:=list1 (α:=Vx) (l:=xs) (by have e:manyX 1=1:=(by decide);rw[e]at hl;omega)
  exact reck1 (H:=⟨fun d j=>hb _ rfl,hb,hkb,hxs x0 (by simp),trivial⟩)
 ·obtain⟨x0,rfl⟩:=list1 (α:=Vx) (l:=xs) (by have e:manyX 2=1:=(by decide);rw[e]at hl;omega)
  obtain⟨k0,rfl⟩:=list1 (α:=Vx) (l:=ks) (hlk.trans rfl)
  exact reck2 (H:=⟨fun d j=>hb _ rfl,hb,hkb,hxs x0 (by simp),hks k0 (by simp),trivial⟩)
 ·obtain⟨x0,rfl⟩:=list1 (α:=Vx) (l:=xs) (by have e:manyX 3=1:=(by decide);rw[e]at hl;omega)
  exact reck3 (H:=⟨fun d j=>hb _ rfl,hb,hkb,hxs x0 (by simp),trivial⟩)
 ·obtain⟨x0,rfl⟩:=list1 (α:=Vx) (l:=xs) (by have e:manyX 7=1:=(by decide);rw[e]at hl;omega)
  exact reck7 (H:=⟨fun d j=>hb _ rfl,hb,hkb,hxs x0 (by simp),trivial⟩)
 ·obtain⟨x0,rfl⟩:=list1 (α:=Vx) (l:=xs) (by have e:manyX 8=1:=(by decide);rw[e]at hl;omega)
  exact reck8 (H:=⟨fun d j=>hb _ rfl,hb,hkb,hxs x0 (by simp),trivial⟩)
 ·obtain⟨x0,rfl⟩:=list1 (α:=Vx) (l:=xs) (by have e:manyX 9=1:=(by decide);rw[e]at hl;omega)
  exact reck9 (H:=⟨fun d j=>hb _ rfl,hb,hkb,hxs x0 (by simp),trivial⟩)
 ·obtain⟨x0,rfl⟩:=list1 (α:=Vx) (l:=xs) (by have e:manyX 10=1:=(by decide);rw[e]at hl;omega)
  obtain⟨k0,rfl⟩:=list1 (α:=Vx) (l:=ks) (hlk.trans rfl)
  exact reck10 (H:=⟨fun d j=>hb _ rfl,hb,hkb,hxs x0 (by simp),hks k0 (by simp),trivial⟩)
 ·obtain⟨x0,rfl⟩:=list1 (α:=Vx) (l:=xs) (by have e:manyX 11=1:=(by decide);rw[e]at hl;omega)
  obtain⟨k0,rfl⟩:=list1 (α:=Vx) (l:=ks) (hlk.trans rfl)
  exact reck11 (H:=⟨fun d j=>hb _ rfl,hb,hkb,hxs x0 (by simp),hks k0 (by simp),trivial⟩)
 ·obtain⟨x0,rfl⟩:=list1 (α:=Vx) (l:=xs) (by have e:manyX 12=1:=(by decide);rw[e]at hl;omega)
  obtain⟨k0,rfl⟩:=list1 (α:=Vx) (l:=ks) (hlk.trans rfl)
  exact reck12 (H:=⟨fun d j=>hb _ rfl,hb,hkb,hxs x0 (by simp),hks k0 (by simp),trivial⟩) (hn:=fair_n0 hf rfl)
 ·obtain⟨x0,rfl⟩:=list1 (α:=Vx) (l:=xs) (by have e:manyX 13=1:=(by decide);rw[e]at hl;omega)
  obtain⟨k0,rfl⟩:=list1 (α:=Vx) (l:=ks) (hlk.trans rfl)
  exact reck13 (H:=⟨fun d j=>hb _ rfl,hb,hkb,hxs x0 (by simp),hks k0 (by simp),trivial⟩)
 ·obtain⟨x0,rfl⟩:=list1 (α:=Vx) (l:=xs) (by have e:manyX 14=1:=(by decide);rw[e]at hl;omega)
  obtain⟨k0,rfl⟩:=list1 (α:=Vx) (l:=ks) (hlk.trans rfl)
  exact reck14 (H:=⟨fun d j=>hb _ rfl,hb,hkb,hxs x0 (by simp),hks k0 (by simp),trivial⟩)
 ·obtain⟨x0,x1,rfl⟩:=list2 (α:=Vx) (l:=xs) (by have e:manyX 17=2:=(by decide);rw[e]at hl;omega)
  exact reck17 (H:=⟨fun d j=>hb _ rfl,hb,hkb,hxs x0 (by simp),hxs x1 (by simp),trivial⟩)
 ·obtain⟨x0,x1,rfl⟩:=list2 (α:=Vx) (l:=xs) (by have e:manyX 18=2:=(by decide);rw[e]at hl;omega)
  exact reck18 (H:=⟨fun d j=>hb _ rfl,hb,hkb,hxs x0 (by simp),hxs x1 (by simp),trivial⟩)
 ·obtain⟨x0,x1,rfl⟩:=list2 (α:=Vx) (l:=xs) (by have e:manyX 19=2:=(by decide);rw[e]at hl;omega)
  exact reck19 (H:=⟨fun d j=>hb _ rfl,hb,hkb,hxs x0 (by simp),hxs x1 (by simp),trivial⟩)
 ·obtain⟨x0,x1,rfl⟩:=list2 (α:=Vx) (l:=xs) (by have e:manyX 20=2:=(by decide);rw[e]at hl;omega)
  exact reck20 (H:=⟨fun d j=>hb _ rfl,hb,hkb,hxs x0 (by simp),hxs x1 (by simp),trivial⟩)
 ·obtain⟨x0,x1,x2,rfl⟩:=list3 (α:=Vx) (l:=xs) (by have e:manyX 25=3:=(by decide);rw[e]at hl;omega)
  exact reck25 (H:=⟨fun d j=>hb _ rfl,hb,hkb,hxs x0 (by simp),hxs x1 (by simp),hxs x2 (by simp),trivial⟩)
 ·obtain⟨x0,x1,x2,rfl⟩:=list3 (α:=Vx) (l:=xs) (by have e:manyX 26=3:=(by decide);rw[e]at hl;omega)
  exact reck26 (H:=⟨fun d j=>hb _ rfl,hb,hkb,hxs x0 (by simp),hxs x1 (by simp),hxs x2 (by simp),trivial⟩)
theorem picksG (h:Heap) (m id:Nat) (md:Int) (s:Bs) (op:Int) (x:Atr) (ks xs:List Vx) (B:BkM h id 4 (obG id md s) s.met) (hid:id<m) (n0:h (.obj m)=none) (n1:h (.obj (m+1))=none) (n2:h (.obj (m+2))=none) (hml:s.met.length<50000) (hkb:s.k<1000000) (hxs:∀z∈xs,z.md=md∧z.B 9) (hks:∀z∈ks,z.md=md∧z.B 9) (hcm:cmpX op=true) (hl:(xs.length:Int)=manyX op) (hlk:ks.length=(knownL op x).length):
  Ret Tryz.prog 92 [.ptr id,.int .i64 op,sX ks,sX xs] h m [.t (pickV op ks xs).1.T,.t (.int .i64 (pickV op ks xs).2)] (bkU (pkH h m id ks xs) id 4 (obG id md (pickS op s ks xs)) (pickS op s ks xs).met) (m+3):=by
 have hcm:=of_decide_eq_true hcm
 rcases hcm with rfl|rfl|rfl|rfl|rfl|rfl|rfl|rfl|rfl
 ·obtain⟨x0,rfl⟩:=list1 (α:=Vx) (l:=xs) (by have e:manyX 4=1:=(by decide);rw[e]at hl;omega)
  obtain⟨k0,rfl⟩:=list1 (α:=Vx) (l:=ks) (hlk.trans rfl)
  exact pick4_ok h m id md s k0 x0 B hid n0 n1 n2 hml hkb ⟨(hks k0 (by simp)).1,(hks k0 (by simp)).2.mono (by decide)⟩ ⟨(hxs x0 (by simp)).1,(hxs x0 (by simp)).2.mono (by decide)⟩
 ·obtain⟨x0,rfl⟩:=list1 (α:=Vx) (l:=xs) (by have e:manyX 5=1:=(by decide);rw[e]at hl;omega)
  obtain⟨k0,k1,k2,rfl⟩:=list3 (α:=Vx) (l:=ks) (hlk.trans rfl)
  exact pick5_ok h m id md s k0 k1 k2 x0 B hid n0 n1 n2 hml hkb ⟨(hks k0 (by simp)).1,(hks k0 (by simp)).2.mono (by decide)⟩ ⟨(hks k1 (by simp)).1,(hks k1 (by simp)).2.mono (by decide)⟩ ⟨(hks k2 (by simp)).1,(hks k2 (by simp)).2.mono (by decide)⟩ ⟨(hxs x0 (by simp)).1,(hxs x0 (by simp)).2.mono (by decide)⟩
 ·obtain⟨x0,rfl⟩:=list1 (α:=Vx) (l:=xs) (by have e:manyX 6=1:=(by decide);rw[e]at hl;omega)
  obtain⟨k0,rfl⟩:=list1 (α:=Vx) (l:=ks) (hlk.trans rfl)
  exact pick6_ok h m id md s k0 x0 B hid n0 n1 n2 hml hkb ⟨(hks k0 (by simp)).1,(hks k0 (by simp)).2.mono (by decide)⟩ ⟨(hxs x0 (by simp)).1,(hxs x0 (by simp)).2.mono (by decide)⟩
 ·obtain⟨x0,rfl⟩:=list1 (α:=Vx) (l:=xs) (by have e:manyX 15=1:=(by decide);rw[e]at hl;omega)
  obtain⟨k0,k1,rfl⟩:=list2 (α:=Vx) (l:=ks) (hlk.trans rfl)
  exact pick15_ok h m id md s k0 k1 x0 B hid n0 n1 n2 hml hkb ⟨(hks k0 (by simp)).1,(hks k0 (by simp)).2.mono (by decide)⟩ ⟨(hks k1 (by simp)).1,(hks k1 (by simp)).2.mono (by decide)⟩ ⟨(hxs x0 (by simp)).1,(hxs x0 (by simp)).2.mono (by decide)⟩
 ·obtain⟨x0,rfl⟩:=list1 (α:=Vx) (l:=xs) (by have e:manyX 16=1:=(by decide);rw[e]at hl;omega)
  obtain⟨k0,k1,rfl⟩:=list2 (α:=Vx) (l:=ks) (hlk.trans rfl)
  exact pick16_ok h m id md s k0 k1 x0 B hid n0 n1 n2 hml hkb ⟨(hks k0 (by simp)).1,(hks k0 (by simp)).2.mono (by decide)⟩ ⟨(hks k1 (by simp)).1,(hks k1 (by simp)).2.mono (by decide)⟩ ⟨(hxs x0 (by simp)).1,(hxs x0 (by simp)).2.mono (by decide)⟩
 ·obtain⟨x0,x1,rfl⟩:=list2 (α:=Vx) (l:=xs) (by have e:manyX 21=2:=(by decide);rw[e]at hl;omega)
  obtain rfl:ks=[]:=List.eq_nil_of_length_eq_zero (hlk.trans rfl)
  exact pick21_ok h m id md s x0 x1 B hid n0 n1 n2 hml hkb ⟨(hxs x0 (by simp)).1,(hxs x0 (by simp)).2.mono (by decide)⟩ ⟨(hxs x1 (by simp)).1,(hxs x1 (by simp)).2.mono (by decide)⟩
 ·obtain⟨x0,x1,rfl⟩:=list2 (α:=Vx) (l:=xs) (by have e:manyX 22=2:=(by decide);rw[e]at hl;omega)
  obtain rfl:ks=[]:=List.eq_nil_of_length_eq_zero (hlk.trans rfl)
  exact pick22_ok h m id md s x0 x1 B hid n0 n1 n2 hml hkb ⟨(hxs x0 (by simp)).1,(hxs x0 (by simp)).2.mono (by decide)⟩ ⟨(hxs x1 (by simp)).1,(hxs x1 (by simp)).2.mono (by decide)⟩
 ·obtain⟨x0,x1,rfl⟩:=list2 (α:=Vx) (l:=xs) (by have e:manyX 23=2:=(by decide);rw[e]at hl;omega)
  obtain⟨k0,k1,rfl⟩:=list2 (α:=Vx) (l:=ks) (hlk.trans rfl)
  exact pick23_ok h m id md s k0 k1 x0 x1 B hid n0 n1 n2 hml hkb ⟨(hks k0 (by simp)).1,(hks k0 (by simp)).2.mono (by decide)⟩ ⟨(hks k1 (by simp)).1,(hks k1 (by simp)).2.mono (by decide)⟩ ⟨(hxs x0 (by simp)).1,(hxs x0 (by simp)).2.mono (by decide)⟩ ⟨(hxs x1 (by simp)).1,(hxs x1 (by simp)).2.mono (by decide)⟩
 ·obtain⟨x0,x1,x2,rfl⟩:=list3 (α:=Vx) (l:=xs) (by have e:manyX 24=3:=(by decide);rw[e]at hl;omega)
  obtain⟨k0,rfl⟩:=list1 (α:=Vx) (l:=ks) (hlk.trans rfl)
  exact pick24_ok h m id md s k0 x0 x1 x2 B hid n0 n1 n2 hml hkb ⟨(hks k0 (by simp)).1,(hks k0 (by simp)).2.mono (by decide)⟩ ⟨(hxs x0 (by simp)).1,(hxs x0 (by simp)).2.mono (by decide)⟩ ⟨(hxs x1 (by simp)).1,(hxs x1 (by simp)).2.mono (by decide)⟩ ⟨(hxs x2 (by simp)).1,(hxs x2 (by simp)).2.mono (by decide)⟩
theorem v0_B (n:Nat):v0.B n:=(show(0:Nat)<18446744073709551616 by decide)
theorem opE_0 {f:Vx→Vx→Vx} {s:Es} {x y:Vx} (h:(opE f s x y).s.e≠0):(opE f s x y).v=v0:=by
 unfold opE at h⊢
 by_cases he:s.e=0
 ·rw[if_pos he]at h;exact absurd rfl h
 ·rw[if_neg he]
theorem divE_0 {s:Es} {x y:Vx} (h:(divE s x y).s.e≠0):(divE s x y).v=v0:=by
 unfold divE at h⊢
 by_cases he:s.e=0
 ·rw[if_pos he]at h⊢
  by_cases hz:y.zero=true
  ·rw[if_pos hz]
  ·rw[if_neg hz]at h;exact absurd rfl h
 ·rw[if_neg he]
theorem negE_0 {s:Es} {x:Vx} (h:(negE s x).s.e≠0):(negE s x).v=v0:=by
 unfold negE at h⊢
 by_cases he:s.e=0
 ·rw[if_pos he]at h;exact absurd rfl h
 ·rw[if_neg he]
theorem unE_0 {f:Nat→Nat} {s:Es} {x:Vx} (h:(unE f s x).s.e≠0):(unE f s x).v=v0:=by
 unfold unE at h⊢
 by_cases he:s.e=0
 ·rw[if_pos he]at h⊢
  cases x with
  |q r=>rfl
  |d b=>exact absurd rfl h
 ·rw[if_neg he]
theorem powE_0 {s:Es} {x y:Vx} {n:Int} (h0:s.e=0) (h:(powE s x y n).s.e≠0):(powE s x y n).v=v0:=by
 unfold powE at h⊢
 by_cases h1:n=0
 ·rw[if_pos h1]at h;exact absurd h0 h
 rw[if_neg h1]at h⊢
 split at h
 ·rename_i h2
  rw[if_pos h2]
  exact divE_0 h
 ·exact absurd ((powsE_e s y _).1.trans h0) h
def SG (md:Int) (s:Es) (r:Vs):Prop:=(r.s.e=0→s.e=0)∧(r.s.e=0→r.v.md=md∧r.v.B 400)∧r.s.k≤s.k+11∧(r.s.e≠0→r.v=v0)
theorem reckE_g {md:Int} {s:Es} {op:Int} {x:Atr} {ks xs:List Vx} (h0:s.e=0) (hxs:∀z∈xs,Gd md s z) (hks:∀z∈ks,Gd md s z) (hop:1≤op∧op≤26) (hcm:cmpX op=false) (hl:(xs.length:Int)=manyX op) (hlk:ks.length=(knownL op x).length) (hf:fairX op x=true):SG md s (reckE op x.n ks xs s):=by
 have hcm:=of_decide_eq_false hcm
 have hc:op=1∨op=2∨op=3∨op=7∨op=8∨op=9∨op=10∨op=11∨op=12∨op=13∨op=14∨op=17∨op=18∨op=19∨op=20∨op=25∨op=26:=by omega
 rcases hc with rfl|rfl|rfl|rfl|rfl|rfl|rfl|rfl|rfl|rfl|rfl|rfl|rfl|rfl|rfl|rfl|rfl
 ·obtain⟨x0,rfl⟩:=list1 (α:=Vx) (l:=xs) (by have e:manyX 1=1:=(by decide);rw[e]at hl;omega)
  have hx0:=hxs x0 (by simp)
  have g1:=negE_g (md:=md) (s:=s) hx0
  exact⟨fun e=>(g1.1 e),fun e=>⟨(g1.2.1 e).1,(g1.2.1 e).2.mono (by decide)⟩,by have e:reckE 1 x.n ks [x0] s=negE s x0:=rfl;rw[e];have:=g1.2.2;omega,fun e=>negE_0 e⟩
 ·obtain⟨x0,rfl⟩:=list1 (α:=Vx) (l:=xs) (by have e:manyX 2=1:=(by decide);rw[e]at hl;omega)
  have hx0:=hxs x0 (by simp)
  obtain⟨k0,rfl⟩:=list1 (α:=Vx) (l:=ks) (hlk.trans rfl)
  have hk0:=hks k0 (by simp)
  have g1:=divE_g (md:=md) (s:=s) hk0 hx0
  exact⟨fun e=>(g1.1 e),fun e=>⟨(g1.2.1 e).1,(g1.2.1 e).2.mono (by decide)⟩,by have e:reckE 2 x.n [k0] [x0] s=divE s k0 x0:=rfl;rw[e];have:=g1.2.2;omega,fun e=>divE_0 e⟩
 ·obtain⟨x0,rfl⟩:=list1 (α:=Vx) (l:=xs) (by have e:manyX 3=1:=(by decide);rw[e]at hl;omega)
  have hx0:=hxs x0 (by simp)
  have g1:=mulE_g (md:=md) (s:=s) hx0 hx0
  exact⟨fun e=>(g1.1 e),fun e=>⟨(g1.2.1 e).1,(g1.2.1 e).2.mono (by decide)⟩,by have e:reckE 3 x.n ks [x0] s=opE mulV s x0 x0:=rfl;rw[e];have:=g1.2.2;omega,fun e=>opE_0 e⟩
 ·obtain⟨x0,rfl⟩:=list1 (α:=Vx) (l:=xs) (by have e:manyX 7=1:=(by decide);rw[e]at hl;omega)
  have hx0:=hxs x0 (by simp)
  have g1:=unE_g (md:=md) (s:=s) (op:=9) hx0
  exact⟨fun e=>(g1.1 e),fun e=>⟨(g1.2.1 e).1,(g1.2.1 e).2.mono (by decide)⟩,by have e:reckE 7 x.n ks [x0] s=unE (fnU 9) s x0:=rfl;rw[e];have:=g1.2.2;omega,fun e=>unE_0 e⟩
 ·obtain⟨x0,rfl⟩:=list1 (α:=Vx) (l:=xs) (by have e:manyX 8=1:=(by decide);rw[e]at hl;omega)
  have hx0:=hxs x0 (by simp)
  have g1:=unE_g (md:=md) (s:=s) (op:=10) hx0
  exact⟨fun e=>(g1.1 e),fun e=>⟨(g1.2.1 e).1,(g1.2.1 e).2.mono (by decide)⟩,by have e:reckE 8 x.n ks [x0] s=unE (fnU 10) s x0:=rfl;rw[e];have:=g1.2.2;omega,fun e=>unE_0 e⟩
 ·obtain⟨x0,rfl⟩:=list1 (α:=Vx) (l:=xs) (by have e:manyX 9=1:=(by decide);rw[e]at hl;omega)
  have hx0:=hxs x0 (by simp)
  have g1:=unE_g (md:=md) (s:=s) (op:=8) hx0
  exact⟨fun e=>(g1.1 e),fun e=>⟨(g1.2.1 e).1,(g1.2.1 e).2.mono (by decide)⟩,by have e:reckE 9 x.n ks [x0] s=unE (fnU 8) s x0:=rfl;rw[e];have:=g1.2.2;omega,fun e=>unE_0 e⟩
 ·obtain⟨x0,rfl⟩:=list1 (α:=Vx) (l:=xs) (by have e:manyX 10=1:=(by decide);rw[e]at hl;omega)
  have hx0:=hxs x0 (by simp)
  obtain⟨k0,rfl⟩:=list1 (α:=Vx) (l:=ks) (hlk.trans rfl)
  have hk0:=hks k0 (by simp)
  have g1:=negE_g (md:=md) (s:=s) hx0
  have g2:=unE_g (md:=md) (s:=(negE s x0).s) (op:=9) g1.2.1
  have g3:=addE_g (md:=md) (s:=(unE (fnU 9) (negE s x0).s (negE s x0).v).s) (fun e=>hk0 (g1.1 (g2.1 e))) g2.2.1
  have g4:=divE_g (md:=md) (s:=(opE addV (unE (fnU 9) (negE s x0).s (negE s x0).v).s k0 (unE (fnU 9) (negE s x0).s (negE s x0).v).v).s) (fun e=>hk0 (g1.1 (g2.1 (g3.1 e)))) g3.2.1
  exact⟨fun e=>(g1.1 (g2.1 (g3.1 (g4.1 e)))),fun e=>⟨(g4.2.1 e).1,(g4.2.1 e).2.mono (by decide)⟩,by have e:reckE 10 x.n [k0] [x0] s=divE (opE addV (unE (fnU 9) (negE s x0).s (negE s x0).v).s k0 (unE (fnU 9) (negE s x0).s (negE s x0).v).v).s k0 (opE addV (unE (fnU 9) (negE s x0).s (negE s x0).v).s k0 (unE (fnU 9) (negE s x0).s (negE s x0).v).v).v:=rfl;rw[e];have:=g1.2.2;have:=g2.2.2;have:=g3.2.2;have:=g4.2.2;omega,fun e=>divE_0 e⟩
 ·obtain⟨x0,rfl⟩:=list1 (α:=Vx) (l:=xs) (by have e:manyX 11=1:=(by decide);rw[e]at hl;omega)
  have hx0:=hxs x0 (by simp)
  obtain⟨k0,rfl⟩:=list1 (α:=Vx) (l:=ks) (hlk.trans rfl)
  have hk0:=hks k0 (by simp)
  have g1:=addE_g (md:=md) (s:=s) hx0 hx0
  have g2:=unE_g (md:=md) (s:=(opE addV s x0 x0).s) (op:=9) g1.2.1
  have g3:=subE_g (md:=md) (s:=(unE (fnU 9) (opE addV s x0 x0).s (opE addV s x0 x0).v).s) g2.2.1 (fun e=>hk0 (g1.1 (g2.1 e)))
  have g4:=addE_g (md:=md) (s:=(opE subV (unE (fnU 9) (opE addV s x0 x0).s (opE addV s x0 x0).v).s (unE (fnU 9) (opE addV s x0 x0).s (opE addV s x0 x0).v).v k0).s) (fun e=>g2.2.1 (g3.1 e)) (fun e=>hk0 (g1.1 (g2.1 (g3.1 e))))
  have g5:=divE_g (md:=md) (s:=(opE addV (opE subV (unE (fnU 9) (opE addV s x0 x0).s (opE addV s x0 x0).v).s (unE (fnU 9) (opE addV s x0 x0).s (opE addV s x0 x0).v).v k0).s (unE (fnU 9) (opE addV s x0 x0).s (opE addV s x0 x0).v).v k0).s) (fun e=>g3.2.1 (g4.1 e)) g4.2.1
  exact⟨fun e=>(g1.1 (g2.1 (g3.1 (g4.1 (g5.1 e))))),fun e=>⟨(g5.2.1 e).1,(g5.2.1 e).2.mono (by decide)⟩,by have e:reckE 11 x.n [k0] [x0] s=divE (opE addV (opE subV (unE (fnU 9) (opE addV s x0 x0).s (opE addV s x0 x0).v).s (unE (fnU 9) (opE addV s x0 x0).s (opE addV s x0 x0).v).v k0).s (unE (fnU 9) (opE addV s x0 x0).s (opE addV s x0 x0).v).v k0).s (opE subV (unE (fnU 9) (opE addV s x0 x0).s (opE addV s x0 x0).v).s (unE (fnU 9) (opE addV s x0 x0).s (opE addV s x0 x0).v).v k0).v (opE addV (opE subV (unE (fnU 9) (opE addV s x0 x0).s (opE addV s x0 x0).v).s (unE (fnU 9) (opE addV s x0 x0).s (opE addV s x0 x0).v).v k0).s (unE (fnU 9) (opE addV s x0 x0).s (opE addV s x0 x0).v).v k0).v:=rfl;rw[e];have:=g1.2.2;have:=g2.2.2;have:=g3.2.2;have:=g4.2.2;have:=g5.2.2;omega,fun e=>divE_0 e⟩
 ·obtain⟨x0,rfl⟩:=list1 (α:=Vx) (l:=xs) (by have e:manyX 12=1:=(by decide);rw[e]at hl;omega)
  have hx0:=hxs x0 (by simp)
  obtain⟨k0,rfl⟩:=list1 (α:=Vx) (l:=ks) (hlk.trans rfl)
  have hk0:=hks k0 (by simp)
  have g:=powE_g (s:=s) (fair_n0 hf rfl) hk0 hx0
  exact⟨g.1,fun e=>⟨(g.2.1 e).1,(g.2.1 e).2.mono (by decide)⟩,g.2.2,powE_0 h0⟩
 ·obtain⟨x0,rfl⟩:=list1 (α:=Vx) (l:=xs) (by have e:manyX 13=1:=(by decide);rw[e]at hl;omega)
  have hx0:=hxs x0 (by simp)
  obtain⟨k0,rfl⟩:=list1 (α:=Vx) (l:=ks) (hlk.trans rfl)
  have hk0:=hks k0 (by simp)
  have g1:=mulE_g (md:=md) (s:=s) hx0 hk0
  exact⟨fun e=>(g1.1 e),fun e=>⟨(g1.2.1 e).1,(g1.2.1 e).2.mono (by decide)⟩,by have e:reckE 13 x.n [k0] [x0] s=opE mulV s x0 k0:=rfl;rw[e];have:=g1.2.2;omega,fun e=>opE_0 e⟩
 ·obtain⟨x0,rfl⟩:=list1 (α:=Vx) (l:=xs) (by have e:manyX 14=1:=(by decide);rw[e]at hl;omega)
  have hx0:=hxs x0 (by simp)
  obtain⟨k0,rfl⟩:=list1 (α:=Vx) (l:=ks) (hlk.trans rfl)
  have hk0:=hks k0 (by simp)
  have g1:=addE_g (md:=md) (s:=s) hx0 hk0
  exact⟨fun e=>(g1.1 e),fun e=>⟨(g1.2.1 e).1,(g1.2.1 e).2.mono (by decide)⟩,by have e:reckE 14 x.n [k0] [x0] s=opE addV s x0 k0:=rfl;rw[e];have:=g1.2.2;omega,fun e=>opE_0 e⟩
 ·obtain⟨x0,x1,rfl⟩:=list2 (α:=Vx) (l:=xs) (by have e:manyX 17=2:=(by decide);rw[e]at hl;omega)
  have hx0:=hxs x0 (by simp)
  have hx1:=hxs x1 (by simp)
  have g1:=addE_g (md:=md) (s:=s) hx0 hx1
  exact⟨fun e=>(g1.1 e),fun e=>⟨(g1.2.1 e).1,(g1.2.1 e).2.mono (by decide)⟩,by have e:reckE 17 x.n ks [x0,x1] s=opE addV s x0 x1:=rfl;rw[e];have:=g1.2.2;omega,fun e=>opE_0 e⟩
 ·obtain⟨x0,x1,rfl⟩:=list2 (α:=Vx) (l:=xs) (by have e:manyX 18=2:=(by decide);rw[e]at hl;omega)
  have hx0:=hxs x0 (by simp)
  have hx1:=hxs x1 (by simp)
  have g1:=subE_g (md:=md) (s:=s) hx0 hx1
  exact⟨fun e=>(g1.1 e),fun e=>⟨(g1.2.1 e).1,(g1.2.1 e).2.mono (by decide)⟩,by have e:reckE 18 x.n ks [x0,x1] s=opE subV s x0 x1:=rfl;rw[e];have:=g1.2.2;omega,fun e=>opE_0 e⟩
 ·obtain⟨x0,x1,rfl⟩:=list2 (α:=Vx) (l:=xs) (by have e:manyX 19=2:=(by decide);rw[e]at hl;omega)
  have hx0:=hxs x0 (by simp)
  have hx1:=hxs x1 (by simp)
  have g1:=mulE_g (md:=md) (s:=s) hx0 hx1
  exact⟨fun e=>(g1.1 e),fun e=>⟨(g1.2.1 e).1,(g1.2.1 e).2.mono (by decide)⟩,by have e:reckE 19 x.n ks [x0,x1] s=opE mulV s x0 x1:=rfl;rw[e];have:=g1.2.2;omega,fun e=>opE_0 e⟩
 ·obtain⟨x0,x1,rfl⟩:=list2 (α:=Vx) (l:=xs) (by have e:manyX 20=2:=(by decide);rw[e]at hl;omega)
  have hx0:=hxs x0 (by simp)
  have hx1:=hxs x1 (by simp)
  have g1:=divE_g (md:=md) (s:=s) hx0 hx1
  exact⟨fun e=>(g1.1 e),fun e=>⟨(g1.2.1 e).1,(g1.2.1 e).2.mono (by decide)⟩,by have e:reckE 20 x.n ks [x0,x1] s=divE s x0 x1:=rfl;rw[e];have:=g1.2.2;omega,fun e=>divE_0 e⟩
 ·obtain⟨x0,x1,x2,rfl⟩:=list3 (α:=Vx) (l:=xs) (by have e:manyX 25=3:=(by decide);rw[e]at hl;omega)
  have hx0:=hxs x0 (by simp)
  have hx1:=hxs x1 (by simp)
  have hx2:=hxs x2 (by simp)
  have g1:=mulE_g (md:=md) (s:=s) hx0 hx1
  have g2:=addE_g (md:=md) (s:=(opE mulV s x0 x1).s) g1.2.1 (fun e=>hx2 (g1.1 e))
  exact⟨fun e=>(g1.1 (g2.1 e)),fun e=>⟨(g2.2.1 e).1,(g2.2.1 e).2.mono (by decide)⟩,by have e:reckE 25 x.n ks [x0,x1,x2] s=opE addV (opE mulV s x0 x1).s (opE mulV s x0 x1).v x2:=rfl;rw[e];have:=g1.2.2;have:=g2.2.2;omega,fun e=>opE_0 e⟩
 ·obtain⟨x0,x1,x2,rfl⟩:=list3 (α:=Vx) (l:=xs) (by have e:manyX 26=3:=(by decide);rw[e]at hl;omega)
  have hx0:=hxs x0 (by simp)
  have hx1:=hxs x1 (by simp)
  have hx2:=hxs x2 (by simp)
  have g1:=subE_g (md:=md) (s:=s) hx1 hx0
  have g2:=mulE_g (md:=md) (s:=(opE subV s x1 x0).s) (fun e=>hx2 (g1.1 e)) g1.2.1
  have g3:=addE_g (md:=md) (s:=(opE mulV (opE subV s x1 x0).s x2 (opE subV s x1 x0).v).s) (fun e=>hx0 (g1.1 (g2.1 e))) g2.2.1
  exact⟨fun e=>(g1.1 (g2.1 (g3.1 e))),fun e=>⟨(g3.2.1 e).1,(g3.2.1 e).2.mono (by decide)⟩,by have e:reckE 26 x.n ks [x0,x1,x2] s=opE addV (opE mulV (opE subV s x1 x0).s x2 (opE subV s x1 x0).v).s x0 (opE mulV (opE subV s x1 x0).s x2 (opE subV s x1 x0).v).v:=rfl;rw[e];have:=g1.2.2;have:=g2.2.2;have:=g3.2.2;omega,fun e=>opE_0 e⟩
theorem reckE_B {md:Int} {s:Es} {r:Vs} (h:SG md s r):r.v.B 400:=by
 by_cases e:r.s.e=0
 ·exact(h.2.1 e).2
 ·rw[h.2.2.2 e];exact v0_B _
theorem powsE_err (s:Es) (x:Vx) (he:s.e≠0):∀i,(powsE s x i).s=s
 |0=>rfl
 | i + 1 => by
   have ih:=powsE_err s x he i
   rw[powsE,ih]
   unfold opE
   rw[if_neg he]
theorem ite_s {c:Prop} [Decidable c] {a b:Vs} {s:Es} (ha:a.s=s) (hb:b.s=s):(if c then a else b).s=s:=by split<;>assumption
theorem reckE_err {s:Es} (op n:Int) (ks xs:List Vx) (he:s.e≠0):(reckE op n ks xs s).s=s:=by
 have e1:∀(f:Vx→Vx→Vx) x y,opE f s x y=⟨v0,s⟩:=fun f x y=>if_neg he
 have e2:∀x y,divE s x y=⟨v0,s⟩:=fun x y=>if_neg he
 have e3:∀x,negE s x=⟨v0,s⟩:=fun x=>if_neg he
 have e4:∀f x,unE f s x=⟨v0,s⟩:=fun f x=>if_neg he
 have e5:∀x y n,(powE s x y n).s=s:=fun x y n=>by
  unfold powE
  split
  ·rfl
  ·split
   ·rw[powsE_err s y he,e2]
   ·exact powsE_err s y he _
 unfold reckE sigE tanE madE mixE
 simp only[e1,e2,e3,e4]
 repeat' first|rfl|exact e5 _ _ _|refine ite_s ?_ ?_
def runR (op n:Int) (ks:List Vx) (xs:Nat→List Vx) (s:Es):Nat→List Vx×Es
 |0=>([],s)
 |i+1=>((runR op n ks xs s i).1++[(reckE op n ks (xs i) (runR op n ks xs s i).2).v],(reckE op n ks (xs i) (runR op n ks xs s i).2).s)
def xsAt (A:List Op1) (out:List Int) (i:Nat):List Vx:=A.map (opdX out i)
theorem opd_mem {out:List Int} {n:Int} {a:Op1} (h:OpIn out n a):opdX out n a∈a.v:=by
 obtain⟨_,h2,h3⟩:=h
 unfold opdX
 obtain⟨q,hq⟩:=Int.eq_ofNat_of_zero_le h2
 rw[hq]at h3⊢
 rw[Int.toNat_natCast]
 obtain⟨y,hy⟩:=getI (show q<a.v.length by omega)
 rw[List.getD_eq_getElem?_getD,hy]
 exact List.mem_of_getElem? hy
theorem xsAt_g {A:List Op1} {out:List Int} {md:Int} {i:Nat} (hfit:∀a∈A,OpIn out i a) (hv:∀a∈A,∀z∈a.v,z.md=md∧z.B 9):∀z∈xsAt A out i,z.md=md∧z.B 9:=by
 intro z hz
 obtain⟨a,ha,rfl⟩:=List.mem_map.1 hz
 exact hv a ha _ (opd_mem (hfit a ha))
theorem runR_inv {op md:Int} {x:Atr} {ks:List Vx} {s:Es} {N:Nat} {A:List Op1} {out:List Int} (hks:∀z∈ks,Gd md s z) (hop:1≤op∧op≤26) (hcm:cmpX op=false) (hAl:(A.length:Int)=manyX op) (hlk:ks.length=(knownL op x).length) (hf:fairX op x=true)
  (hfit:∀i,i<N→∀a∈A,OpIn out (i:Nat) a) (hv:∀a∈A,∀z∈a.v,z.md=md∧z.B 9):∀i,i≤N→((runR op x.n ks (xsAt A out) s i).2.e=0→s.e=0)∧(runR op x.n ks (xsAt A out) s i).2.k≤s.k+11*i∧(runR op x.n ks (xsAt A out) s i).1.length=i
 |0,_=>⟨fun h=>h,Nat.le_refl _,rfl⟩
 | i + 1, hi => by
   obtain⟨h1,h2,h3⟩:=runR_inv hks hop hcm hAl hlk hf hfit hv i (by omega)
   have hx:=xsAt_g (hfit i (by omega)) hv
   have e:runR op x.n ks (xsAt A out) s (i+1)=((runR op x.n ks (xsAt A out) s i).1++[(reckE op x.n ks (xsAt A out i) (runR op x.n ks (xsAt A out) s i).2).v],(reckE op x.n ks (xsAt A out i) (runR op x.n ks (xsAt A out) s i).2).s):=rfl
   rw[e]
   obtain⟨⟨L,t⟩,hr⟩:∃q,runR op x.n ks (xsAt A out) s i=q:=⟨_,rfl⟩
   rw[hr]at h1 h2 h3⊢
   dsimp only at h1 h2 h3⊢
   by_cases he:t.e=0
   ·have g:=reckE_g (md:=md) (s:=t) (op:=op) (x:=x) (ks:=ks) (xs:=xsAt A out i) he (fun z hz _=>hx z hz) (fun z hz _=>hks z hz (h1 he)) hop hcm (by unfold xsAt;rw[List.length_map];exact hAl) hlk hf
    exact⟨fun h=>h1 he,by have:=g.2.2.1;omega,by rw[List.length_append,h3];rfl⟩
   ·rw[reckE_err op x.n ks (xsAt A out i) he]
    exact⟨fun h=>absurd h he,by omega,by rw[List.length_append,h3];rfl⟩
theorem runR_stop {op n:Int} {ks:List Vx} {xs:Nat→List Vx} {s:Es} {i:Nat} (he:(runR op n ks xs s i).2.e≠0):∀j,(runR op n ks xs s (i+j)).2=(runR op n ks xs s i).2
 |0=>rfl
 | j + 1 => by
   have ih:=runR_stop he j
   show(reckE op n ks (xs (i+j)) (runR op n ks xs s (i+j)).2).s=_
   rw[reckE_err _ _ _ _ (by rw[ih];exact he),ih]
theorem knZ_id {h:Heap} {m id:Nat} {md:Int} {mc:AV} {tie:Bool} {s:Es} {P:List (Int×Int)} (hid:id<m):knZ h m id md mc tie s P (.obj id)=some (bankE md mc (readyE md s P P.length).s.k tie (readyE md s P P.length).s.e):=by
 unfold knZ knI
 rw[upd_ne _ _ _ _ (fun e=>by cases e),knH_obj (by omega),upd_same]
theorem knZ_fld {h:Heap} {m id:Nat} {md:Int} {mc:AV} {tie:Bool} {s:Es} {P:List (Int×Int)} {i f:Nat} (hf:f≠0):knZ h m id md mc tie s P (.fld i f)=h (.fld i f):=by
 unfold knZ knI knH
 rw[upd_ne _ _ _ _ (fun e=>hf (Lab.fld.inj e).2),upd_ne _ _ _ _ (fun e=>by cases e),upd_ne _ _ _ _ (fun e=>hf (Lab.fld.inj e).2),upd_ne _ _ _ _ (fun e=>by cases e),upd_ne _ _ _ _ (fun e=>by cases e)]
theorem knZ_obj {h:Heap} {m id:Nat} {md:Int} {mc:AV} {tie:Bool} {s:Es} {P:List (Int×Int)} {i:Nat} (h0:i≠id) (h1:i≠m) (h2:i≠m+1):knZ h m id md mc tie s P (.obj i)=h (.obj i):=by
 unfold knZ knI
 rw[upd_ne _ _ _ _ (fun e=>by cases e),knH_obj h2,upd_ne _ _ _ _ (fun e=>h0 (Lab.obj.inj e)),upd_ne _ _ _ _ (fun e=>h1 (Lab.obj.inj e))]
theorem endF.nil2 {a b:Nat} {h':Heap} {m':Nat} {e:Exit} {s:St} (he:e=.normal∨e=.ret) (ha:s.f a=.nil) (hb:s.f b=.nil) (hh:∀l,Lab.pool l=true→h' l=s.h l) (hn:s.nxt=m'):endF [a,b] [.t (.slice []),.t (.slice [])] h' m' e s:=
 endF.vals [(a,.slice []),(b,.slice [])] he (fun p hp=>by
   simp only[List.mem_cons,List.not_mem_nil,or_false]at hp
   rcases hp with rfl|rfl
   ·dsimp only;rw[ha];rfl
   ·dsimp only;rw[hb];rfl) hh hn
theorem noPtrL_Op (A:List Op1):noPtrL (A.map Op1.T)=true:=by
 induction A with
 |nil=>rfl
 | cons a r ih =>
   rw[List.map_cons,noPtrL,ih]
   unfold Op1.T argX
   simp only[noPtr,noPtrL,noPtr_sI,noPtr_sX,Bool.and_self]
set_option maxHeartbeats 8000000 in
theorem doR_ok (h:Heap) (m id:Nat) (md:Int) (hmd:md=0∨md=1) (s:Bs) (op:Int) (x:Atr) (out:List Int) (A:List Op1) (N:Nat) (B:BkM h id 4 (obG id md s) s.met) (hid:id<m) (h1:h (.obj m)=none) (h2:h (.obj (m+1))=none) (hf:h (.fld (m+1) 0)=none)
  (hop:1≤op∧op≤26) (hcm:cmpX op=false) (hAl:(A.length:Int)=manyX op) (hcnt:cnt out=N) (hN:N≤64) (hol:out.length<1000000000) (hfit:∀i,i<N→∀a∈A,OpIn out (i:Nat) a) (hv:∀a∈A,∀z∈a.v,z.md=md∧z.B 9) (hkb:s.k<1000) (hfx:fairX op x=true)
  (hxp:IOk x.p) (hxq:IOk x.q) (hxr:IOk x.r) (hxs:IOk x.s) (K:Ks) (hK:readyE md ⟨s.k,0⟩ (knownL op x) (knownL op x).length=K) (hkg:∀z∈K.l,Gd md K.s z) (hkk:K.s.k=s.k) (R:List Vx×Es) (hR:runR op x.n K.l (xsAt A out) K.s N=R):
  Ret Tryz.prog 39 [.ptr id,.int .i64 op,x.T,sI out,.slice (A.map Op1.T)] h m [.t (sX (if R.2.e=0 then R.1 else [])),.t (sI (if R.2.e=0 then List.replicate N 0 else []))]
   (upd (knZ h m id md (mtC id 4 s.met) s.tie ⟨s.k,0⟩ (knownL op x)) (.obj id) (some (bankE md (mtC id 4 s.met) R.2.k s.tie R.2.e))) (m+2):=by
 have hb:=B.hb
 have hloc:∀d j,h (.loc d j)=none:=fun d j=>hb _ rfl
 have hko:h (.obj id)=some (bankE md (mtC id 4 s.met) (⟨s.k,0⟩:Es).k s.tie (⟨s.k,0⟩:Es).e):=B.o
 have c1:=is_ok op
 have hiX:isX op=true:=by unfold isX;rw[decide_eq_true hop.1,decide_eq_true hop.2];rfl
 rw[hiX,←hAl]at c1
 have c2:=errG_ok h m id s.k md _ s.tie hb B.o
 have c3:=fair_ok op x
 rw[hfx]at c3
 have c4:=knows_ok h m id md hmd (mtC id 4 s.met) s.tie ⟨s.k,0⟩ op x hb hko hid h1 h2 hf hop hxp hxq hxr hxs
 have c5:=count_ok out hol
 rw[hcnt]at c5
 have c7:=compares_ok op hop
 rw[hcm]at c7
 have hkZ:=knZ_id (h:=h) (m:=m) (id:=id) (md:=md) (mc:=mtC id 4 s.met) (tie:=s.tie) (s:=⟨s.k,0⟩) (P:=knownL op x) hid
 have hbZ:=knZ_hb (h:=h) (m:=m) (id:=id) (md:=md) (mc:=mtC id 4 s.met) (tie:=s.tie) (s:=⟨s.k,0⟩) (P:=knownL op x) hb
 have hlk:K.l.length=(knownL op x).length:=by rw[←hK];exact readyE_len _ _ _ _
 rw[hK]at hkZ c4
 have hkpZ:=knZ_keeps (h:=h) (m:=m) (id:=id) (md:=md) (mc:=mtC id 4 s.met) (tie:=s.tie) (s:=⟨s.k,0⟩) (P:=knownL op x)
 obtain⟨Z,hZ⟩:∃Z,knZ h m id md (mtC id 4 s.met) s.tie ⟨s.k,0⟩ (knownL op x)=Z:=⟨_,rfl⟩
 rw[hZ]at c4 hkZ hbZ hkpZ⊢
 have hlZ:∀d j,Z (.loc d j)=none:=fun d j=>hbZ _ rfl
 have inv:=runR_inv hkg hop hcm hAl hlk hfx hfit hv
 obtain⟨ks,s0⟩:=K
 dsimp only at hkg hkk hR hlk hkZ c4 inv
 have c6:=fun i (hi:i<N)=>operands_ok out A (i:Nat) ⟨by omega,by omega⟩ (by have:=hAl;unfold manyX at this;repeat' split at this<;>omega) (hfit i hi)
 have hkpF:Keeps h (upd Z (.obj id) (some (bankE md (mtC id 4 s.met) R.2.k s.tie R.2.e))):=by
  refine⟨fun id' cs hc=> ?_,fun i o hc=> ?_⟩
  ·by_cases e:id'=id
   ·subst e;rw[upd_same];exact⟨_,rfl⟩
   ·rw[upd_ne _ _ _ _ (fun e'=>e (Lab.obj.inj e'))];exact hkpZ.1 id' cs hc
  ·rw[upd_ne _ _ _ _ (fun e=>by cases e)];exact hkpZ.2 i o hc
 have hU:∀t:Es,∀l,Lab.pool l=false→upd Z (.obj id) (some (bankE md (mtC id 4 s.met) t.k s.tie t.e)) l=none:=fun t=>upd_hb hbZ
 have hnX:=fun(t:Es)=>errE_ok (upd Z (.obj id) (some (bankE md (mtC id 4 s.met) t.k s.tie t.e))) (m+2) id t.k md t.e (mtC id 4 s.met) s.tie (hU t) (upd_same _ _ _)
 obtain⟨a1,a2,a3,a4,a5,a6,a7,a8,ak,al⟩:=x
 dsimp only at hR inv
 refine Ret.intro Tryz.func39 rfl (rt:=[10,11]) rfl (by simp[Tryz.ntmps39]) (by decide) (sites:=fun _=>false) (hU R.2) hkpF ?_
 simp only[Atr.T,I,sI,sX,knT]at c3 c4 c5⊢
 apply run_sound 200
 refine SmA ?_
 refine CallG.P _ Tryz.call49 (c1) ?_
 have dn:decide ((A.length:Int)≠(A.length:Int))=false:=decide_eq_false (fun h=>h rfl)
 simp-implicitDefEqProofs+decide only[go_sem,hloc,List.length_map,dn]
 refine CallG.Q _ Tryz.call17 c2 ?_
 refine SmA ?_
 refine CallG.P _ Tryz.call87 (c3) ?_
 refine SmA ?_
 refine CallG.Q _ Tryz.call88 c4 ?_
 simp-implicitDefEqProofs+decide only[go_sem,hloc,hlZ]
 refine CallG.P _ Tryz.call54 (c5) ?_
 simp-implicitDefEqProofs+decide only[go_sem,hloc,hlZ]
 refine Goes.wk (Wk.nilRow (d:=15) (lab:=.loc 101 0) (size:=5) (by simp-implicitDefEqProofs+decide only[go_sem]) (by simp-implicitDefEqProofs+decide only[go_sem,hloc,hlZ]) rfl (by decide)) ?_
 refine Goes.wk (Wk.nilRow (d:=16) (lab:=.loc 102 0) (size:=1) (by simp-implicitDefEqProofs+decide only[go_sem]) (by simp-implicitDefEqProofs+decide only[go_sem,hloc,hlZ]) rfl (by decide)) ?_
 obtain⟨f,hf0⟩:∃f,runR op a1 ks (xsAt A out) s0=f:=⟨_,rfl⟩
 have hst:∀i,f (i+1)=((f i).1++[(reckE op a1 ks (xsAt A out i) (f i).2).v],(reckE op a1 ks (xsAt A out i) (f i).2).s):=fun i=>by rw[←hf0];rfl
 have hstop:∀i,(f i).2.e≠0→∀j,(f (i+j)).2=(f i).2:=fun i he j=>by rw[←hf0]at he⊢;exact runR_stop he j
 have hf00:f 0=([],s0):=by rw[←hf0];rfl
 rw[hf0]at hR inv
 have hu0:upd Z (.obj id) (some (bankE md (mtC id 4 s.met) (f 0).2.k s.tie (f 0).2.e))=Z:=by rw[hf00];exact upd_id hkZ
 refine Goes.loop (X:=Nat) (fun i=>⟨ofL [(0,.t (.ptr id)),(1,.t (.int .i64 op)),(3,.t (.slice (out.map I))),(4,.t (.slice (A.map Op1.T))),(7,.bp (.loc 7 0) 0),(14,.bp (.loc 14 0) 0),(15,.sl (.loc 101 0) i 0 i),(16,.sl (.loc 102 0) i 0 i),(51,.t (.int .i64 N)),(52,.t (.int .i64 i))],
   ofH (upd Z (.obj id) (some (bankE md (mtC id 4 s.met) (f i).2.k s.tie (f i).2.e))) [(.loc 7 0,.box [.t (.int .i64 a1),.t (.int .i64 a2),.t (.int .i64 a3),.t (.int .i64 a4),.t (.int .i64 a5),.t (.int .i64 a6),.t (.int .i64 a7),.t (.int .i64 a8),.t (.bool ak),.t (.slice (al.map I))]),(.loc 14 0,.box [.t (.slice (ks.map Vx.T))]),(.loc 101 0,.arr 5 ((f i).1.map Vx.T) i 0),(.loc 102 0,.arr 1 ((List.replicate i (0:Int)).map I) i 0)],m+2⟩) (fun i=>i≤N) (fun i=>N-i) 0 ?_ (by omega) ?_
 ·show Wk _ _ ⟨_,ofH (upd Z (.obj id) (some (bankE md (mtC id 4 s.met) (f 0).2.k s.tie (f 0).2.e))) _,_⟩
  rw[hu0]
  refine Wk.boxes _ _ hbZ rfl rfl ?_ (by rintro (_|_|_|_|_) hp<;>first|(cases hp;done)|simp-implicitDefEqProofs+decide only[go_sem,hloc,hlZ]) ?_ ?_
  ·simp-implicitDefEqProofs+decide only[go_sem,hloc,hlZ,ofH,hf00,List.map_nil]<;>first|rfl|exact⟨rfl,rfl⟩|exact⟨rfl,rfl,rfl⟩|exact⟨rfl,rfl,rfl,rfl⟩|skip
  ·simp-implicitDefEqProofs+decide only[go_sem]<;>first|rfl|skip
  ·simp-implicitDefEqProofs+decide only[go_sem]<;>first|rfl|skip
 rintro i hi J hJ
 obtain⟨iv1,iv2,iv3⟩:=inv i hi
 apply run_sound 200
 simp-implicitDefEqProofs+decide only[go_sem,ofH]
 apply selP_dec<;>intro hc
 ·have hiN:i<N:=by omega
  have cop:=c6 i hiN
  have hx:=xsAt_g (hfit i hiN) hv
  have hxl:((xsAt A out i).length:Int)=manyX op:=by unfold xsAt;rw[List.length_map];exact hAl
  have hs1:=hst i
  have hsp:=hstop i
  have ce:=hnX (f i).2
  have hbU:=hU (f i).2
  have hRi:(f i).2.e≠0→R.2=(f i).2:=fun he=>by rw[←hR,show N=i+(N-i) by omega];exact hsp he _
  obtain⟨⟨L,t⟩,hft⟩:∃q,f i=q:=⟨_,rfl⟩
  rw[hft]at hs1 ce hbU iv1 iv2 iv3 hRi⊢
  dsimp only at hs1 ce hbU iv1 iv2 iv3 hRi⊢
  have hlU:∀d j,upd Z (.obj id) (some (bankE md (mtC id 4 s.met) t.k s.tie t.e)) (.loc d j)=none:=fun d j=>hbU _ rfl
  rw[show A.map (opdX out (i:Nat))=xsAt A out i from rfl]at cop
  by_cases he:t.e=0
  ·have de:decide (t.e≠0)=false:=decide_eq_false (fun h=>h he)
   have cr:=reckG (upd Z (.obj id) (some (bankE md (mtC id 4 s.met) t.k s.tie t.e))) (m+2) id md (mtC id 4 s.met) s.tie t op ⟨a1,a2,a3,a4,a5,a6,a7,a8,ak,al⟩ ks (xsAt A out i) hbU (upd_same _ _ _) (by omega) (fun z hz _=>hx z hz) (fun z hz _=>hkg z hz (iv1 he)) hop hcm hxl hlk hfx
   rw[upd_upd]at cr
   have g:=reckE_B (reckE_g (md:=md) (s:=t) (op:=op) (x:=⟨a1,a2,a3,a4,a5,a6,a7,a8,ak,al⟩) (ks:=ks) (xs:=xsAt A out i) he (fun z hz _=>hx z hz) (fun z hz _=>hkg z hz (iv1 he)) hop hcm hxl hlk hfx)
   dsimp only at cr g
   obtain⟨⟨w,t'⟩,hw⟩:∃q,reckE op a1 ks (xsAt A out i) t=q:=⟨_,rfl⟩
   rw[hw]at cr g hs1
   dsimp only at cr g hs1
   have cc:=copyX_ok w (g.mono (by decide))
   have hw1:=wS (show i<1000000000000 by omega)
   have hnb:(i+1<big)=True:=eq_true (by unfold big;omega)
   have e1:(L.map Vx.T).length=i:=by rw[List.length_map,iv3]
   have e2:((List.replicate i (0:Int)).map I).length=i:=by rw[List.length_map,List.length_replicate]
   have e3:L.map Vx.T++[.agg [.bool w.neg,sW w.p,sW w.qq,.int .u64 w.bits,.int .i64 0]]=(L++[w]).map Vx.T:=by rw[List.map_append,←Vx_T];rfl
   have e4:(List.replicate i (0:Int)).map I++[.int .i64 0]=(List.replicate (i+1) (0:Int)).map I:=by rw[List.replicate_succ',List.map_append];rfl
   have hbU':=hU t'
   have hlU':∀d j,upd Z (.obj id) (some (bankE md (mtC id 4 s.met) t'.k s.tie t'.e)) (.loc d j)=none:=fun d j=>hbU' _ rfl
   simp only[sX,sI,Vx_T]at cop cr cc
   simp-implicitDefEqProofs+decide only[go_sem,ofH]
   refine CallG.pureS _ Tryz.call89 cop (by simp only[List.all_cons,List.all_nil,noPtr,noPtrL,noPtrL_I,noPtrL_Op,Bool.and_true,Bool.and_self]) (by first|rfl|(simp only[go_sem];done)|(simp only[go_sem];rfl)) ?_
   apply run_sound 200
   simp-implicitDefEqProofs+decide only[go_sem,ofH,hlU]
   refine CallG.pool _ Tryz.call17 ce hbU (by rintro (_|_|_|_|_) hp<;>first|(cases hp;done)|simp-implicitDefEqProofs+decide only[go_sem,hlU]) ?_
   apply run_sound 200
   simp-implicitDefEqProofs+decide only[go_sem,ofH,hlU,de]
   refine CallG.P _ Tryz.call90 (c7) ?_
   simp-implicitDefEqProofs+decide only[go_sem,ofH,hlU]
   refine CallG.pool _ Tryz.call91 cr hbU (by rintro (_|_|_|_|_) hp<;>first|(cases hp;done)|simp-implicitDefEqProofs+decide only[go_sem,hlU]) ?_
   apply run_sound 200
   simp-implicitDefEqProofs+decide only[go_sem,ofH,hlU,hlU']
   refine CallG.PS _ Tryz.call67 (cc) ?_
   simp-implicitDefEqProofs+decide only[go_sem,ofH,hlU,hlU',hlZ,hnb,e1,e2]
   refine hJ (i+1) _ (by omega) (by omega) ?_
   rw[hs1]
   dsimp only
   refine Wk.boxes _ _ hbU' rfl rfl ?_ (by rintro (_|_|_|_|_) hp<;>first|(cases hp;done)|simp-implicitDefEqProofs+decide only[go_sem,hlU,hlU',hlZ]) ?_ ?_
   ·simp-implicitDefEqProofs+decide only[go_sem,hlU,hlU',hlZ,ofH,e1,e2,e3,e4]<;>first|rfl|exact⟨rfl,rfl⟩|exact⟨rfl,rfl,rfl⟩|exact⟨rfl,rfl,rfl,rfl⟩|skip
   ·simp-implicitDefEqProofs+decide only[go_sem,hw1]<;>first|rfl|skip
   ·simp-implicitDefEqProofs+decide only[go_sem]<;>first|rfl|skip
  ·have de:decide (t.e≠0)=true:=decide_eq_true he
   have hR2:=hRi he
   have hRe:¬R.2.e=0:=by rw[hR2];exact he
   rw[if_neg hRe,if_neg hRe,hR2]
   simp only[sX,sI,Vx_T]at cop
   simp-implicitDefEqProofs+decide only[go_sem,ofH]
   refine CallG.pureS _ Tryz.call89 cop (by simp only[List.all_cons,List.all_nil,noPtr,noPtrL,noPtrL_I,noPtrL_Op,Bool.and_true,Bool.and_self]) (by first|rfl|(simp only[go_sem];done)|(simp only[go_sem];rfl)) ?_
   apply run_sound 200
   simp-implicitDefEqProofs+decide only[go_sem,ofH,hlU]
   refine CallG.pool _ Tryz.call17 ce hbU (by rintro (_|_|_|_|_) hp<;>first|(cases hp;done)|simp-implicitDefEqProofs+decide only[go_sem,hlU]) ?_
   apply run_sound 200
   simp-implicitDefEqProofs+decide only[go_sem,ofH,hlU,de]
   exact endF.nil2 (.inr rfl) (by simp-implicitDefEqProofs+decide only[go_sem]) (by simp-implicitDefEqProofs+decide only[go_sem]) (by rintro (_|_|_|_|_) hp<;>first|(cases hp;done)|simp-implicitDefEqProofs+decide only[go_sem,hlU]) rfl
 ·obtain rfl:i=N:=by omega
  have ce:=hnX (f i).2
  have hbU:=hU (f i).2
  rw[hR]at ce hbU iv3⊢
  have hlU:∀d j,upd Z (.obj id) (some (bankE md (mtC id 4 s.met) R.2.k s.tie R.2.e)) (.loc d j)=none:=fun d j=>hbU _ rfl
  by_cases he:R.2.e=0
  ·have de:decide (R.2.e≠0)=false:=decide_eq_false (fun h=>h he)
   rw[if_pos he,if_pos he]
   have e1:(R.1.map Vx.T).length=i:=by rw[List.length_map,iv3]
   have e2:((List.replicate i (0:Int)).map I).length=i:=by rw[List.length_map,List.length_replicate]
   simp-implicitDefEqProofs+decide only[go_sem,hlU,ofH]
   refine CallG.pool _ Tryz.call17 ce hbU (by rintro (_|_|_|_|_) hp<;>first|(cases hp;done)|simp-implicitDefEqProofs+decide only[go_sem,hlU]) ?_
   apply run_sound 200
   simp-implicitDefEqProofs+decide only[go_sem,hlU,de]
   exact endF.row2 (.inr rfl) (by simp-implicitDefEqProofs+decide only[go_sem];rfl) (by simp-implicitDefEqProofs+decide only[go_sem,hlU];rfl) (by rw[e1]) rfl (by simp-implicitDefEqProofs+decide only[go_sem];rfl) (by simp-implicitDefEqProofs+decide only[go_sem,hlU];rfl) (by rw[e2]) rfl (by rintro (_|_|_|_|_) hp<;>first|(cases hp;done)|simp-implicitDefEqProofs+decide only[go_sem,hlU]) rfl
  ·have de:decide (R.2.e≠0)=true:=decide_eq_true he
   rw[if_neg he,if_neg he]
   simp-implicitDefEqProofs+decide only[go_sem,hlU,ofH]
   refine CallG.pool _ Tryz.call17 ce hbU (by rintro (_|_|_|_|_) hp<;>first|(cases hp;done)|simp-implicitDefEqProofs+decide only[go_sem,hlU]) ?_
   apply run_sound 200
   simp-implicitDefEqProofs+decide only[go_sem,hlU,de]
   exact endF.nil2 (.inr rfl) (by simp-implicitDefEqProofs+decide only[go_sem]) (by simp-implicitDefEqProofs+decide only[go_sem]) (by rintro (_|_|_|_|_) hp<;>first|(cases hp;done)|simp-implicitDefEqProofs+decide only[go_sem,hlU]) rfl
theorem pickS_b (op:Int) (s:Bs) (k x:List Vx):(pickS op s k x).met.length≤s.met.length+2∧(pickS op s k x).k≤s.k+1:=by
 have hl:∀(s:Bs) a b,(lessS s a b).met.length=s.met.length+1∧(lessS s a b).k=s.k:=fun s a b=>⟨by unfold lessS;simp,rfl⟩
 have hi:∀s:Bs,(incS s).met=s.met∧(incS s).k=s.k+1:=fun s=>⟨rfl,rfl⟩
 unfold pickS
 repeat' split
 all_goals simp only[hi,hl,(hi _).1]
 all_goals first|omega|(constructor<;>omega)
theorem pickV_g {md op:Int} {x:Atr} {ks xs:List Vx} (hxs:∀z∈xs,z.md=md∧z.B 9) (hks:∀z∈ks,z.md=md∧z.B 9) (hcm:cmpX op=true) (hl:(xs.length:Int)=manyX op) (hlk:ks.length=(knownL op x).length):(pickV op ks xs).1.md=md∧(pickV op ks xs).1.B 400:=by
 have hcm:=of_decide_eq_true hcm
 have m9:∀z:Vx,z.md=md∧z.B 9→z.md=md∧z.B 400:=fun z h=>⟨h.1,h.2.mono (by decide)⟩
 rcases hcm with rfl|rfl|rfl|rfl|rfl|rfl|rfl|rfl|rfl
 ·obtain⟨x0,rfl⟩:=list1 (α:=Vx) (l:=xs) (by have e:manyX 4=1:=(by decide);rw[e]at hl;omega)
  obtain⟨k0,rfl⟩:=list1 (α:=Vx) (l:=ks) (hlk.trans rfl)
  have gx0:=m9 _ (hxs x0 (by simp))
  have gk0:=m9 _ (hks k0 (by simp))
  have gn:(negV x0).md=md∧(negV x0).B 400:=⟨(negV_md x0).trans gx0.1,negV_B gx0.2⟩
  show(if lessV x0 k0=true then ((negV x0,1):Vx×Int) else (x0,0)).1.md=md∧(if lessV x0 k0=true then ((negV x0,1):Vx×Int) else (x0,0)).1.B 400
  repeat' split
  all_goals assumption
 ·obtain⟨x0,rfl⟩:=list1 (α:=Vx) (l:=xs) (by have e:manyX 5=1:=(by decide);rw[e]at hl;omega)
  obtain⟨k0,k1,k2,rfl⟩:=list3 (α:=Vx) (l:=ks) (hlk.trans rfl)
  have gx0:=m9 _ (hxs x0 (by simp))
  have gk0:=m9 _ (hks k0 (by simp))
  have gk1:=m9 _ (hks k1 (by simp))
  have gk2:=m9 _ (hks k2 (by simp))
  show(if lessV x0 k0=true then ((k2,1):Vx×Int) else if lessV k0 x0=true then (k1,2) else (k0,0)).1.md=md∧(if lessV x0 k0=true then ((k2,1):Vx×Int) else if lessV k0 x0=true then (k1,2) else (k0,0)).1.B 400
  repeat' split
  all_goals assumption
 ·obtain⟨x0,rfl⟩:=list1 (α:=Vx) (l:=xs) (by have e:manyX 6=1:=(by decide);rw[e]at hl;omega)
  obtain⟨k0,rfl⟩:=list1 (α:=Vx) (l:=ks) (hlk.trans rfl)
  have gx0:=m9 _ (hxs x0 (by simp))
  have gk0:=m9 _ (hks k0 (by simp))
  show(if lessV k0 x0=true then ((x0,1):Vx×Int) else (k0,0)).1.md=md∧(if lessV k0 x0=true then ((x0,1):Vx×Int) else (k0,0)).1.B 400
  repeat' split
  all_goals assumption
 ·obtain⟨x0,rfl⟩:=list1 (α:=Vx) (l:=xs) (by have e:manyX 15=1:=(by decide);rw[e]at hl;omega)
  obtain⟨k0,k1,rfl⟩:=list2 (α:=Vx) (l:=ks) (hlk.trans rfl)
  have gx0:=m9 _ (hxs x0 (by simp))
  have gk0:=m9 _ (hks k0 (by simp))
  have gk1:=m9 _ (hks k1 (by simp))
  show(if lessV x0 k0=true then ((k0,1):Vx×Int) else if lessV k1 x0=true then (k1,2) else (x0,0)).1.md=md∧(if lessV x0 k0=true then ((k0,1):Vx×Int) else if lessV k1 x0=true then (k1,2) else (x0,0)).1.B 400
  repeat' split
  all_goals assumption
 ·obtain⟨x0,rfl⟩:=list1 (α:=Vx) (l:=xs) (by have e:manyX 16=1:=(by decide);rw[e]at hl;omega)
  obtain⟨k0,k1,rfl⟩:=list2 (α:=Vx) (l:=ks) (hlk.trans rfl)
  have gx0:=m9 _ (hxs x0 (by simp))
  have gk0:=m9 _ (hks k0 (by simp))
  have gk1:=m9 _ (hks k1 (by simp))
  have gn:(mulV x0 k1).md=md∧(mulV x0 k1).B 400:=by
   have g:=mulE_g (md:=md) (a:=9) (b:=9) (s:=⟨0,0⟩) (x:=x0) (y:=k1) (fun _=>hxs x0 (by simp)) (fun _=>hks k1 (by simp))
   exact⟨(g.2.1 rfl).1,(g.2.1 rfl).2.mono (by decide)⟩
  show(if lessV x0 k0=true then ((mulV x0 k1,1):Vx×Int) else (x0,0)).1.md=md∧(if lessV x0 k0=true then ((mulV x0 k1,1):Vx×Int) else (x0,0)).1.B 400
  repeat' split
  all_goals assumption
 ·obtain⟨x0,x1,rfl⟩:=list2 (α:=Vx) (l:=xs) (by have e:manyX 21=2:=(by decide);rw[e]at hl;omega)
  have gx0:=m9 _ (hxs x0 (by simp))
  have gx1:=m9 _ (hxs x1 (by simp))
  show(if lessV x0 x1=true then ((x1,1):Vx×Int) else (x0,0)).1.md=md∧(if lessV x0 x1=true then ((x1,1):Vx×Int) else (x0,0)).1.B 400
  repeat' split
  all_goals assumption
 ·obtain⟨x0,x1,rfl⟩:=list2 (α:=Vx) (l:=xs) (by have e:manyX 22=2:=(by decide);rw[e]at hl;omega)
  have gx0:=m9 _ (hxs x0 (by simp))
  have gx1:=m9 _ (hxs x1 (by simp))
  show(if lessV x1 x0=true then ((x1,1):Vx×Int) else (x0,0)).1.md=md∧(if lessV x1 x0=true then ((x1,1):Vx×Int) else (x0,0)).1.B 400
  repeat' split
  all_goals assumption
 ·obtain⟨x0,x1,rfl⟩:=list2 (α:=Vx) (l:=xs) (by have e:manyX 23=2:=(by decide);rw[e]at hl;omega)
  obtain⟨k0,k1,rfl⟩:=list2 (α:=Vx) (l:=ks) (hlk.trans rfl)
  have gx0:=m9 _ (hxs x0 (by simp))
  have gx1:=m9 _ (hxs x1 (by simp))
  have gk0:=m9 _ (hks k0 (by simp))
  have gk1:=m9 _ (hks k1 (by simp))
  show(if lessV x0 x1=true then ((k1,1):Vx×Int) else (k0,0)).1.md=md∧(if lessV x0 x1=true then ((k1,1):Vx×Int) else (k0,0)).1.B 400
  repeat' split
  all_goals assumption
 ·obtain⟨x0,x1,x2,rfl⟩:=list3 (α:=Vx) (l:=xs) (by have e:manyX 24=3:=(by decide);rw[e]at hl;omega)
  obtain⟨k0,rfl⟩:=list1 (α:=Vx) (l:=ks) (hlk.trans rfl)
  have gx0:=m9 _ (hxs x0 (by simp))
  have gx1:=m9 _ (hxs x1 (by simp))
  have gx2:=m9 _ (hxs x2 (by simp))
  have gk0:=m9 _ (hks k0 (by simp))
  show(if lessV k0 x0=true then ((x1,1):Vx×Int) else (x2,0)).1.md=md∧(if lessV k0 x0=true then ((x1,1):Vx×Int) else (x2,0)).1.B 400
  repeat' split
  all_goals assumption
structure Cs where
 v:List Vx
 p:List Int
 s:Bs
def runC (op:Int) (ks:List Vx) (xs:Nat→List Vx) (s:Bs):Nat→Cs
 |0=>⟨[],[],s⟩
 |i+1=>⟨(runC op ks xs s i).v++[(pickV op ks (xs i)).1],(runC op ks xs s i).p++[(pickV op ks (xs i)).2],pickS op (runC op ks xs s i).s ks (xs i)⟩
def hC (Z:Heap) (M id:Nat) (md:Int) (op:Int) (ks:List Vx) (xs:Nat→List Vx) (s:Bs):Nat→Heap
 |0=>Z
 |i+1=>bkU (pkH (hC Z M id md op ks xs s i) (M+3*i) id ks (xs i)) id 4 (obG id md (runC op ks xs s (i+1)).s) (runC op ks xs s (i+1)).s.met
theorem runC_inv (op:Int) (ks:List Vx) (xs:Nat→List Vx) (s:Bs):∀i,(runC op ks xs s i).v.length=i∧(runC op ks xs s i).p.length=i∧(runC op ks xs s i).s.met.length≤s.met.length+2*i∧(runC op ks xs s i).s.k≤s.k+i
 |0=>⟨rfl,rfl,Nat.le_refl _,Nat.le_refl _⟩
 | i + 1 => by
   obtain⟨h1,h2,h3,h4⟩:=runC_inv op ks xs s i
   have hp:=pickS_b op (runC op ks xs s i).s ks (xs i)
   show(_++[_]).length=_∧(_++[_]).length=_∧_
   rw[List.length_append,List.length_append,h1,h2]
   exact⟨rfl,rfl,by show(pickS op _ ks (xs i)).met.length≤_;omega,by show(pickS op _ ks (xs i)).k≤_;omega⟩
theorem hC_inv {Z:Heap} {M id:Nat} {md op:Int} {ks:List Vx} {xs:Nat→List Vx} {s:Bs} (B:BkM Z id 4 (obG id md s) s.met) (hid:id<M) (hn:∀j,M≤j→Z (.obj j)=none):∀i,BkM (hC Z M id md op ks xs s i) id 4 (obG id md (runC op ks xs s i).s) (runC op ks xs s i).s.met∧(∀j,M+3*i≤j→hC Z M id md op ks xs s i (.obj j)=none)∧Keeps Z (hC Z M id md op ks xs s i)∧∀a,hC Z M id md op ks xs s i (.arg a)=Z (.arg a)
 |0=>⟨B,hn,Keeps.refl _,fun _=>rfl⟩
 | i + 1 => by
   obtain⟨h1,h2,h3,h4⟩:=hC_inv B hid hn i
   have hB2:=pkH_M (m:=M+3*i) (ks:=ks) (xs:=xs i) h1 (by omega)
   have harg:∀a,hC Z M id md op ks xs s (i+1) (.arg a)=Z (.arg a):=fun a=>by
    show bkU _ id 4 _ _ (.arg a)=_
    unfold bkU
    rw[upd_ne _ _ _ _ (fun e=>by cases e),upd_ne _ _ _ _ (fun e=>by cases e),pkH_ne (fun e=>by cases e) (fun e=>by cases e) (fun e=>by cases e)]
    exact h4 a
   refine⟨bkU_M hB2.hb,fun j hj=> ?_,⟨fun id' cs hc=> ?_,fun i' o hc=>⟨o,(harg i').trans hc,ArgStep.refl _⟩⟩,harg⟩
   ·show bkU _ id 4 _ _ (.obj j)=none
    unfold bkU
    rw[upd_ne _ _ _ _ (fun e=>by cases e),upd_ne _ _ _ _ (fun e=>by have:=Lab.obj.inj e;omega),pkH_ne (fun e=>by have:=Lab.obj.inj e;omega) (fun e=>by have:=Lab.obj.inj e;omega) (fun e=>by have:=Lab.obj.inj e;omega)]
    exact h2 j (by omega)
   ·obtain⟨c1,e1⟩:=h3.1 id' cs hc
    obtain⟨c2,e2⟩:=(pkH_keeps (h:=hC Z M id md op ks xs s i) (m:=M+3*i) (id:=id) (ks:=ks) (xs:=xs i)).1 id' c1 e1
    show ∃cs',bkU _ id 4 _ _ (.obj id')=some (.box cs')
    unfold bkU
    rw[upd_ne _ _ _ _ (fun e=>by cases e)]
    by_cases e:id'=id
    ·subst e;rw[upd_same];exact⟨_,rfl⟩
    ·rw[upd_ne _ _ _ _ (fun e'=>e (Lab.obj.inj e'))];exact⟨c2,e2⟩
end Go.Fm
