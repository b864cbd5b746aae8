/- Slopes: how great they may become. -/
import Derived.Test.YteodjhhobkcnjaaGreatXzD
import Derived.Test.YteodjhhobkcnjaaGreatXzC
import Derived.Test.YteodjhhobkcnjaaGreatBzA
import Derived.Test.YteodjhhobkcnjaaGreatLzA
set_option linter.unusedVariables false
set_option linter.unusedSimpArgs false
namespace Go.Fm
open Go.Proofs
set_option maxRecDepth 100000
attribute [local irreducible] tiOf
def Ex.okE (nx nk:Nat):Ex→Prop
 |.v=>True
 |.y=>True
 |.x i=>i<nx
 |.k i=>i<nk
 |.pow n=>0<nx∧0<nk∧n.natAbs≤10
 |.neg a=>a.okE nx nk
 |.add a b=>a.okE nx nk∧b.okE nx nk
 |.sub a b=>a.okE nx nk∧b.okE nx nk
 |.mul a b=>a.okE nx nk∧b.okE nx nk
 |.div a b=>a.okE nx nk∧b.okE nx nk
def Ex.bd:Ex→Nat
 |.v=>9
 |.y=>9
 |.x _=>9
 |.k _=>9
 |.pow _=>100
 |.neg a=>a.bd
 |.add a b=>a.bd+b.bd+1
 |.sub a b=>a.bd+b.bd+1
 |.mul a b=>a.bd+b.bd+1
 |.div a b=>a.bd+b.bd+1
theorem Gd_get {md:Int} {s:Es} {l:List Vx} (h:∀k∈l,Gd md s k) {i:Nat} (hi:i<l.length):Gd md s (l.getD i v0):=by
 obtain⟨x,hx⟩:=getI hi
 rw[List.getD_eq_getElem?_getD,hx]
 exact h x (List.mem_of_getElem? hx)
theorem ev_g {md:Int} {E:Ev} {s0:Es} (hv:Gd md s0 E.v) (hy:Gd md s0 E.y) (hx:∀k∈E.xs,Gd md s0 k) (hk:∀k∈E.ks,Gd md s0 k):∀(e:Ex) (s:Es),e.okE E.xs.length E.ks.length→(s.e=0→s0.e=0)→
  ((e.ev E s).s.e=0→s.e=0)∧((e.ev E s).s.e=0→(e.ev E s).v.md=md∧(e.ev E s).v.B e.bd)
 |.v,s,_,hs=>⟨id,fun h=>hv (hs h)⟩
 |.y,s,_,hs=>⟨id,fun h=>hy (hs h)⟩
 |.x i,s,h,hs=>⟨id,fun h'=>Gd_get hx h (hs h')⟩
 |.k i,s,h,hs=>⟨id,fun h'=>Gd_get hk h (hs h')⟩
 | .pow n, s, h, hs => by
   have g:=powE_g (md:=md) (s:=s) (x:=E.ks.getD 0 v0) (y:=E.xs.getD 0 v0) h.2.2 (fun e=>Gd_get hk h.2.1 (hs e)) (fun e=>Gd_get hx h.1 (hs e))
   exact⟨g.1,g.2.1⟩
 | .neg a, s, h, hs => by
   have ga:=ev_g hv hy hx hk a s h hs
   have g:=negE_g (md:=md) (a:=a.bd) (s:=(a.ev E s).s) (x:=(a.ev E s).v) ga.2
   exact⟨fun e=>ga.1 (g.1 e),g.2.1⟩
 | .add a b, s, h, hs => by
   have ga:=ev_g hv hy hx hk a s h.1 hs
   have gb:=ev_g hv hy hx hk b (a.ev E s).s h.2 (fun e=>hs (ga.1 e))
   have g:=addE_g (md:=md) (a:=a.bd) (b:=b.bd) (s:=(b.ev E (a.ev E s).s).s) (x:=(a.ev E s).v) (y:=(b.ev E (a.ev E s).s).v) (fun e=>ga.2 (gb.1 e)) gb.2
   exact⟨fun e=>ga.1 (gb.1 (g.1 e)),g.2.1⟩
 | .sub a b, s, h, hs => by
   have ga:=ev_g hv hy hx hk a s h.1 hs
   have gb:=ev_g hv hy hx hk b (a.ev E s).s h.2 (fun e=>hs (ga.1 e))
   have g:=subE_g (md:=md) (a:=a.bd) (b:=b.bd) (s:=(b.ev E (a.ev E s).s).s) (x:=(a.ev E s).v) (y:=(b.ev E (a.ev E s).s).v) (fun e=>ga.2 (gb.1 e)) gb.2
   exact⟨fun e=>ga.1 (gb.1 (g.1 e)),g.2.1⟩
 | .mul a b, s, h, hs => by
   have ga:=ev_g hv hy hx hk a s h.1 hs
   have gb:=ev_g hv hy hx hk b (a.ev E s).s h.2 (fun e=>hs (ga.1 e))
   have g:=mulE_g (md:=md) (a:=a.bd) (b:=b.bd) (s:=(b.ev E (a.ev E s).s).s) (x:=(a.ev E s).v) (y:=(b.ev E (a.ev E s).s).v) (fun e=>ga.2 (gb.1 e)) gb.2
   exact⟨fun e=>ga.1 (gb.1 (g.1 e)),g.2.1⟩
 | .div a b, s, h, hs => by
   have ga:=ev_g hv hy hx hk a s h.1 hs
   have gb:=ev_g hv hy hx hk b (a.ev E s).s h.2 (fun e=>hs (ga.1 e))
   have g:=divE_g (md:=md) (a:=a.bd) (b:=b.bd) (s:=(b.ev E (a.ev E s).s).s) (x:=(a.ev E s).v) (y:=(b.ev E (a.ev E s).s).v) (fun e=>ga.2 (gb.1 e)) gb.2
   exact⟨fun e=>ga.1 (gb.1 (g.1 e)),g.2.1⟩
theorem slope_wf {op which pick:Int} {nx nk:Nat} {x:Atr} (h:okS op which nx nk x):(slopeX op x.n which pick).2.okE nx nk∧(slopeX op x.n which pick).2.bd≤400:=by
 obtain⟨h1,h2,h3,h4,h5,h6,h7,h8⟩:=h
 have hop:1≤op∧op≤26:=by
  unfold isX at h1
  simpa using h1
 by_cases a1:op<17
 ·have hm:manyX op=1:=by unfold manyX;rw[if_neg (by omega),if_pos a1]
  rw[hm]at h3 h4
  have hk:op=10∨op=11∨op=13∨op=16→nk=1:=fun h=>h5.trans (asked_k h)
  have hc:op=1∨op=2∨op=3∨op=4∨op=6∨op=7∨op=8∨op=9∨op=10∨op=11∨op=12∨op=13∨op=14∨op=15∨op=16:=by omega
  rcases hc with rfl|rfl|rfl|rfl|rfl|rfl|rfl|rfl|rfl|rfl|rfl|rfl|rfl|rfl|rfl
  ·rw[show slopeX 1 x.n which pick=(true,(.neg .v)) by simp[slopeX]]
   exact⟨by simp only[Ex.okE,true_and,and_true]<;>omega,by simp only[Ex.bd]<;>omega⟩
  ·rw[show slopeX 2 x.n which pick=(true,(.neg (.mul .v (.mul .y .y)))) by simp[slopeX]]
   exact⟨by simp only[Ex.okE,true_and,and_true]<;>omega,by simp only[Ex.bd]<;>omega⟩
  ·rw[show slopeX 3 x.n which pick=(true,(.mul .v (.add (.x 0) (.x 0)))) by simp[slopeX]]
   exact⟨by simp only[Ex.okE,true_and,and_true]<;>omega,by simp only[Ex.bd]<;>omega⟩
  ·by_cases hp:pick=1
   ·rw[show slopeX 4 x.n which pick=(true,(.neg .v)) by simp[slopeX,hp]]
    exact⟨by simp only[Ex.okE,true_and,and_true]<;>omega,by simp only[Ex.bd]<;>omega⟩
   ·rw[show slopeX 4 x.n which pick=(true,.v) by simp[slopeX,hp]]
    exact⟨by simp only[Ex.okE,true_and,and_true]<;>omega,by simp only[Ex.bd]<;>omega⟩
  ·rw[show slopeX 6 x.n which pick=((decide (pick=1)),.v) by simp[slopeX]]
   exact⟨by simp only[Ex.okE,true_and,and_true]<;>omega,by simp only[Ex.bd]<;>omega⟩
  ·rw[show slopeX 7 x.n which pick=(true,(.mul .v .y)) by simp[slopeX]]
   exact⟨by simp only[Ex.okE,true_and,and_true]<;>omega,by simp only[Ex.bd]<;>omega⟩
  ·rw[show slopeX 8 x.n which pick=(true,(.div .v (.x 0))) by simp[slopeX]]
   exact⟨by simp only[Ex.okE,true_and,and_true]<;>omega,by simp only[Ex.bd]<;>omega⟩
  ·rw[show slopeX 9 x.n which pick=(true,(.div .v (.add .y .y))) by simp[slopeX]]
   exact⟨by simp only[Ex.okE,true_and,and_true]<;>omega,by simp only[Ex.bd]<;>omega⟩
  ·have hk2:=hk (by decide)
   rw[show slopeX 10 x.n which pick=(true,(.mul .v (.mul .y (.sub (.k 0) .y)))) by simp[slopeX]]
   exact⟨by simp only[Ex.okE,true_and,and_true]<;>omega,by simp only[Ex.bd]<;>omega⟩
  ·have hk2:=hk (by decide)
   rw[show slopeX 11 x.n which pick=(true,(.mul .v (.sub (.k 0) (.mul .y .y)))) by simp[slopeX]]
   exact⟨by simp only[Ex.okE,true_and,and_true]<;>omega,by simp only[Ex.bd]<;>omega⟩
  ·by_cases h0:x.n=0
   ·rw[show slopeX 12 x.n which pick=((decide (x.n=1)),.v) by simp[slopeX,h0]]
    exact⟨by simp only[Ex.okE,true_and,and_true]<;>omega,by simp only[Ex.bd]<;>omega⟩
   by_cases h1:x.n=1
   ·rw[show slopeX 12 x.n which pick=((decide (x.n=1)),.v) by simp[slopeX,h0,h1]]
    exact⟨by simp only[Ex.okE,true_and,and_true]<;>omega,by simp only[Ex.bd]<;>omega⟩
   ·have hk2:nk=2:=h5.trans (asked_12 h0 h1)
    have hf:=fair_n h6 rfl
    rw[show slopeX 12 x.n which pick=(true,(.mul .v (.mul (.k 1) (.pow (x.n-1))))) by simp[slopeX,h0,h1]]
    exact⟨by simp only[Ex.okE,true_and,and_true]<;>omega,by simp only[Ex.bd]<;>omega⟩
  ·have hk2:=hk (by decide)
   rw[show slopeX 13 x.n which pick=(true,(.mul .v (.k 0))) by simp[slopeX]]
   exact⟨by simp only[Ex.okE,true_and,and_true]<;>omega,by simp only[Ex.bd]<;>omega⟩
  ·rw[show slopeX 14 x.n which pick=(true,.v) by simp[slopeX]]
   exact⟨by simp only[Ex.okE,true_and,and_true]<;>omega,by simp only[Ex.bd]<;>omega⟩
  ·rw[show slopeX 15 x.n which pick=((decide (pick=0)),.v) by simp[slopeX]]
   exact⟨by simp only[Ex.okE,true_and,and_true]<;>omega,by simp only[Ex.bd]<;>omega⟩
  ·by_cases hp:pick=1
   ·have hk2:=hk (by decide)
    rw[show slopeX 16 x.n which pick=(true,(.mul .v (.k 0))) by simp[slopeX,hp]]
    exact⟨by simp only[Ex.okE,true_and,and_true]<;>omega,by simp only[Ex.bd]<;>omega⟩
   ·have hk2:=hk (by decide)
    rw[show slopeX 16 x.n which pick=(true,.v) by simp[slopeX,hp]]
    exact⟨by simp only[Ex.okE,true_and,and_true]<;>omega,by simp only[Ex.bd]<;>omega⟩
 by_cases a2:op<24
 ·have hm:manyX op=2:=by unfold manyX;rw[if_neg (by omega),if_neg a1,if_pos a2]
  rw[hm]at h3 h4
  have hc:op=17∨op=18∨op=19∨op=20∨op=21∨op=22:=by omega
  have hc2:which=0∨which=1:=by omega
  rcases hc with rfl|rfl|rfl|rfl|rfl|rfl
  ·rw[show slopeX 17 x.n which pick=(true,.v) by simp[slopeX]]
   exact⟨by simp only[Ex.okE,true_and,and_true]<;>omega,by simp only[Ex.bd]<;>omega⟩
  ·rcases hc2 with rfl|rfl
   ·rw[show slopeX 18 x.n 0 pick=(true,.v) by simp[slopeX]]
    exact⟨by simp only[Ex.okE,true_and,and_true]<;>omega,by simp only[Ex.bd]<;>omega⟩
   ·rw[show slopeX 18 x.n 1 pick=(true,(.neg .v)) by simp[slopeX]]
    exact⟨by simp only[Ex.okE,true_and,and_true]<;>omega,by simp only[Ex.bd]<;>omega⟩
  ·rcases hc2 with rfl|rfl
   ·rw[show slopeX 19 x.n 0 pick=(true,(.mul .v (.x 1))) by simp[slopeX]]
    exact⟨by simp only[Ex.okE,true_and,and_true]<;>omega,by simp only[Ex.bd]<;>omega⟩
   ·rw[show slopeX 19 x.n 1 pick=(true,(.mul .v (.x 0))) by simp[slopeX]]
    exact⟨by simp only[Ex.okE,true_and,and_true]<;>omega,by simp only[Ex.bd]<;>omega⟩
  ·rcases hc2 with rfl|rfl
   ·rw[show slopeX 20 x.n 0 pick=(true,(.div .v (.x 1))) by simp[slopeX]]
    exact⟨by simp only[Ex.okE,true_and,and_true]<;>omega,by simp only[Ex.bd]<;>omega⟩
   ·rw[show slopeX 20 x.n 1 pick=(true,(.neg (.div (.mul .v .y) (.x 1)))) by simp[slopeX]]
    exact⟨by simp only[Ex.okE,true_and,and_true]<;>omega,by simp only[Ex.bd]<;>omega⟩
  ·rw[show slopeX 21 x.n which pick=((decide (pick=which)),.v) by simp[slopeX]]
   exact⟨by simp only[Ex.okE,true_and,and_true]<;>omega,by simp only[Ex.bd]<;>omega⟩
  ·rw[show slopeX 22 x.n which pick=((decide (pick=which)),.v) by simp[slopeX]]
   exact⟨by simp only[Ex.okE,true_and,and_true]<;>omega,by simp only[Ex.bd]<;>omega⟩
 ·have hm:manyX op=3:=by unfold manyX;rw[if_neg (by omega),if_neg a1,if_neg a2]
  rw[hm]at h3 h4
  have hc:op=24∨op=25∨op=26:=by omega
  have hc2:which=0∨which=1∨which=2:=by omega
  rcases hc with rfl|rfl|rfl
  ·rcases hc2 with rfl|rfl|rfl
   ·rw[show slopeX 24 x.n 0 pick=(false,.v) by simp[slopeX]]
    exact⟨by simp only[Ex.okE,true_and,and_true]<;>omega,by simp only[Ex.bd]<;>omega⟩
   ·rw[show slopeX 24 x.n 1 pick=((decide (pick=1)),.v) by simp[slopeX]]
    exact⟨by simp only[Ex.okE,true_and,and_true]<;>omega,by simp only[Ex.bd]<;>omega⟩
   ·rw[show slopeX 24 x.n 2 pick=((decide (pick=0)),.v) by simp[slopeX]]
    exact⟨by simp only[Ex.okE,true_and,and_true]<;>omega,by simp only[Ex.bd]<;>omega⟩
  ·rcases hc2 with rfl|rfl|rfl
   ·rw[show slopeX 25 x.n 0 pick=(true,(.mul .v (.x 1))) by simp[slopeX]]
    exact⟨by simp only[Ex.okE,true_and,and_true]<;>omega,by simp only[Ex.bd]<;>omega⟩
   ·rw[show slopeX 25 x.n 1 pick=(true,(.mul .v (.x 0))) by simp[slopeX]]
    exact⟨by simp only[Ex.okE,true_and,and_true]<;>omega,by simp only[Ex.bd]<;>omega⟩
   ·rw[show slopeX 25 x.n 2 pick=(true,.v) by simp[slopeX]]
    exact⟨by simp only[Ex.okE,true_and,and_true]<;>omega,by simp only[Ex.bd]<;>omega⟩
  ·rcases hc2 with rfl|rfl|rfl
   ·rw[show slopeX 26 x.n 0 pick=(true,(.sub .v (.mul .v (.x 2)))) by simp[slopeX]]
    exact⟨by simp only[Ex.okE,true_and,and_true]<;>omega,by simp only[Ex.bd]<;>omega⟩
   ·rw[show slopeX 26 x.n 1 pick=(true,(.mul .v (.x 2))) by simp[slopeX]]
    exact⟨by simp only[Ex.okE,true_and,and_true]<;>omega,by simp only[Ex.bd]<;>omega⟩
   ·rw[show slopeX 26 x.n 2 pick=(true,(.mul .v (.sub (.x 1) (.x 0)))) by simp[slopeX]]
    exact⟨by simp only[Ex.okE,true_and,and_true]<;>omega,by simp only[Ex.bd]<;>omega⟩
def prT (op:Int) (x:Atr) (l:List Ag) (out:List Int):T:=.agg [.int .i64 op,.int .i64 x.n,.int .i64 x.a,.int .i64 x.b,.int .i64 x.c,.int .i64 x.p,.int .i64 x.q,.int .i64 x.r,.int .i64 x.s,.bool x.keep,sI x.list,sA l,sI out]
def plT (X:List Sc) (y:Sc) (pick which:Int) (v:Sc):T:=.agg [sS X,.bool y.x.neg,sW y.x.p,sW y.x.q,.int .u64 y.b,.int .i64 y.f,.int .i64 pick,.int .i64 which,.bool v.x.neg,sW v.x.p,sW v.x.q,.int .u64 v.b,.int .i64 v.f]
def allS (X:List Sc) (y v:Sc):List Sc:=X++[y,v]
theorem sc_all (X:List Sc):((X.map Sc.T).all fun x=>x.cells.length==5)=true:=by
 rw[List.all_eq_true]
 intro x hx
 obtain⟨s,_,rfl⟩:=List.mem_map.1 hx
 rfl
theorem allS_eq (X:List Sc) (y v:Sc):(allS X y v).map Sc.T=X.map Sc.T++[y.T,v.T]:=by unfold allS;rw[List.map_append];rfl
theorem allS_take (X:List Sc) (yn:Bool) (yp yq:List Nat) (yb:Nat) (yf:Int) (vn:Bool) (vp vq:List Nat) (vb:Nat) (vf:Int):List.take (X.length+(1+1)) (X.map Sc.T++[.agg [.bool yn,sW yp,sW yq,.int .u64 yb,.int .i64 yf],.agg [.bool vn,sW vp,sW vq,.int .u64 vb,.int .i64 vf]])=
  (allS X ⟨⟨yn,yp,yq⟩,yb,yf⟩ ⟨⟨vn,vp,vq⟩,vb,vf⟩).map Sc.T:=by
 rw[allS_eq,List.take_of_length_le (by rw[List.length_append,List.length_map];exact Nat.le_refl _)]
 rfl
set_option maxHeartbeats 2000000 in
theorem slopes_r (md op:Int) (x:Atr) (l:List Ag) (out:List Int) (X:List Sc) (y:Sc) (pick which:Int) (v:Sc) (hX:X.length<2000000000000) (h:(md≠0∧md≠1)∨5<X.length):
  Pure Tryz.prog 7 [.int .i64 md,prT op x l out,plT X y pick which v] [.t (.bool true)]:=by
 have cs:=same26_ok
 obtain⟨a1,a2,a3,a4,a5,a6,a7,a8,ak,al⟩:=x
 obtain⟨⟨yn,yp,yq⟩,yb,yf⟩:=y
 obtain⟨⟨vn,vp,vq⟩,vb,vf⟩:=v
 unfold prT plT
 refine Pure.I Tryz.func7 [6] ?_
 simp-implicitDefEqProofs+decide only[go_sem,sI,sA,sS]
 refine Goes.drawN mixed ?_
 have hA:=sc_all X
 have hB1:(X.length<big)=True:=eq_true (by show _<2199023255552;omega)
 have hB2:(X.length+2<big)=True:=eq_true (by show _<2199023255552;omega)
 simp-implicitDefEqProofs+decide only[go_sem,sI,sA,sS,hA,hB1,hB2]
 refine⟨.mk (by kernel_rfl),?_⟩
 refine Goes.wk (Wk.freeze 7 (t:=.slice ((allS X ⟨⟨yn,yp,yq⟩,yb,yf⟩ ⟨⟨vn,vp,vq⟩,vb,vf⟩).map Sc.T)) (ws:=[(.loc 17 0,.arr 5 (X.map Sc.T++[.agg [.bool yn,sW yp,sW yq,.int .u64 yb,.int .i64 yf],.agg [.bool vn,sW vp,sW vq,.int .u64 vb,.int .i64 vf]]) 2 (X.length+(1+1)))]) (acc:=[.loc 17 0]) (by simp-implicitDefEqProofs+decide only[go_sem,allS_take,List.length_map])) ?_
 apply run_sound 200
 rcases h with ⟨h0,h1⟩|h
 ·have d0:decide (md≠0)=true:=decide_eq_true h0
  have d1:decide (md≠1)=true:=decide_eq_true h1
  simp-implicitDefEqProofs+decide only[go_sem,d0,d1]
  refine CallG.P _ Tryz.call38 (cs) ?_
  refine Sm ?_
  exact endF.V1 6 (.bool true)
 ·have d5:decide ((5:Int)<(X.length:Int))=true:=decide_eq_true (by omega)
  by_cases h0:md=0
  ·have d0:decide (md≠0)=false:=decide_eq_false (fun g=>g h0)
   simp-implicitDefEqProofs+decide only[go_sem,d0,d5,List.length_map]
   refine CallG.P _ Tryz.call38 (cs) ?_
   refine Sm ?_
   exact endF.V1 6 (.bool true)
  ·have d0:decide (md≠0)=true:=decide_eq_true h0
   by_cases h1:md=1
   ·have d1:decide (md≠1)=false:=decide_eq_false (fun g=>g h1)
    simp-implicitDefEqProofs+decide only[go_sem,d0,d1,d5,List.length_map]
    refine CallG.P _ Tryz.call38 (cs) ?_
    refine Sm ?_
    exact endF.V1 6 (.bool true)
   ·have d1:decide (md≠1)=true:=decide_eq_true h1
    simp-implicitDefEqProofs+decide only[go_sem,d0,d1]
    refine CallG.P _ Tryz.call38 (cs) ?_
    refine Sm ?_
    exact endF.V1 6 (.bool true)
set_option maxHeartbeats 2000000 in
theorem slopes_w (md op:Int) (x:Atr) (l:List Ag) (out:List Int) (X:List Sc) (y:Sc) (pick which:Int) (v:Sc) (hmd:md=0∨md=1) (hX:X.length≤5) (h:wideB 9 (allS X y v)=true):
  Pure Tryz.prog 7 [.int .i64 md,prT op x l out,plT X y pick which v] [.t (.bool true)]:=by
 have cs:=same26_ok
 have cw:=wide_ok (allS X y v) 9 (by decide) (by show(X++[y,v]).length<_;rw[List.length_append];simp;omega)
 rw[h]at cw
 simp only[sS]at cw
 obtain⟨a1,a2,a3,a4,a5,a6,a7,a8,ak,al⟩:=x
 obtain⟨⟨yn,yp,yq⟩,yb,yf⟩:=y
 obtain⟨⟨vn,vp,vq⟩,vb,vf⟩:=v
 unfold prT plT
 refine Pure.I Tryz.func7 [6] ?_
 simp-implicitDefEqProofs+decide only[go_sem,sI,sA,sS]
 refine Goes.drawN mixed ?_
 have hA:=sc_all X
 have hB1:(X.length<big)=True:=eq_true (by show _<2199023255552;omega)
 have hB2:(X.length+2<big)=True:=eq_true (by show _<2199023255552;omega)
 simp-implicitDefEqProofs+decide only[go_sem,sI,sA,sS,hA,hB1,hB2]
 refine⟨.mk (by kernel_rfl),?_⟩
 refine Goes.wk (Wk.freeze 7 (t:=.slice ((allS X ⟨⟨yn,yp,yq⟩,yb,yf⟩ ⟨⟨vn,vp,vq⟩,vb,vf⟩).map Sc.T)) (ws:=[(.loc 17 0,.arr 5 (X.map Sc.T++[.agg [.bool yn,sW yp,sW yq,.int .u64 yb,.int .i64 yf],.agg [.bool vn,sW vp,sW vq,.int .u64 vb,.int .i64 vf]]) 2 (X.length+(1+1)))]) (acc:=[.loc 17 0]) (by simp-implicitDefEqProofs+decide only[go_sem,allS_take,List.length_map])) ?_
 apply run_sound 200
 have d5:decide ((5:Int)<(X.length:Int))=false:=decide_eq_false (by omega)
 rcases hmd with rfl|rfl
 all_goals
  simp-implicitDefEqProofs+decide only[go_sem,d5,List.length_map]
  refine CallG.P _ Tryz.call41 (cw) ?_
  refine Sm ?_
  refine CallG.P _ Tryz.call38 (cs) ?_
  refine Sm ?_
  exact endF.V1 6 (.bool true)
set_option maxHeartbeats 2000000 in
theorem slopes_v (md op:Int) (x:Atr) (l:List Ag) (out:List Int) (X:List Sc) (y:Sc) (pick which:Int) (v:Sc) (hmd:md=0∨md=1) (hX:X.length≤5) (hw:wideB 9 (allS X y v)=false) (hs:∀s∈allS X y v,SOK s 1000∧s.b<18446744073709551616)
  (h:(allS X y v).all (rightX md)=false):Pure Tryz.prog 7 [.int .i64 md,prT op x l out,plT X y pick which v] [.t (.bool true)]:=by
 have cs:=same26_ok
 have hl:(allS X y v).length<1000000000:=by show(X++[y,v]).length<_;rw[List.length_append];simp;omega
 have cw:=wide_ok (allS X y v) 9 (by decide) hl
 have cv:=rValsX_ok md hmd (allS X y v) hl hs
 rw[hw]at cw
 rw[h]at cv
 simp only[sS]at cw cv
 obtain⟨a1,a2,a3,a4,a5,a6,a7,a8,ak,al⟩:=x
 obtain⟨⟨yn,yp,yq⟩,yb,yf⟩:=y
 obtain⟨⟨vn,vp,vq⟩,vb,vf⟩:=v
 unfold prT plT
 refine Pure.I Tryz.func7 [6] ?_
 simp-implicitDefEqProofs+decide only[go_sem,sI,sA,sS]
 refine Goes.drawN mixed ?_
 have hA:=sc_all X
 have hB1:(X.length<big)=True:=eq_true (by show _<2199023255552;omega)
 have hB2:(X.length+2<big)=True:=eq_true (by show _<2199023255552;omega)
 simp-implicitDefEqProofs+decide only[go_sem,sI,sA,sS,hA,hB1,hB2]
 refine⟨.mk (by kernel_rfl),?_⟩
 refine Goes.wk (Wk.freeze 7 (t:=.slice ((allS X ⟨⟨yn,yp,yq⟩,yb,yf⟩ ⟨⟨vn,vp,vq⟩,vb,vf⟩).map Sc.T)) (ws:=[(.loc 17 0,.arr 5 (X.map Sc.T++[.agg [.bool yn,sW yp,sW yq,.int .u64 yb,.int .i64 yf],.agg [.bool vn,sW vp,sW vq,.int .u64 vb,.int .i64 vf]]) 2 (X.length+(1+1)))]) (acc:=[.loc 17 0]) (by simp-implicitDefEqProofs+decide only[go_sem,allS_take,List.length_map])) ?_
 apply run_sound 200
 have d5:decide ((5:Int)<(X.length:Int))=false:=decide_eq_false (by omega)
 rcases hmd with rfl|rfl
 all_goals
  simp-implicitDefEqProofs+decide only[go_sem,d5,List.length_map]
  refine CallG.P _ Tryz.call41 (cw) ?_
  refine Sm ?_
  refine CallG.P _ Tryz.call42 (cv) ?_
  refine Sm ?_
  refine CallG.P _ Tryz.call38 (cs) ?_
  refine Sm ?_
  exact endF.V1 6 (.bool true)
def okG (op which:Int) (nx:Nat) (x:Atr):Prop:=1≤op∧op≤26∧0≤which∧which<manyX op∧(nx:Int)=manyX op∧fairX op x=true
theorem slopeAll (h:Heap) (m id:Nat) (md:Int) (mc:AV) (tie:Bool) (s:Es) (v y:Vx) (xs ks:List Vx) (op which pick:Int) (x:Atr) (hb:∀l,Lab.pool l=false→h l=none) (hk:h (.obj id)=some (bankE md mc s.k tie s.e)) (hkb:s.k<100000) (hv0:v.B 9) (hv:Gd md s v) (hy:Gd md s y) (hxs:∀k∈xs,Gd md s k) (hks:∀k∈ks,Gd md s k) (hlk:ks.length=(askedL op x).length):
  ∃(r:Vx) (b:Bool) (t:Es),Ret Tryz.prog 44 [.ptr id,.int .i64 op,x.T,knT ks,.int .i64 which,v.T,atT xs y pick] h m [.t r.T,.t (.bool b)] (upd h (.obj id) (some (bankE md mc t.k tie t.e))) m∧
   (okG op which xs.length x→b=(slopeX op x.n which pick).1∧t=((slopeX op x.n which pick).2.ev ⟨v,y,xs,ks⟩ s).s∧(b=true→r=((slopeX op x.n which pick).2.ev ⟨v,y,xs,ks⟩ s).v∧(t.e=0→r.B 400)))∧(¬okG op which xs.length x→b=false):=by
 by_cases hok:okS op which xs.length ks.length x
 ·refine⟨_,_,_,slopeE_ok h m id md mc tie s v y xs ks op which pick x hb hk hkb hv0 hv hy hxs hks hok,fun _=>⟨rfl,rfl,fun _=>⟨rfl,fun he=> ?_⟩⟩,fun hn=> ?_⟩
  ·obtain⟨w1,w2⟩:=slope_wf (pick:=pick) hok
   have g:=ev_g (E:=⟨v,y,xs,ks⟩) (s0:=s) hv hy hxs hks _ s w1 (fun e=>e)
   exact(g.2 he).2.mono w2
  ·refine absurd ?_ hn
   obtain⟨h1,h2,h3,h4,h5,h6,h7,h8⟩:=hok
   unfold isX at h1
   simp only[Bool.and_eq_true,decide_eq_true_eq]at h1
   exact⟨h1.1,h1.2,h2,h3,h4,h6⟩
 ·refine⟨v0,false,s,by rw[upd_id hk];exact slopeNo h m id v y xs ks op which pick x hb hok,fun hg=> ?_,fun _=>rfl⟩
  obtain⟨g1,g2,g3,g4,g5,g6⟩:=hg
  have h57:op=5∨op=23:=by
   by_cases a:op=5
   ·exact .inl a
   by_cases a':op=23
   ·exact .inr a'
   refine absurd ⟨?_,g3,g4,g5,hlk,g6,a,a'⟩ hok
   unfold isX
   rw[decide_eq_true g1,decide_eq_true g2];rfl
  rcases h57 with rfl|rfl
  ·exact⟨rfl,rfl,fun e=>(by cases e)⟩
  ·exact⟨rfl,rfl,fun e=>(by cases e)⟩
theorem plT_X (xs:List Vx) (y v:Vx) (pick which:Int):plT (xs.map Vx.sc) y.sc pick which v.sc=.agg [.slice (xs.map Vx.T),.bool y.neg,sW y.p,sW y.qq,.int .u64 y.bits,.int .i64 0,.int .i64 pick,.int .i64 which,.bool v.neg,sW v.p,sW v.qq,.int .u64 v.bits,.int .i64 0]:=by
 unfold plT
 rw[←sX_S]
 cases y<;>cases v<;>rfl
theorem allX_take (xs:List Vx) (y v:Vx):List.take (xs.length+(1+1)) (xs.map Vx.T++[.agg [.bool y.neg,sW y.p,sW y.qq,.int .u64 y.bits,.int .i64 0],.agg [.bool v.neg,sW v.p,sW v.qq,.int .u64 v.bits,.int .i64 0]])=(xs++[y,v]).map Vx.T:=by
 rw[List.map_append,List.take_of_length_le (by rw[List.length_append,List.length_map];exact Nat.le_refl _),←Vx_T,←Vx_T]
 rfl
theorem vx_all (X:List Vx):((X.map Vx.T).all fun x=>x.cells.length==5)=true:=by
 rw[List.all_eq_true]
 intro x hx
 obtain⟨s,_,rfl⟩:=List.mem_map.1 hx
 rw[Vx_T];rfl
theorem allS_X (xs:List Vx) (y v:Vx):sS (allS (xs.map Vx.sc) y.sc v.sc)=.slice ((xs++[y,v]).map Vx.T):=by
 have:=sX_S (xs++[y,v])
 unfold sX at this
 rw[this,List.map_append];rfl
theorem md_or {md:Int} {G A:Prop} (hmd:md=0∨md=1) (h0:decide (md≠0)=false→G→A) (h1:decide (md≠0)=true→decide (md≠1)=false→G→A) (h:G):A:=by
 rcases hmd with rfl|rfl
 ·exact h0 rfl h
 ·exact h1 rfl rfl h
set_option maxHeartbeats 8000000 in
theorem slopes_yes (md op : Int) (x : Atr) (l : List Ag) (out : List Int) (xs : List Vx) (y v : Vx) (pick which : Int) (hmd : md = 0 ∨ md = 1) (hX : xs.length ≤ 5) (hq : ∀ k ∈ xs ++ [y, v], k.md = md ∧ k.B 9)
  (hn: -9223372036854775808≤x.n∧x.n≤9223372036854775807) (hp: -9223372036854775808≤x.p∧x.p≤9223372036854775807) (hqq: -9223372036854775808≤x.q∧x.q≤9223372036854775807)
  (cw:Pure Tryz.prog 41 [.slice ((xs++[y,v]).map Vx.T),.int .i64 (9:Nat)] [.t (.bool false)]) (cv:Pure Tryz.prog 42 [.int .i64 md,.slice ((xs++[y,v]).map Vx.T)] [.t (.bool true)]):
  Pure Tryz.prog 7 [.int .i64 md,prT op x l out,plT (xs.map Vx.sc) y.sc pick which v.sc] [.t (.bool true)]:=by
 have cs:=same26_ok
 have hb0:∀l,Lab.pool l=false→(fun _=>none:Heap) l=none:=fun _ _=>rfl
 have hin:=asked_in op x hn hp hqq
 have n1:=bankNewG_ok (fun _=>none) 0 md hmd hb0 rfl
 have hqv:=hq v (by simp)
 have hqy:=hq y (by simp)
 have hqx:∀k∈xs,k.md=md∧k.B 9:=fun k hk=>hq k (by simp[hk])
 clear hq
 obtain⟨H1,hH1⟩:∃H1:Heap,upd (fun _=>none) (.obj 0) (some (bankG md .nil 0 false))=H1:=⟨_,rfl⟩
 rw[hH1]at n1
 have hb1:∀l,Lab.pool l=false→H1 l=none:=by rw[←hH1];exact upd_hb hb0
 have k1:H1 (.obj 0)=some (bankE md .nil (⟨0,0⟩:Es).k false (⟨0,0⟩:Es).e):=by rw[←hH1,upd_same];rfl
 have cr:=ready_ok H1 1 0 md op hmd .nil false ⟨0,0⟩ x hb1 k1 hin
 have gr:=readyE_g hmd (s:=⟨0,0⟩) x op hin (askedL op x).length (Nat.le_refl _)
 have hrl:=readyE_len md ⟨0,0⟩ (askedL op x) (askedL op x).length
 have cr2:=fun(H:Heap) (m:Nat) (hb:∀l,Lab.pool l=false→H l=none) (hk:H (.obj 1)=some (bankF md .nil (⟨0,0⟩:Es).k false (⟨0,0⟩:Es).e))=>rready_ok H m 1 md op hmd .nil false ⟨0,0⟩ x hb hk hin
 generalize hK:readyE md ⟨0,0⟩ (askedL op x) (askedL op x).length=K at*
 obtain⟨ks,s⟩:=K
 dsimp only at cr gr hrl cr2
 obtain⟨_,gk,gs⟩:=gr
 have hsk:s.k<100000:=by rw[gs];decide
 obtain⟨H2,hH2⟩:∃H2:Heap,upd H1 (.obj 0) (some (bankE md .nil s.k false s.e))=H2:=⟨_,rfl⟩
 rw[hH2]at cr
 have hb2:∀l,Lab.pool l=false→H2 l=none:=by rw[←hH2];exact upd_hb hb1
 have k2:H2 (.obj 0)=some (bankE md .nil s.k false s.e):=by rw[←hH2,upd_same]
 obtain⟨r,b,t,csl,sy,sn⟩:=slopeAll H2 1 0 md .nil false s v y xs ks op which pick x hb2 k2 hsk hqv.2 (fun _=>hqv) (fun _=>hqy) (fun k hk _=>hqx k hk) gk hrl
 obtain⟨H3,hH3⟩:∃H3:Heap,upd H2 (.obj 0) (some (bankE md .nil t.k false t.e))=H3:=⟨_,rfl⟩
 rw[hH3]at csl
 have hb3:∀l,Lab.pool l=false→H3 l=none:=by rw[←hH3];exact upd_hb hb2
 have k3:H3 (.obj 0)=some (bankE md .nil t.k false t.e):=by rw[←hH3,upd_same]
 have f31:H3 (.obj 1)=none:=by rw[←hH3,upd_ne _ _ _ _ (fun e=>by cases e),←hH2,upd_ne _ _ _ _ (fun e=>by cases e),←hH1];rfl
 have hb4:∀l,Lab.pool l=false→upd H3 (.obj 1) (some (bankF md .nil 0 false 0)) l=none:=upd_hb hb3
 have rr:=cr2 _ 2 hb4 (upd_same _ _ _)
 obtain⟨H5,hH5⟩:∃H5:Heap,upd (upd H3 (.obj 1) (some (bankF md .nil 0 false 0))) (.obj 1) (some (bankF md .nil s.k false s.e))=H5:=⟨_,rfl⟩
 rw[hH5]at rr
 have hb5:∀l,Lab.pool l=false→H5 l=none:=by rw[←hH5];exact upd_hb hb4
 have k5:H5 (.obj 1)=some (bankF md .nil s.k false s.e):=by rw[←hH5,upd_same]
 have k50:H5 (.obj 0)=some (bankE md .nil t.k false t.e):=by rw[←hH5,upd_ne _ _ _ _ (fun e=>by cases e),upd_ne _ _ _ _ (fun e=>by cases e)];exact k3
 have cm:=many_ok op
 have cf:=lfair_ok op x
 clear cr2 k1
 have hl1:∀e j,H1 (.loc e j)=none:=fun e j=>hb1 _ rfl
 have hl2:∀e j,H2 (.loc e j)=none:=fun e j=>hb2 _ rfl
 have hl3:∀e j,H3 (.loc e j)=none:=fun e j=>hb3 _ rfl
 have hl5:∀e j,H5 (.loc e j)=none:=fun e j=>hb5 _ rfl
 obtain⟨a1,a2,a3,a4,a5,a6,a7,a8,ak,al⟩:=x
 simp only[Atr.T,sX,sI,knT,atT,Vx_T,I]at cr csl rr cf
 rw[plT_X]
 unfold prT
 have hT:=allX_take xs y v
 generalize xs++[y,v]=A at hT cw cv
 have hA:=vx_all xs
 have hB1:(xs.length<big)=True:=eq_true (by show _<2199023255552;omega)
 have hB2:(xs.length+2<big)=True:=eq_true (by show _<2199023255552;omega)
 have d5:decide ((5:Int)<(xs.length:Int))=false:=decide_eq_false (by omega)
 by_cases hg:okG op which xs.length ⟨a1,a2,a3,a4,a5,a6,a7,a8,ak,al⟩
 ·obtain⟨e1,e2,e3⟩:=sy hg
  obtain⟨g1,g2,g3,g4,g5,g6⟩:=hg
  have rs:=rslG H5 2 1 md .nil false s v y xs ks op which pick ⟨a1,a2,a3,a4,a5,a6,a7,a8,ak,al⟩ hb5 k5 hsk (fun _=>hqv) (fun _=>hqy) (fun k hk _=>hqx k hk) gk ⟨g1,g2⟩ g5 hrl ⟨g3,g4⟩ g6
  rw[←e2,←e1]at rs
  have hr':b=true→refV ⟨v,y,xs,ks⟩ s (slopeX op (⟨a1,a2,a3,a4,a5,a6,a7,a8,ak,al⟩:Atr).n which pick)=r:=fun hbt=>by
   unfold refV
   rw[if_pos (e1▸hbt)]
   exact(e3 hbt).1.symm
  generalize refV ⟨v,y,xs,ks⟩ s (slopeX op (⟨a1,a2,a3,a4,a5,a6,a7,a8,ak,al⟩:Atr).n which pick)=r' at rs hr'
  have e3:b=true→t.e=0→r.B 400:=fun hbt=>(e3 hbt).2
  obtain⟨H6,hH6⟩:∃H6:Heap,upd H5 (.obj 1) (some (bankF md .nil t.k false t.e))=H6:=⟨_,rfl⟩
  rw[hH6]at rs
  have hb6:∀l,Lab.pool l=false→H6 l=none:=by rw[←hH6];exact upd_hb hb5
  have k61:H6 (.obj 1)=some (bankF md .nil t.k false t.e):=by rw[←hH6,upd_same]
  have k60:H6 (.obj 0)=some (bankE md .nil t.k false t.e):=by rw[←hH6,upd_ne _ _ _ _ (fun e=>by cases e)];exact k50
  have hl6:∀e j,H6 (.loc e j)=none:=fun e j=>hb6 _ rfl
  unfold bankF at k61
  have ce:=errE_ok H6 2 0 t.k md t.e .nil false hb6 k60
  have co:=opsE_ok H6 2 0 t.k md t.e .nil false hb6 k60
  have d1:decide (manyX op=0)=false:=decide_eq_false (by omega)
  have d2:decide (which<0)=false:=decide_eq_false (by omega)
  have d3:decide (manyX op≤which)=false:=decide_eq_false (by omega)
  have d4:decide ((xs.length:Int)≠manyX op)=false:=decide_eq_false (fun h=>h g5)
  simp only[Atr.T,sX,sI,atT,Vx_T,I]at rs
  rw[g6]at cf
  refine Pure.drop (h':=H6) (m':=2) ?_ rfl
  refine Ret.intro Tryz.func7 rfl (rt:=[6]) rfl (by simp[Tryz.ntmps7]) (by decide) (sites:=fun d=>d==12) (by assumption) (Keeps.none _) ?_
  apply run_sound 200
  simp-implicitDefEqProofs+decide only[go_sem,sI,sA]
  refine Goes.drawN mixed ?_
  simp-implicitDefEqProofs+decide only[go_sem,sI,sA,hA,hB1,hB2]
  refine⟨.mk (by kernel_rfl),?_⟩
  refine Goes.wk (Wk.freeze 7 (t:=.slice (A.map Vx.T)) (ws:=[(.loc 17 0,.arr 5 (xs.map Vx.T++[.agg [.bool y.neg,sW y.p,sW y.qq,.int .u64 y.bits,.int .i64 0],.agg [.bool v.neg,sW v.p,sW v.qq,.int .u64 v.bits,.int .i64 0]]) 2 (xs.length+(1+1)))]) (acc:=[.loc 17 0]) (by simp-implicitDefEqProofs+decide only[go_sem,hT,List.length_map])) ?_
  apply run_sound 200
  apply md_or hmd
  ·intro d0 hmain
   simp-implicitDefEqProofs+decide only[go_sem,d0,d5,List.length_map]
   refine CallG.P _ Tryz.call41 (cw) ?_
   refine Sm ?_
   refine CallG.P _ Tryz.call42 (cv) ?_
   refine Sm ?_
   refine CallG.pool _ Tryz.call11 n1 hb0 (by rintro (_|_|_|_|_) hp<;>first|(cases hp;done)|simp-implicitDefEqProofs+decide only[go_sem]) ?_
   refine Goes.wk (show Wk _ _ ⟨ofL [(0,.t (.int .i64 md)),(4,.bp (.loc 4 0) 0),(5,.bp (.loc 5 0) 0),(54,.t (.ptr 0))],ofH H1 [(.loc 4 0,.box [.t (.int .i64 op),.t (.int .i64 a1),.t (.int .i64 a2),.t (.int .i64 a3),.t (.int .i64 a4),.t (.int .i64 a5),.t (.int .i64 a6),.t (.int .i64 a7),.t (.int .i64 a8),.t (.bool ak),.t (.slice (al.map I)),.t (.slice (l.map Ag.T)),.t (.slice (out.map I))]),(.loc 5 0,.box [.t (.slice (xs.map Vx.T)),.t (.bool y.neg),.t (sW y.p),.t (sW y.qq),.t (.int .u64 y.bits),.t (.int .i64 0),.t (.int .i64 pick),.t (.int .i64 which),.t (.bool v.neg),.t (sW v.p),.t (sW v.qq),.t (.int .u64 v.bits),.t (.int .i64 0)])],1⟩ from Wk.boxes _ _ hb1 rfl rfl ?_ ?_ ?_ ?_) ?_
   ·simp-implicitDefEqProofs+decide only[go_sem,sI,sA]<;>first|rfl|exact⟨rfl,rfl⟩
   ·exact(by rintro (_|_|_|_|_) hp<;>first|(cases hp;done)|simp-implicitDefEqProofs+decide only[go_sem,hl1])
   ·simp-implicitDefEqProofs+decide only[go_sem,sI,sA]<;>first|rfl|skip
   ·simp-implicitDefEqProofs+decide only[go_sem]
   exact hmain
  ·intro d0 d1 hmain
   simp-implicitDefEqProofs+decide only[go_sem,d0,d1,d5,List.length_map]
   refine CallG.P _ Tryz.call41 (cw) ?_
   refine Sm ?_
   refine CallG.P _ Tryz.call42 (cv) ?_
   refine Sm ?_
   refine CallG.pool _ Tryz.call11 n1 hb0 (by rintro (_|_|_|_|_) hp<;>first|(cases hp;done)|simp-implicitDefEqProofs+decide only[go_sem]) ?_
   refine Goes.wk (show Wk _ _ ⟨ofL [(0,.t (.int .i64 md)),(4,.bp (.loc 4 0) 0),(5,.bp (.loc 5 0) 0),(54,.t (.ptr 0))],ofH H1 [(.loc 4 0,.box [.t (.int .i64 op),.t (.int .i64 a1),.t (.int .i64 a2),.t (.int .i64 a3),.t (.int .i64 a4),.t (.int .i64 a5),.t (.int .i64 a6),.t (.int .i64 a7),.t (.int .i64 a8),.t (.bool ak),.t (.slice (al.map I)),.t (.slice (l.map Ag.T)),.t (.slice (out.map I))]),(.loc 5 0,.box [.t (.slice (xs.map Vx.T)),.t (.bool y.neg),.t (sW y.p),.t (sW y.qq),.t (.int .u64 y.bits),.t (.int .i64 0),.t (.int .i64 pick),.t (.int .i64 which),.t (.bool v.neg),.t (sW v.p),.t (sW v.qq),.t (.int .u64 v.bits),.t (.int .i64 0)])],1⟩ from Wk.boxes _ _ hb1 rfl rfl ?_ ?_ ?_ ?_) ?_
   ·simp-implicitDefEqProofs+decide only[go_sem,sI,sA]<;>first|rfl|exact⟨rfl,rfl⟩
   ·exact(by rintro (_|_|_|_|_) hp<;>first|(cases hp;done)|simp-implicitDefEqProofs+decide only[go_sem,hl1])
   ·simp-implicitDefEqProofs+decide only[go_sem,sI,sA]<;>first|rfl|skip
   ·simp-implicitDefEqProofs+decide only[go_sem]
   exact hmain
  apply run_sound 200
  simp-implicitDefEqProofs+decide only[go_sem,hl1,hl2,hl3,hl5]
  refine CallG.pool _ Tryz.call43 cr hb1 (by rintro (_|_|_|_|_) hp<;>first|(cases hp;done)|simp-implicitDefEqProofs+decide only[go_sem,hl1]) ?_
  apply run_sound 200
  simp-implicitDefEqProofs+decide only[go_sem,hl1,hl2,hl3,hl5]
  refine CallG.pool _ Tryz.call44 csl hb2 (by rintro (_|_|_|_|_) hp<;>first|(cases hp;done)|simp-implicitDefEqProofs+decide only[go_sem,hl1,hl2]) ?_
  apply run_sound 200
  simp-implicitDefEqProofs+decide only[go_sem,hl1,hl2,hl3,hl5,f31]
  refine CallG.pool _ Tryz.call45 rr hb4 (by rintro (_|_|_|_|_) hp<;>first|(cases hp;done)|simp-implicitDefEqProofs+decide only[go_sem,bankF,hl1,hl2,hl3]) ?_
  apply run_sound 200
  simp-implicitDefEqProofs+decide only[go_sem,hl1,hl2,hl3,hl5]
  refine CallG.pure _ Tryz.call46 cm (by first|rfl|(simp only[go_sem];done)|(simp only[go_sem];rfl)) (by first|rfl|(simp only[go_sem];done)|(simp only[go_sem];rfl)) ?_
  refine Goes.wk (show Wk _ _ ⟨ofL [(4,.bp (.loc 4 0) 0),(5,.bp (.loc 5 0) 0),(8,.t (.ptr 0)),(10,.bp (.loc 10 0) 0),(11,.t (.bool b)),(12,.bp (.obj 1) 0),(13,.t (.slice (ks.map Vx.T))),(86,.t (.int .i64 (manyX op)))],
      ofH H5 [(.loc 4 0,.box [.t (.int .i64 op),.t (.int .i64 a1),.t (.int .i64 a2),.t (.int .i64 a3),.t (.int .i64 a4),.t (.int .i64 a5),.t (.int .i64 a6),.t (.int .i64 a7),.t (.int .i64 a8),.t (.bool ak),.t (.slice (al.map I)),.t (.slice (l.map Ag.T)),.t (.slice (out.map I))]),(.loc 5 0,.box [.t (.slice (xs.map Vx.T)),.t (.bool y.neg),.t (sW y.p),.t (sW y.qq),.t (.int .u64 y.bits),.t (.int .i64 0),.t (.int .i64 pick),.t (.int .i64 which),.t (.bool v.neg),.t (sW v.p),.t (sW v.qq),.t (.int .u64 v.bits),.t (.int .i64 0)]),(.loc 10 0,.box [.t (.bool r.neg),.t (sW r.p),.t (sW r.qq),.t (.int .u64 r.bits),.t (.int .i64 0)])],2⟩ from Wk.boxes _ _ hb5 rfl rfl ?_ ?_ ?_ ?_) ?_
  ·simp-implicitDefEqProofs+decide only[go_sem,sI,sA,hl1,hl2,hl3,hl5]<;>first|rfl|exact⟨rfl,rfl⟩
  ·rw[←hH5];exact(by rintro (_|_|_|_|_) hp<;>first|(cases hp;done)|simp-implicitDefEqProofs+decide only[go_sem,hl1,hl2,hl3,bankF])
  ·simp-implicitDefEqProofs+decide only[go_sem,sI,sA]<;>first|rfl|skip
  ·simp-implicitDefEqProofs+decide only[go_sem]
  apply run_sound 200
  simp-implicitDefEqProofs+decide only[go_sem,hl5]
  simp-implicitDefEqProofs+decide only[go_sem,d1,d2,d3,d4,hl5,List.length_map]
  refine CallG.P _ Tryz.call47 (cf) ?_
  simp-implicitDefEqProofs+decide only[go_sem,hl5]
  refine CallG.pool _ Tryz.call48 rs hb5 (by rintro (_|_|_|_|_) hp<;>first|(cases hp;done)|simp-implicitDefEqProofs+decide only[go_sem,hl5]) ?_
  refine Goes.wk (show Wk _ _ ⟨ofL [(8,.t (.ptr 0)),(10,.bp (.loc 10 0) 0),(11,.t (.bool b)),(12,.bp (.obj 1) 0),(141,.tup [.t (.agg [.bool r'.neg,sW r'.p,sW r'.qq,.int .u64 r'.bits,.int .i64 0]),.t (.bool b)])],
      ofH H6 [(.loc 10 0,.box [.t (.bool r.neg),.t (sW r.p),.t (sW r.qq),.t (.int .u64 r.bits),.t (.int .i64 0)])],2⟩ from Wk.boxes _ _ hb6 rfl rfl ?_ ?_ ?_ ?_) ?_
  ·simp-implicitDefEqProofs+decide only[go_sem,hl5]<;>first|rfl|exact⟨rfl,rfl⟩
  ·rw[←hH6];exact(by rintro (_|_|_|_|_) hp<;>first|(cases hp;done)|simp-implicitDefEqProofs+decide only[go_sem,hl5,bankF])
  ·simp-implicitDefEqProofs+decide only[go_sem]<;>first|rfl|skip
  ·simp-implicitDefEqProofs+decide only[go_sem]
  apply run_sound 200
  simp-implicitDefEqProofs+decide only[go_sem,hl6,k61]
  by_cases he:t.e=0
  ·have de:decide (t.e≠0)=false:=decide_eq_false (fun h=>h he)
   have de2:decide (t.e=0)=true:=decide_eq_true he
   simp-implicitDefEqProofs+decide only[go_sem,de,hl6,k61]
   refine Goes.wk (show Wk _ _ ⟨ofL [(8,.t (.ptr 0)),(10,.bp (.loc 10 0) 0),(11,.t (.bool b)),(12,.bp (.obj 1) 0),(15,.bp (.loc 15 0) 0),(16,.t (.bool b))],
       ofH H6 [(.loc 10 0,.box [.t (.bool r.neg),.t (sW r.p),.t (sW r.qq),.t (.int .u64 r.bits),.t (.int .i64 0)]),(.loc 15 0,.box [.t (.bool r'.neg),.t (sW r'.p),.t (sW r'.qq),.t (.int .u64 r'.bits),.t (.int .i64 0)])],2⟩ from Wk.boxes _ _ hb6 rfl rfl ?_ ?_ ?_ ?_) ?_
   ·simp-implicitDefEqProofs+decide only[go_sem,hl6]<;>first|rfl|exact⟨rfl,rfl⟩
   ·exact(by rintro (_|_|_|_|_) hp<;>first|(cases hp;done)|simp-implicitDefEqProofs+decide only[go_sem,hl6])
   ·simp-implicitDefEqProofs+decide only[go_sem]<;>first|rfl|skip
   ·simp-implicitDefEqProofs+decide only[go_sem]
   have hb:=hb6
   refine Goes.dP ?_
   simp-implicitDefEqProofs+decide only[go_sem,hl6,ofH]
   refine CallD.look _ Tryz.call17 ce rfl hb6 (by rintro (_|_|_|_|_) hp<;>first|(cases hp;done)|simp-implicitDefEqProofs+decide only[go_sem,hl6]) ?_
   cases b with
   | false =>
     simp-implicitDefEqProofs+decide only[go_sem,de2,hl6,k61,ofH]
     refine CallD.look _ Tryz.call16 co rfl hb6 (by rintro (_|_|_|_|_) hp<;>first|(cases hp;done)|simp-implicitDefEqProofs+decide only[go_sem,hl6]) ?_
     simp-implicitDefEqProofs+decide only[go_sem,hl6,k61,ofH]
     refine CallD.P _ Tryz.call38 cs ?_
     refine Sm ?_
     refine⟨.mk (by kernel_rfl),?_⟩
     apply run_sound 200
     refine Sm ?_
     exact endF.vals [(6,.bool true)] (.inr rfl) (vals_t (by first|rfl|(simp-implicitDefEqProofs+decide only[go_sem];done)|(simp-implicitDefEqProofs+decide only[go_sem];rfl)) rfl vals_nil) (by rintro (_|_|_|_|_) hp<;>first|(cases hp;done)|simp-implicitDefEqProofs+decide only[go_sem,hl6]) rfl
   | true =>
     rw[hr' rfl]
     have cme:=rSameX2_ok r (e3 rfl he) (by decide)
     simp only[Vx_T]at cme
     simp-implicitDefEqProofs+decide only[go_sem,de2,hl6,k61,ofH]
     refine CallD.P _ Tryz.call27 cme ?_
     simp-implicitDefEqProofs+decide only[go_sem,hl6,k61,ofH]
     refine CallD.look _ Tryz.call16 co rfl hb6 (by rintro (_|_|_|_|_) hp<;>first|(cases hp;done)|simp-implicitDefEqProofs+decide only[go_sem,hl6]) ?_
     simp-implicitDefEqProofs+decide only[go_sem,hl6,k61,ofH]
     refine CallD.P _ Tryz.call38 cs ?_
     refine Sm ?_
     refine⟨.mk (by kernel_rfl),?_⟩
     apply run_sound 200
     refine Sm ?_
     exact endF.vals [(6,.bool true)] (.inr rfl) (vals_t (by first|rfl|(simp-implicitDefEqProofs+decide only[go_sem];done)|(simp-implicitDefEqProofs+decide only[go_sem];rfl)) rfl vals_nil) (by rintro (_|_|_|_|_) hp<;>first|(cases hp;done)|simp-implicitDefEqProofs+decide only[go_sem,hl6]) rfl
  ·have de:decide (t.e≠0)=true:=decide_eq_true he
   simp-implicitDefEqProofs+decide only[go_sem,de,hl6,k61]
   refine Goes.wk (show Wk _ _ ⟨ofL [(8,.t (.ptr 0)),(12,.bp (.obj 1) 0)],ofH H6 [],2⟩ from Wk.boxes _ _ hb6 rfl rfl ?_ ?_ ?_ ?_) ?_
   ·simp-implicitDefEqProofs+decide only[go_sem,hl6]<;>first|rfl|exact⟨rfl,rfl⟩
   ·exact(by rintro (_|_|_|_|_) hp<;>first|(cases hp;done)|simp-implicitDefEqProofs+decide only[go_sem,hl6])
   ·simp-implicitDefEqProofs+decide only[go_sem]<;>first|rfl|skip
   ·simp-implicitDefEqProofs+decide only[go_sem]
   have hb:=hb6
   refine Goes.dP ?_
   simp-implicitDefEqProofs+decide only[go_sem,hl6,ofH]
   refine CallD.look _ Tryz.call17 ce rfl hb6 (by rintro (_|_|_|_|_) hp<;>first|(cases hp;done)|simp-implicitDefEqProofs+decide only[go_sem,hl6]) ?_
   simp-implicitDefEqProofs+decide only[go_sem,hl6,k61,ofH]
   refine CallD.P _ Tryz.call38 cs ?_
   refine Sm ?_
   refine⟨.mk (by kernel_rfl),?_⟩
   apply run_sound 200
   refine Sm ?_
   exact endF.vals [(6,.bool true)] (.inr rfl) (vals_t (by first|rfl|(simp-implicitDefEqProofs+decide only[go_sem];done)|(simp-implicitDefEqProofs+decide only[go_sem];rfl)) rfl vals_nil) (by rintro (_|_|_|_|_) hp<;>first|(cases hp;done)|simp-implicitDefEqProofs+decide only[go_sem,hl6]) rfl
 ·have hbF := sn hg
  refine Pure.drop (h':=H5) (m':=2) ?_ rfl
  refine Ret.intro Tryz.func7 rfl (rt:=[6]) rfl (by simp[Tryz.ntmps7]) (by decide) (sites:=fun d=>d==12) (by assumption) (Keeps.none _) ?_
  apply run_sound 200
  simp-implicitDefEqProofs+decide only[go_sem,sI,sA]
  refine Goes.drawN mixed ?_
  simp-implicitDefEqProofs+decide only[go_sem,sI,sA,hA,hB1,hB2]
  refine⟨.mk (by kernel_rfl),?_⟩
  refine Goes.wk (Wk.freeze 7 (t:=.slice (A.map Vx.T)) (ws:=[(.loc 17 0,.arr 5 (xs.map Vx.T++[.agg [.bool y.neg,sW y.p,sW y.qq,.int .u64 y.bits,.int .i64 0],.agg [.bool v.neg,sW v.p,sW v.qq,.int .u64 v.bits,.int .i64 0]]) 2 (xs.length+(1+1)))]) (acc:=[.loc 17 0]) (by simp-implicitDefEqProofs+decide only[go_sem,hT,List.length_map])) ?_
  apply run_sound 200
  apply md_or hmd
  ·intro d0 hmain
   simp-implicitDefEqProofs+decide only[go_sem,d0,d5,List.length_map]
   refine CallG.P _ Tryz.call41 (cw) ?_
   refine Sm ?_
   refine CallG.P _ Tryz.call42 (cv) ?_
   refine Sm ?_
   refine CallG.pool _ Tryz.call11 n1 hb0 (by rintro (_|_|_|_|_) hp<;>first|(cases hp;done)|simp-implicitDefEqProofs+decide only[go_sem]) ?_
   refine Goes.wk (show Wk _ _ ⟨ofL [(0,.t (.int .i64 md)),(4,.bp (.loc 4 0) 0),(5,.bp (.loc 5 0) 0),(54,.t (.ptr 0))],ofH H1 [(.loc 4 0,.box [.t (.int .i64 op),.t (.int .i64 a1),.t (.int .i64 a2),.t (.int .i64 a3),.t (.int .i64 a4),.t (.int .i64 a5),.t (.int .i64 a6),.t (.int .i64 a7),.t (.int .i64 a8),.t (.bool ak),.t (.slice (al.map I)),.t (.slice (l.map Ag.T)),.t (.slice (out.map I))]),(.loc 5 0,.box [.t (.slice (xs.map Vx.T)),.t (.bool y.neg),.t (sW y.p),.t (sW y.qq),.t (.int .u64 y.bits),.t (.int .i64 0),.t (.int .i64 pick),.t (.int .i64 which),.t (.bool v.neg),.t (sW v.p),.t (sW v.qq),.t (.int .u64 v.bits),.t (.int .i64 0)])],1⟩ from Wk.boxes _ _ hb1 rfl rfl ?_ ?_ ?_ ?_) ?_
   ·simp-implicitDefEqProofs+decide only[go_sem,sI,sA]<;>first|rfl|exact⟨rfl,rfl⟩
   ·exact(by rintro (_|_|_|_|_) hp<;>first|(cases hp;done)|simp-implicitDefEqProofs+decide only[go_sem,hl1])
   ·simp-implicitDefEqProofs+decide only[go_sem,sI,sA]<;>first|rfl|skip
   ·simp-implicitDefEqProofs+decide only[go_sem]
   exact hmain
  ·intro d0 d1 hmain
   simp-implicitDefEqProofs+decide only[go_sem,d0,d1,d5,List.length_map]
   refine CallG.P _ Tryz.call41 (cw) ?_
   refine Sm ?_
   refine CallG.P _ Tryz.call42 (cv) ?_
   refine Sm ?_
   refine CallG.pool _ Tryz.call11 n1 hb0 (by rintro (_|_|_|_|_) hp<;>first|(cases hp;done)|simp-implicitDefEqProofs+decide only[go_sem]) ?_
   refine Goes.wk (show Wk _ _ ⟨ofL [(0,.t (.int .i64 md)),(4,.bp (.loc 4 0) 0),(5,.bp (.loc 5 0) 0),(54,.t (.ptr 0))],ofH H1 [(.loc 4 0,.box [.t (.int .i64 op),.t (.int .i64 a1),.t (.int .i64 a2),.t (.int .i64 a3),.t (.int .i64 a4),.t (.int .i64 a5),.t (.int .i64 a6),.t (.int .i64 a7),.t (.int .i64 a8),.t (.bool ak),.t (.slice (al.map I)),.t (.slice (l.map Ag.T)),.t (.slice (out.map I))]),(.loc 5 0,.box [.t (.slice (xs.map Vx.T)),.t (.bool y.neg),.t (sW y.p),.t (sW y.qq),.t (.int .u64 y.bits),.t (.int .i64 0),.t (.int .i64 pick),.t (.int .i64 which),.t (.bool v.neg),.t (sW v.p),.t (sW v.qq),.t (.int .u64 v.bits),.t (.int .i64 0)])],1⟩ from Wk.boxes _ _ hb1 rfl rfl ?_ ?_ ?_ ?_) ?_
   ·simp-implicitDefEqProofs+decide only[go_sem,sI,sA]<;>first|rfl|exact⟨rfl,rfl⟩
   ·exact(by rintro (_|_|_|_|_) hp<;>first|(cases hp;done)|simp-implicitDefEqProofs+decide only[go_sem,hl1])
   ·simp-implicitDefEqProofs+decide only[go_sem,sI,sA]<;>first|rfl|skip
   ·simp-implicitDefEqProofs+decide only[go_sem]
   exact hmain
  apply run_sound 200
  simp-implicitDefEqProofs+decide only[go_sem,hl1,hl2,hl3,hl5]
  refine CallG.pool _ Tryz.call43 cr hb1 (by rintro (_|_|_|_|_) hp<;>first|(cases hp;done)|simp-implicitDefEqProofs+decide only[go_sem,hl1]) ?_
  apply run_sound 200
  simp-implicitDefEqProofs+decide only[go_sem,hl1,hl2,hl3,hl5]
  refine CallG.pool _ Tryz.call44 csl hb2 (by rintro (_|_|_|_|_) hp<;>first|(cases hp;done)|simp-implicitDefEqProofs+decide only[go_sem,hl1,hl2]) ?_
  apply run_sound 200
  simp-implicitDefEqProofs+decide only[go_sem,hl1,hl2,hl3,hl5,f31]
  refine CallG.pool _ Tryz.call45 rr hb4 (by rintro (_|_|_|_|_) hp<;>first|(cases hp;done)|simp-implicitDefEqProofs+decide only[go_sem,bankF,hl1,hl2,hl3]) ?_
  apply run_sound 200
  simp-implicitDefEqProofs+decide only[go_sem,hl1,hl2,hl3,hl5]
  refine CallG.pure _ Tryz.call46 cm (by first|rfl|(simp only[go_sem];done)|(simp only[go_sem];rfl)) (by first|rfl|(simp only[go_sem];done)|(simp only[go_sem];rfl)) ?_
  refine Goes.wk (show Wk _ _ ⟨ofL [(4,.bp (.loc 4 0) 0),(5,.bp (.loc 5 0) 0),(8,.t (.ptr 0)),(10,.bp (.loc 10 0) 0),(11,.t (.bool b)),(12,.bp (.obj 1) 0),(13,.t (.slice (ks.map Vx.T))),(86,.t (.int .i64 (manyX op)))],
      ofH H5 [(.loc 4 0,.box [.t (.int .i64 op),.t (.int .i64 a1),.t (.int .i64 a2),.t (.int .i64 a3),.t (.int .i64 a4),.t (.int .i64 a5),.t (.int .i64 a6),.t (.int .i64 a7),.t (.int .i64 a8),.t (.bool ak),.t (.slice (al.map I)),.t (.slice (l.map Ag.T)),.t (.slice (out.map I))]),(.loc 5 0,.box [.t (.slice (xs.map Vx.T)),.t (.bool y.neg),.t (sW y.p),.t (sW y.qq),.t (.int .u64 y.bits),.t (.int .i64 0),.t (.int .i64 pick),.t (.int .i64 which),.t (.bool v.neg),.t (sW v.p),.t (sW v.qq),.t (.int .u64 v.bits),.t (.int .i64 0)]),(.loc 10 0,.box [.t (.bool r.neg),.t (sW r.p),.t (sW r.qq),.t (.int .u64 r.bits),.t (.int .i64 0)])],2⟩ from Wk.boxes _ _ hb5 rfl rfl ?_ ?_ ?_ ?_) ?_
  ·simp-implicitDefEqProofs+decide only[go_sem,sI,sA,hl1,hl2,hl3,hl5]<;>first|rfl|exact⟨rfl,rfl⟩
  ·rw[←hH5];exact(by rintro (_|_|_|_|_) hp<;>first|(cases hp;done)|simp-implicitDefEqProofs+decide only[go_sem,hl1,hl2,hl3,bankF])
  ·simp-implicitDefEqProofs+decide only[go_sem,sI,sA]<;>first|rfl|skip
  ·simp-implicitDefEqProofs+decide only[go_sem]
  apply run_sound 200
  simp-implicitDefEqProofs+decide only[go_sem,hl5]
  by_cases h1:manyX op=0
  ·have d1:decide (manyX op=0)=true:=decide_eq_true h1
   simp-implicitDefEqProofs+decide only[go_sem,d1,hbF]
   refine CallG.P _ Tryz.call38 (cs) ?_
   refine Sm ?_
   exact endF.vals [(6,.bool true)] (.inr rfl) (vals_t (by first|rfl|(simp-implicitDefEqProofs+decide only[go_sem];done)|(simp-implicitDefEqProofs+decide only[go_sem];rfl)) rfl vals_nil) (by rintro (_|_|_|_|_) hp<;>first|(cases hp;done)|simp-implicitDefEqProofs+decide only[go_sem,hl5]) rfl
  have d1:decide (manyX op=0)=false:=decide_eq_false h1
  by_cases h2:which<0
  ·have d2:decide (which<0)=true:=decide_eq_true h2
   simp-implicitDefEqProofs+decide only[go_sem,d1,d2,hl5,hbF]
   refine CallG.P _ Tryz.call38 (cs) ?_
   refine Sm ?_
   exact endF.vals [(6,.bool true)] (.inr rfl) (vals_t (by first|rfl|(simp-implicitDefEqProofs+decide only[go_sem];done)|(simp-implicitDefEqProofs+decide only[go_sem];rfl)) rfl vals_nil) (by rintro (_|_|_|_|_) hp<;>first|(cases hp;done)|simp-implicitDefEqProofs+decide only[go_sem,hl5]) rfl
  have d2:decide (which<0)=false:=decide_eq_false h2
  by_cases h3:manyX op≤which
  ·have d3:decide (manyX op≤which)=true:=decide_eq_true h3
   simp-implicitDefEqProofs+decide only[go_sem,d1,d2,d3,hl5,hbF]
   refine CallG.P _ Tryz.call38 (cs) ?_
   refine Sm ?_
   exact endF.vals [(6,.bool true)] (.inr rfl) (vals_t (by first|rfl|(simp-implicitDefEqProofs+decide only[go_sem];done)|(simp-implicitDefEqProofs+decide only[go_sem];rfl)) rfl vals_nil) (by rintro (_|_|_|_|_) hp<;>first|(cases hp;done)|simp-implicitDefEqProofs+decide only[go_sem,hl5]) rfl
  have d3:decide (manyX op≤which)=false:=decide_eq_false h3
  by_cases h4:(xs.length:Int)=manyX op
  ·have d4 : decide ((xs.length : Int) ≠ manyX op) = false := decide_eq_false (fun h => h h4)
   have h5 : fairX op ⟨a1, a2, a3, a4, a5, a6, a7, a8, ak, al⟩ = false := by
    cases hf:fairX op ⟨a1,a2,a3,a4,a5,a6,a7,a8,ak,al⟩ with
    |false=>rfl
    | true =>
      have hop:1≤op∧op≤26:=by
       by_cases h:1≤op∧op≤26
       ·exact h
       ·refine absurd ?_ h1
        unfold manyX
        rw[if_pos (by omega)]
      exact absurd ⟨hop.1,hop.2,by omega,by omega,h4,hf⟩ hg
   rw[h5]at cf
   simp-implicitDefEqProofs+decide only[go_sem,d1,d2,d3,d4,hl5,List.length_map]
   refine CallG.P _ Tryz.call47 (cf) ?_
   simp-implicitDefEqProofs+decide only[go_sem,hbF]
   refine CallG.P _ Tryz.call38 (cs) ?_
   refine Sm ?_
   exact endF.vals [(6,.bool true)] (.inr rfl) (vals_t (by first|rfl|(simp-implicitDefEqProofs+decide only[go_sem];done)|(simp-implicitDefEqProofs+decide only[go_sem];rfl)) rfl vals_nil) (by rintro (_|_|_|_|_) hp<;>first|(cases hp;done)|simp-implicitDefEqProofs+decide only[go_sem,hl5]) rfl
  ·have d4:decide ((xs.length:Int)≠manyX op)=true:=decide_eq_true h4
   simp-implicitDefEqProofs+decide only[go_sem,d1,d2,d3,d4,hl5,hbF,List.length_map]
   refine CallG.P _ Tryz.call38 (cs) ?_
   refine Sm ?_
   exact endF.vals [(6,.bool true)] (.inr rfl) (vals_t (by first|rfl|(simp-implicitDefEqProofs+decide only[go_sem];done)|(simp-implicitDefEqProofs+decide only[go_sem];rfl)) rfl vals_nil) (by rintro (_|_|_|_|_) hp<;>first|(cases hp;done)|simp-implicitDefEqProofs+decide only[go_sem,hl5]) rfl
theorem slopes_ok (md op:Int) (x:Atr) (l:List Ag) (out:List Int) (X:List Sc) (y:Sc) (pick which:Int) (v:Sc) (hX:X.length<2000000000000) (hs:∀s∈allS X y v,ScW s∧s.b<18446744073709551616)
  (hn: -9223372036854775808≤x.n∧x.n≤9223372036854775807) (hp: -9223372036854775808≤x.p∧x.p≤9223372036854775807) (hqq: -9223372036854775808≤x.q∧x.q≤9223372036854775807):
  Pure Tryz.prog 7 [.int .i64 md,prT op x l out,plT X y pick which v] [.t (.bool true)]:=by
 by_cases hmd:md=0∨md=1
 case neg=>exact slopes_r md op x l out X y pick which v hX (.inl (by omega))
 by_cases h5:X.length≤5
 case neg=>exact slopes_r md op x l out X y pick which v hX (.inr (by omega))
 cases hw:wideB 9 (allS X y v) with
 |true=>exact slopes_w md op x l out X y pick which v hmd h5 hw
 | false =>
   have hso:∀s∈allS X y v,SOK s 1000∧s.b<18446744073709551616:=fun s h=>by
    have:=wide_SOK hw (fun s h=>(hs s h).1) s h
    exact⟨⟨this.p,this.q,by have:=this.lp;omega,by have:=this.lq;omega⟩,(hs s h).2⟩
   cases ha:(allS X y v).all (rightX md) with
   |false=>exact slopes_v md op x l out X y pick which v hmd h5 hw hso ha
   | true =>
     obtain⟨zs,hz,hq⟩:=rightNumX hmd (a:=⟨[],allS X y v⟩) (fun s h=>(hs s h).1) (fun s h=>(hs s h).2) ha hw
     have hz:X++[y,v]=zs.map Vx.sc:=hz
     obtain⟨xs,r,h1,h2,h3⟩:=List.map_eq_append_iff.1 hz.symm
     obtain⟨y',v',rfl⟩:∃y' v',r=[y',v']:=by
      match r,h3 with
      |[a,b],_=>exact⟨a,b,rfl⟩
     simp only[List.map_cons,List.map_nil,List.cons.injEq,and_true]at h3
     obtain⟨e1,e2⟩:=h3
     subst h1 h2 e1 e2
     have hl:(allS (xs.map Vx.sc) y'.sc v'.sc).length<1000000000:=by show(_++[_,_]).length<_;rw[List.length_append];simp;simp at h5;omega
     have cw:=wide_ok (allS (xs.map Vx.sc) y'.sc v'.sc) 9 (by decide) hl
     have cv:=rValsX_ok md hmd (allS (xs.map Vx.sc) y'.sc v'.sc) hl hso
     rw[hw,allS_X]at cw
     rw[ha,allS_X]at cv
     exact slopes_yes md op x l out xs y' v' pick which hmd (by simpa using h5) hq hn hp hqq cw cv
theorem dat_i2 {n:Nat} {a:T} (h:Typed Tryz.prog (n+1) 3 [a]):∃z:Int,(-9223372036854775808≤z∧z≤9223372036854775807)∧a=.int .i64 z:=dat_int (dat1 (n:=n+1) (t:=3) (a:=a) (by simp[mkT,Tryz.underlying3]) h)
theorem dat_attr {n:Nat} {a0 a1 a2 a3 a4 a5 a6 a7 a8 a9:T} (h:Typed Tryz.prog (n+3) 44 [a0,a1,a2,a3,a4,a5,a6,a7,a8,a9]):∃x:Atr,((-9223372036854775808≤x.n∧x.n≤9223372036854775807)∧(-9223372036854775808≤x.p∧x.p≤9223372036854775807)∧(-9223372036854775808≤x.q∧x.q≤9223372036854775807)∧(-9223372036854775808≤x.r∧x.r≤9223372036854775807)∧ -9223372036854775808≤x.s∧x.s≤9223372036854775807)∧
  a0=.int .i64 x.n∧a1=.int .i64 x.a∧a2=.int .i64 x.b∧a3=.int .i64 x.c∧a4=.int .i64 x.p∧a5=.int .i64 x.q∧a6=.int .i64 x.r∧a7=.int .i64 x.s∧a8=.bool x.keep∧a9=sI x.list:=by
 simp only[Typed,Tryz.underlying44]at h
 obtain⟨_,hf⟩:=h
 simp only[List.forall_mem_cons]at hf
 obtain⟨h0,h1,h2,h3,h4,h5,h6,h7,h8,h9,_⟩:=hf
 have c1:(Tryz.prog).cellsOf 3=1:=by kernel_rfl
 have c2:(Tryz.prog).cellsOf 4=1:=by kernel_rfl
 have c3:(Tryz.prog).cellsOf 22=1:=by kernel_rfl
 rw[c1]at h0 h1 h2 h3 h4 h5 h6 h7
 rw[c2]at h8
 rw[c3]at h9
 obtain⟨z0,r0,e0⟩:=dat_i2 (n:=n+1) (a:=a0) h0
 obtain⟨z1,_,e1⟩:=dat_i2 (n:=n+1) (a:=a1) h1
 obtain⟨z2,_,e2⟩:=dat_i2 (n:=n+1) (a:=a2) h2
 obtain⟨z3,_,e3⟩:=dat_i2 (n:=n+1) (a:=a3) h3
 obtain⟨z4,r4,e4⟩:=dat_i2 (n:=n+1) (a:=a4) h4
 obtain⟨z5,r5,e5⟩:=dat_i2 (n:=n+1) (a:=a5) h5
 obtain⟨z6,r6,e6⟩:=dat_i2 (n:=n+1) (a:=a6) h6
 obtain⟨z7,r7,e7⟩:=dat_i2 (n:=n+1) (a:=a7) h7
 obtain⟨k,e8⟩:=Dat.bool Tryz.underlying4 (dat1 (n:=n+2) (t:=4) (a:=a8) (by simp[mkT,Tryz.underlying4]) h8)
 obtain⟨l,_,e9⟩:=dat_ints (dat1 (n:=n+2) (t:=22) (a:=a9) (by simp[mkT,Tryz.underlying22]) h9)
 exact⟨⟨z0,z1,z2,z3,z4,z5,z6,z7,k,l⟩,⟨r0,r4,r5,r6,r7⟩,e0,e1,e2,e3,e4,e5,e6,e7,e8,e9⟩
theorem dat_prim {n:Nat} {x:T} (h:Dat Tryz.prog (n+8) 55 x):∃(op:Int) (a:Atr) (l:List Ag) (out:List Int),((l.length<9000000000000000000∧∀a∈l,∀s∈a.v,ScW s∧s.b<18446744073709551616)∧
    (-9223372036854775808≤a.n∧a.n≤9223372036854775807)∧(-9223372036854775808≤a.p∧a.p≤9223372036854775807)∧(-9223372036854775808≤a.q∧a.q≤9223372036854775807)∧(-9223372036854775808≤a.r∧a.r≤9223372036854775807)∧ -9223372036854775808≤a.s∧a.s≤9223372036854775807)∧x=prT op a l out:=by
 obtain⟨ts,h,rfl⟩:=h
 unfold Typed at h
 simp only[Tryz.underlying55]at h
 obtain⟨hl,hf⟩:=h
 rw[show(Tryz.prog).cellsOf 55=13 by kernel_rfl]at hl
 match ts,hl with
 | [b0, a0, a1, a2, a3, a4, a5, a6, a7, a8, a9, t1, t2], _ =>
   have h0:=hf _ (.head _)
   have h1:=hf _ (.tail _ (.head _))
   have h2:=hf _ (.tail _ (.tail _ (.head _)))
   have h3:=hf _ (.tail _ (.tail _ (.tail _ (.head _))))
   clear hf
   dsimp only at h0 h1 h2 h3
   rw[show(Tryz.prog).cellsOf 3=1 by kernel_rfl]at h0
   rw[show(Tryz.prog).cellsOf 44=10 by kernel_rfl]at h1
   rw[show(Tryz.prog).cellsOf 27=1 by kernel_rfl]at h2
   rw[show(Tryz.prog).cellsOf 22=1 by kernel_rfl]at h3
   obtain⟨op,_,rfl⟩:=dat_i2 (n:=n+6) (a:=b0) h0
   obtain⟨a,hr,e0,e1,e2,e3,e4,e5,e6,e7,e8,e9⟩:=dat_attr (n:=n+4) (a0:=a0) (a1:=a1) (a2:=a2) (a3:=a3) (a4:=a4) (a5:=a5) (a6:=a6) (a7:=a7) (a8:=a8) (a9:=a9) h1
   obtain⟨l,hl,el⟩:=Dat.slice (f:=Ag.T) (Q:=fun a=>∀s∈a.v,ScW s∧s.b<18446744073709551616) Tryz.underlying27 (fun x hx=>dat_arg (n:=n) hx) (dat1 (n:=n+7) (t:=27) (a:=t1) (by simp[mkT,Tryz.underlying27]) h2)
   rw[show(Tryz.prog).bytesOf 25=48 by kernel_rfl]at hl
   obtain⟨out,_,eo⟩:=dat_ints (dat1 (n:=n+7) (t:=22) (a:=t2) (by simp[mkT,Tryz.underlying22]) h3)
   refine⟨op,a,l,out,⟨⟨by have:=hl.1;unfold reachBytes at this;omega,hl.2⟩,hr⟩,?_⟩
   rw[e0,e1,e2,e3,e4,e5,e6,e7,e8,e9,el,eo]
   simp only[mkT,Tryz.underlying55,prT,sA]
theorem dat_valL {n:Nat} {a b c d e:T} (h:Typed Tryz.prog (n+4) 68 [a,b,c,d,e]):∃s:Sc,(ScW s∧s.b<18446744073709551616)∧a=.bool s.x.neg∧b=sW s.x.p∧c=sW s.x.q∧d=.int .u64 s.b∧e=.int .i64 s.f:=by
 obtain⟨s,hs,q⟩:=dat_val (n:=n) (x:=mkT Tryz.prog 68 [a,b,c,d,e]) ⟨_,h,rfl⟩
 simp only[mkT,Tryz.underlying68,Sc.T,T.agg.injEq,List.cons.injEq,and_true]at q
 exact⟨s,hs,q⟩
theorem dat_place {n:Nat} {x:T} (h:Dat Tryz.prog (n+8) 86 x):∃(X:List Sc) (y:Sc) (pick which:Int) (v:Sc),(X.length<2000000000000∧∀s∈allS X y v,ScW s∧s.b<18446744073709551616)∧x=plT X y pick which v:=by
 obtain⟨ts,h,rfl⟩:=h
 unfold Typed at h
 simp only[Tryz.underlying86]at h
 obtain⟨hl,hf⟩:=h
 rw[show(Tryz.prog).cellsOf 86=13 by kernel_rfl]at hl
 match ts,hl with
 | [b0, y0, y1, y2, y3, y4, p0, w0, v0, v1, v2, v3, v4], _ =>
   have h0:=hf _ (.head _)
   have h1:=hf _ (.tail _ (.head _))
   have h2:=hf _ (.tail _ (.tail _ (.head _)))
   clear hf
   dsimp only at h0 h1 h2
   rw[show(Tryz.prog).cellsOf 84=7 by kernel_rfl]at h0
   rw[show(Tryz.prog).cellsOf 3=1 by kernel_rfl]at h1
   rw[show(Tryz.prog).cellsOf 68=5 by kernel_rfl]at h2
   simp only[List.drop,List.take]at h0 h1 h2
   obtain⟨which,_,rfl⟩:=dat_i2 (n:=n+6) (a:=w0) h1
   obtain⟨v,hv,q0,q1,q2,q3,q4⟩:=dat_valL (n:=n+3) h2
   unfold Typed at h0
   simp only[Tryz.underlying84]at h0
   obtain⟨_,hf⟩:=h0
   have h3:=hf _ (.head _)
   have h4:=hf _ (.tail _ (.head _))
   have h5:=hf _ (.tail _ (.tail _ (.head _)))
   clear hf
   dsimp only at h3 h4 h5
   rw[show(Tryz.prog).cellsOf 23=1 by kernel_rfl]at h3
   rw[show(Tryz.prog).cellsOf 68=5 by kernel_rfl]at h4
   rw[show(Tryz.prog).cellsOf 3=1 by kernel_rfl]at h5
   simp only[List.drop,List.take]at h3 h4 h5
   obtain⟨pick,_,rfl⟩:=dat_i2 (n:=n+5) (a:=p0) h5
   obtain⟨y,hy,r0,r1,r2,r3,r4⟩:=dat_valL (n:=n+2) h4
   obtain⟨X,hX,rfl⟩:=dat_vals (n:=n+1) (dat1 (n:=n+6) (t:=23) (a:=b0) (by simp[mkT,Tryz.underlying23]) h3)
   refine⟨X,y,pick,which,v,⟨by have:=hX.1;unfold reachBytes at this;omega,fun s hs=> ?_⟩,?_⟩
   ·rcases List.mem_append.1 hs with h|h
    ·exact hX.2 s h
    ·rcases List.mem_cons.1 h with rfl|h
     ·exact hy
     ·obtain rfl:=List.mem_singleton.1 h
      exact hv
   ·rw[q0,q1,q2,q3,q4,r0,r1,r2,r3,r4]
    simp only[mkT,Tryz.underlying86,plT]
end Go.Fm
