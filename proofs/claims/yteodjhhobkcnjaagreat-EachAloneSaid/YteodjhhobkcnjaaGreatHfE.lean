/- Slopes: how great they may become. -/
import Derived.Test.YteodjhhobkcnjaaGreatHfB
import Derived.Test.YteodjhhobkcnjaaGreatHfC
import Derived.Test.YteodjhhobkcnjaaGreatHdD
import Derived.Test.YteodjhhobkcnjaaGreatHdA
set_option linter.unusedVariables false
set_option linter.unusedSimpArgs false
namespace Go.Fm
open Go.Proofs
set_option maxRecDepth 100000
attribute [local irreducible] tiOf
def Ex.bd:Ex→Nat
 |.v=>9
 |.y=>9
 |.x _=>9
 |.k _=>9
 |.pow _=>100
 |.neg a=>a.bd
 |.add a b=>a.bd+b.bd+1
 |.sub a b=>a.bd+b.bd+1
 |.mul a b=>a.bd+b.bd+1
 |.div a b=>a.bd+b.bd+1
theorem noPtrL_Ag (l:List Ag):noPtrL (l.map Ag.T)=true:=by have:=noPtr_sA l;simpa only[sA,noPtr] using this
def prT (op:Int) (x:Atr) (l:List Ag) (out:List Int):T:=.agg [.int .i64 op,.int .i64 x.n,.int .i64 x.a,.int .i64 x.b,.int .i64 x.c,.int .i64 x.p,.int .i64 x.q,.int .i64 x.r,.int .i64 x.s,.bool x.keep,sI x.list,sA l,sI out]
theorem dat_i2 {n:Nat} {a:T} (h:Typed Tryz.prog (n+1) 3 [a]):∃z:Int,(-9223372036854775808≤z∧z≤9223372036854775807)∧a=.int .i64 z:=dat_int (dat1 (n:=n+1) (t:=3) (a:=a) (by simp[mkT,Tryz.underlying3]) h)
theorem dat_attr {n:Nat} {a0 a1 a2 a3 a4 a5 a6 a7 a8 a9:T} (h:Typed Tryz.prog (n+3) 44 [a0,a1,a2,a3,a4,a5,a6,a7,a8,a9]):∃x:Atr,((-9223372036854775808≤x.n∧x.n≤9223372036854775807)∧(-9223372036854775808≤x.p∧x.p≤9223372036854775807)∧(-9223372036854775808≤x.q∧x.q≤9223372036854775807)∧(-9223372036854775808≤x.r∧x.r≤9223372036854775807)∧ -9223372036854775808≤x.s∧x.s≤9223372036854775807)∧
  a0=.int .i64 x.n∧a1=.int .i64 x.a∧a2=.int .i64 x.b∧a3=.int .i64 x.c∧a4=.int .i64 x.p∧a5=.int .i64 x.q∧a6=.int .i64 x.r∧a7=.int .i64 x.s∧a8=.bool x.keep∧a9=sI x.list:=by
 simp only[Typed,Tryz.underlying44]at h
 obtain⟨_,hf⟩:=h
 simp only[List.forall_mem_cons]at hf
 obtain⟨h0,h1,h2,h3,h4,h5,h6,h7,h8,h9,_⟩:=hf
 have c1:(Tryz.prog).cellsOf 3=1:=by kernel_rfl
 have c2:(Tryz.prog).cellsOf 4=1:=by kernel_rfl
 have c3:(Tryz.prog).cellsOf 22=1:=by kernel_rfl
 rw[c1]at h0 h1 h2 h3 h4 h5 h6 h7
 rw[c2]at h8
 rw[c3]at h9
 obtain⟨z0,r0,e0⟩:=dat_i2 (n:=n+1) (a:=a0) h0
 obtain⟨z1,_,e1⟩:=dat_i2 (n:=n+1) (a:=a1) h1
 obtain⟨z2,_,e2⟩:=dat_i2 (n:=n+1) (a:=a2) h2
 obtain⟨z3,_,e3⟩:=dat_i2 (n:=n+1) (a:=a3) h3
 obtain⟨z4,r4,e4⟩:=dat_i2 (n:=n+1) (a:=a4) h4
 obtain⟨z5,r5,e5⟩:=dat_i2 (n:=n+1) (a:=a5) h5
 obtain⟨z6,r6,e6⟩:=dat_i2 (n:=n+1) (a:=a6) h6
 obtain⟨z7,r7,e7⟩:=dat_i2 (n:=n+1) (a:=a7) h7
 obtain⟨k,e8⟩:=Dat.bool Tryz.underlying4 (dat1 (n:=n+2) (t:=4) (a:=a8) (by simp[mkT,Tryz.underlying4]) h8)
 obtain⟨l,_,e9⟩:=dat_ints (dat1 (n:=n+2) (t:=22) (a:=a9) (by simp[mkT,Tryz.underlying22]) h9)
 exact⟨⟨z0,z1,z2,z3,z4,z5,z6,z7,k,l⟩,⟨r0,r4,r5,r6,r7⟩,e0,e1,e2,e3,e4,e5,e6,e7,e8,e9⟩
theorem dat_prim {n:Nat} {x:T} (h:Dat Tryz.prog (n+8) 55 x):∃(op:Int) (a:Atr) (l:List Ag) (out:List Int),((l.length<9000000000000000000∧∀a∈l,∀s∈a.v,ScW s∧s.b<18446744073709551616)∧
    (-9223372036854775808≤a.n∧a.n≤9223372036854775807)∧(-9223372036854775808≤a.p∧a.p≤9223372036854775807)∧(-9223372036854775808≤a.q∧a.q≤9223372036854775807)∧(-9223372036854775808≤a.r∧a.r≤9223372036854775807)∧ -9223372036854775808≤a.s∧a.s≤9223372036854775807)∧x=prT op a l out:=by
 obtain⟨ts,h,rfl⟩:=h
 unfold Typed at h
 simp only[Tryz.underlying55]at h
 obtain⟨hl,hf⟩:=h
 rw[show(Tryz.prog).cellsOf 55=13 by kernel_rfl]at hl
 match ts,hl with
 | [b0, a0, a1, a2, a3, a4, a5, a6, a7, a8, a9, t1, t2], _ =>
   have h0:=hf _ (.head _)
   have h1:=hf _ (.tail _ (.head _))
   have h2:=hf _ (.tail _ (.tail _ (.head _)))
   have h3:=hf _ (.tail _ (.tail _ (.tail _ (.head _))))
   clear hf
   dsimp only at h0 h1 h2 h3
   rw[show(Tryz.prog).cellsOf 3=1 by kernel_rfl]at h0
   rw[show(Tryz.prog).cellsOf 44=10 by kernel_rfl]at h1
   rw[show(Tryz.prog).cellsOf 27=1 by kernel_rfl]at h2
   rw[show(Tryz.prog).cellsOf 22=1 by kernel_rfl]at h3
   obtain⟨op,_,rfl⟩:=dat_i2 (n:=n+6) (a:=b0) h0
   obtain⟨a,hr,e0,e1,e2,e3,e4,e5,e6,e7,e8,e9⟩:=dat_attr (n:=n+4) (a0:=a0) (a1:=a1) (a2:=a2) (a3:=a3) (a4:=a4) (a5:=a5) (a6:=a6) (a7:=a7) (a8:=a8) (a9:=a9) h1
   obtain⟨l,hl,el⟩:=Dat.slice (f:=Ag.T) (Q:=fun a=>∀s∈a.v,ScW s∧s.b<18446744073709551616) Tryz.underlying27 (fun x hx=>dat_arg (n:=n) hx) (dat1 (n:=n+7) (t:=27) (a:=t1) (by simp[mkT,Tryz.underlying27]) h2)
   rw[show(Tryz.prog).bytesOf 25=48 by kernel_rfl]at hl
   obtain⟨out,_,eo⟩:=dat_ints (dat1 (n:=n+7) (t:=22) (a:=t2) (by simp[mkT,Tryz.underlying22]) h3)
   refine⟨op,a,l,out,⟨⟨by have:=hl.1;unfold reachBytes at this;omega,hl.2⟩,hr⟩,?_⟩
   rw[e0,e1,e2,e3,e4,e5,e6,e7,e8,e9,el,eo]
   simp only[mkT,Tryz.underlying55,prT,sA]
end Go.Fm
