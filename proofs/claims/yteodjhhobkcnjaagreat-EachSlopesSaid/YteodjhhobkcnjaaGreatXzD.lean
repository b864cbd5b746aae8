/- ref26.single, first part (printed by gen_slope.py). -/
import Derived.Test.YteodjhhobkcnjaaGreatXzB
set_option linter.unusedVariables false
set_option linter.unusedSimpArgs false
namespace Go.Fm
open Go.Proofs
set_option maxRecDepth 100000
attribute [local irreducible] tiOf
section
variable {h:Heap} {m id:Nat} {md:Int} {mc:AV} {tie:Bool} {s:Es} {v y x0 x1 x2 k0 k1:Vx} {ks:List Vx} {x:Atr} {n which pick:Int}
set_option maxHeartbeats 2000000 in
theorem single1 (H:HX h md s [v,y,x0]):RR 100 [.int .i64 1,.int .i64 n,sX ks,v.T,atT [x0] y pick] bankF h m id md mc tie s (Ex.ev ⟨v,y,[x0],ks⟩ (.neg .v) s).v true (Ex.ev ⟨v,y,[x0],ks⟩ (.neg .v) s).s:=by
 obtain⟨hloc,hb,hkb,hv,hy,hx0,_⟩:=H
 obtain⟨w1,s1,e1,c1,f1,g1,q1⟩:=negF m id mc tie hb (by omega) hv
 simp only[RR,Ex.ev,List.getD_cons_zero,List.getD_cons_succ,e1]
 refine Ret.iR Tryz.func100 [.c 12 68,.s 13] ?_
 refine SmT ?_
 refine SmA ?_
 refine CallG.Q _ Tryz.call60 c1 ?_
 refine SmA ?_
 exact endC.W
set_option maxHeartbeats 2000000 in
theorem single2 (H:HX h md s [v,y,x0]):RR 100 [.int .i64 2,.int .i64 n,sX ks,v.T,atT [x0] y pick] bankF h m id md mc tie s (Ex.ev ⟨v,y,[x0],ks⟩ (.neg (.mul .v (.mul .y .y))) s).v true (Ex.ev ⟨v,y,[x0],ks⟩ (.neg (.mul .v (.mul .y .y))) s).s:=by
 obtain⟨hloc,hb,hkb,hv,hy,hx0,_⟩:=H
 obtain⟨w1,s1,e1,c1,f1,g1,q1⟩:=mulF m id mc tie hb (by omega) hy hy
 obtain⟨w2,s2,e2,c2,f2,g2,q2⟩:=mulF m id mc tie hb (by omega) (fun e=>hv (f1 e)) g1
 obtain⟨w3,s3,e3,c3,f3,g3,q3⟩:=negF m id mc tie hb (by omega) g2
 simp only[RR,Ex.ev,List.getD_cons_zero,List.getD_cons_succ,e1,e2,e3]
 refine Ret.iR Tryz.func100 [.c 12 68,.s 13] ?_
 refine SmT ?_
 refine SmA ?_
 refine Goes.dB ?_
 refine SmA ?_
 refine CallD.B Tryz.call60 c1 ?_
 refine SmA ?_
 refine CallD.B Tryz.call60 c2 ?_
 refine SmA ?_
 refine CallD.B Tryz.call60 c3 ?_
 refine SmA ?_
 refine⟨.mk (by kernel_rfl),?_⟩
 apply run_sound 200
 refine SmA ?_
 exact endC.W
set_option maxHeartbeats 2000000 in
theorem single3 (H:HX h md s [v,y,x0]):RR 100 [.int .i64 3,.int .i64 n,sX ks,v.T,atT [x0] y pick] bankF h m id md mc tie s (Ex.ev ⟨v,y,[x0],ks⟩ (.mul .v (.add (.x 0) (.x 0))) s).v true (Ex.ev ⟨v,y,[x0],ks⟩ (.mul .v (.add (.x 0) (.x 0))) s).s:=by
 obtain⟨hloc,hb,hkb,hv,hy,hx0,_⟩:=H
 obtain⟨w1,s1,e1,c1,f1,g1,q1⟩:=addF m id mc tie hb (by omega) hx0 hx0
 obtain⟨w2,s2,e2,c2,f2,g2,q2⟩:=mulF m id mc tie hb (by omega) (fun e=>hv (f1 e)) g1
 simp only[RR,Ex.ev,List.getD_cons_zero,List.getD_cons_succ,e1,e2]
 refine Ret.iR Tryz.func100 [.c 12 68,.s 13] ?_
 refine SmT ?_
 refine SmA ?_
 refine Goes.dB ?_
 refine SmA ?_
 refine CallD.B Tryz.call60 c1 ?_
 refine SmA ?_
 refine CallD.B Tryz.call60 c2 ?_
 refine SmA ?_
 refine⟨.mk (by kernel_rfl),?_⟩
 apply run_sound 200
 refine SmA ?_
 exact endC.W
set_option maxHeartbeats 2000000 in
theorem single4a (H:HX h md s [v,y,x0]) (hp:pick=1):RR 100 [.int .i64 4,.int .i64 n,sX ks,v.T,atT [x0] y pick] bankF h m id md mc tie s (Ex.ev ⟨v,y,[x0],ks⟩ (.neg .v) s).v true (Ex.ev ⟨v,y,[x0],ks⟩ (.neg .v) s).s:=by
 obtain⟨hloc,hb,hkb,hv,hy,hx0,_⟩:=H
 have d1:decide (pick=1)=true:=decide_eq_true hp
 have d2:decide (pick≠1)=false:=decide_eq_false (fun h=>h hp)
 obtain⟨w1,s1,e1,c1,f1,g1,q1⟩:=negF m id mc tie hb (by omega) hv
 simp only[RR,Ex.ev,List.getD_cons_zero,List.getD_cons_succ,e1]
 refine Ret.iR Tryz.func100 [.c 12 68,.s 13] ?_
 refine SmT ?_
 simp-implicitDefEqProofs+decide only[go_sem,hloc,d1,d2]
 refine CallG.Q _ Tryz.call60 c1 ?_
 simp-implicitDefEqProofs+decide only[go_sem,hloc,d1,d2]
 exact endC.W
set_option maxHeartbeats 2000000 in
theorem single4b (H:HX h md s [v,y,x0]) (hp:pick≠1):RR 100 [.int .i64 4,.int .i64 n,sX ks,v.T,atT [x0] y pick] bankF h m id md mc tie s (Ex.ev ⟨v,y,[x0],ks⟩ .v s).v true (Ex.ev ⟨v,y,[x0],ks⟩ .v s).s:=by
 obtain⟨hloc,hb,hkb,hv,hy,hx0,_⟩:=H
 have d1:decide (pick=1)=false:=decide_eq_false hp
 have d2:decide (pick≠1)=true:=decide_eq_true hp
 simp only[RR,Ex.ev,List.getD_cons_zero,List.getD_cons_succ]
 refine Ret.iR Tryz.func100 [.c 12 68,.s 13] ?_
 refine SmT ?_
 simp-implicitDefEqProofs+decide only[go_sem,hloc,d1,d2]
 exact endC.W
set_option maxHeartbeats 2000000 in
theorem single5 (H:HX h md s [v,y,x0]):RR 100 [.int .i64 5,.int .i64 n,sX ks,v.T,atT [x0] y pick] bankF h m id md mc tie s v0 false (Ex.ev ⟨v,y,[x0],ks⟩ .v s).s:=by
 obtain⟨hloc,hb,hkb,hv,hy,hx0,_⟩:=H
 simp only[RR,Ex.ev,List.getD_cons_zero,List.getD_cons_succ]
 refine Ret.iR Tryz.func100 [.c 12 68,.s 13] ?_
 refine SmT ?_
 refine SmA ?_
 exact endC.W
set_option maxHeartbeats 2000000 in
theorem single6a (H:HX h md s [v,y,x0]) (hp:pick=1):RR 100 [.int .i64 6,.int .i64 n,sX ks,v.T,atT [x0] y pick] bankF h m id md mc tie s (Ex.ev ⟨v,y,[x0],ks⟩ .v s).v true (Ex.ev ⟨v,y,[x0],ks⟩ .v s).s:=by
 obtain⟨hloc,hb,hkb,hv,hy,hx0,_⟩:=H
 have d1:decide (pick=1)=true:=decide_eq_true hp
 have d2:decide (pick≠1)=false:=decide_eq_false (fun h=>h hp)
 simp only[RR,Ex.ev,List.getD_cons_zero,List.getD_cons_succ]
 refine Ret.iR Tryz.func100 [.c 12 68,.s 13] ?_
 refine SmT ?_
 simp-implicitDefEqProofs+decide only[go_sem,hloc,d1,d2]
 exact endC.W
set_option maxHeartbeats 2000000 in
theorem single6b (H:HX h md s [v,y,x0]) (hp:pick≠1):RR 100 [.int .i64 6,.int .i64 n,sX ks,v.T,atT [x0] y pick] bankF h m id md mc tie s v0 false (Ex.ev ⟨v,y,[x0],ks⟩ .v s).s:=by
 obtain⟨hloc,hb,hkb,hv,hy,hx0,_⟩:=H
 have d1:decide (pick=1)=false:=decide_eq_false hp
 have d2:decide (pick≠1)=true:=decide_eq_true hp
 simp only[RR,Ex.ev,List.getD_cons_zero,List.getD_cons_succ]
 refine Ret.iR Tryz.func100 [.c 12 68,.s 13] ?_
 refine SmT ?_
 simp-implicitDefEqProofs+decide only[go_sem,hloc,d1,d2]
 exact endC.W
set_option maxHeartbeats 2000000 in
theorem single7 (H:HX h md s [v,y,x0]):RR 100 [.int .i64 7,.int .i64 n,sX ks,v.T,atT [x0] y pick] bankF h m id md mc tie s (Ex.ev ⟨v,y,[x0],ks⟩ (.mul .v .y) s).v true (Ex.ev ⟨v,y,[x0],ks⟩ (.mul .v .y) s).s:=by
 obtain⟨hloc,hb,hkb,hv,hy,hx0,_⟩:=H
 obtain⟨w1,s1,e1,c1,f1,g1,q1⟩:=mulF m id mc tie hb (by omega) hv hy
 simp only[RR,Ex.ev,List.getD_cons_zero,List.getD_cons_succ,e1]
 refine Ret.iR Tryz.func100 [.c 12 68,.s 13] ?_
 refine SmT ?_
 refine SmA ?_
 refine CallG.Q _ Tryz.call60 c1 ?_
 refine SmA ?_
 exact endC.W
set_option maxHeartbeats 2000000 in
theorem single8 (H:HX h md s [v,y,x0]):RR 100 [.int .i64 8,.int .i64 n,sX ks,v.T,atT [x0] y pick] bankF h m id md mc tie s (Ex.ev ⟨v,y,[x0],ks⟩ (.div .v (.x 0)) s).v true (Ex.ev ⟨v,y,[x0],ks⟩ (.div .v (.x 0)) s).s:=by
 obtain⟨hloc,hb,hkb,hv,hy,hx0,_⟩:=H
 obtain⟨w1,s1,e1,c1,f1,g1,q1⟩:=divF m id mc tie hb (by omega) hv hx0
 simp only[RR,Ex.ev,List.getD_cons_zero,List.getD_cons_succ,e1]
 refine Ret.iR Tryz.func100 [.c 12 68,.s 13] ?_
 refine SmT ?_
 refine SmA ?_
 refine Goes.dB ?_
 refine SmA ?_
 refine CallD.B Tryz.call60 c1 ?_
 refine SmA ?_
 refine⟨.mk (by kernel_rfl),?_⟩
 apply run_sound 200
 refine SmA ?_
 exact endC.W
end
section
variable {h:Heap} {m id:Nat} {md:Int} {mc:AV} {tie:Bool} {s:Es} {v y x0 x1 x2 k0 k1:Vx} {ks:List Vx} {x:Atr} {n which pick:Int}
set_option maxHeartbeats 2000000 in
theorem single9 (H:HX h md s [v,y,x0]):RR 100 [.int .i64 9,.int .i64 n,sX ks,v.T,atT [x0] y pick] bankF h m id md mc tie s (Ex.ev ⟨v,y,[x0],ks⟩ (.div .v (.add .y .y)) s).v true (Ex.ev ⟨v,y,[x0],ks⟩ (.div .v (.add .y .y)) s).s:=by
 obtain⟨hloc,hb,hkb,hv,hy,hx0,_⟩:=H
 obtain⟨w1,s1,e1,c1,f1,g1,q1⟩:=addF m id mc tie hb (by omega) hy hy
 obtain⟨w2,s2,e2,c2,f2,g2,q2⟩:=divF m id mc tie hb (by omega) (fun e=>hv (f1 e)) g1
 simp only[RR,Ex.ev,List.getD_cons_zero,List.getD_cons_succ,e1,e2]
 refine Ret.iR Tryz.func100 [.c 12 68,.s 13] ?_
 refine SmT ?_
 refine SmA ?_
 refine Goes.dB ?_
 refine SmA ?_
 refine CallD.B Tryz.call60 c1 ?_
 refine SmA ?_
 refine CallD.B Tryz.call60 c2 ?_
 refine SmA ?_
 refine⟨.mk (by kernel_rfl),?_⟩
 apply run_sound 200
 refine SmA ?_
 exact endC.W
set_option maxHeartbeats 2000000 in
theorem single10 (H:HX h md s [v,y,x0,k0]):RR 100 [.int .i64 10,.int .i64 n,sX [k0],v.T,atT [x0] y pick] bankF h m id md mc tie s (Ex.ev ⟨v,y,[x0],[k0]⟩ (.mul .v (.mul .y (.sub (.k 0) .y))) s).v true (Ex.ev ⟨v,y,[x0],[k0]⟩ (.mul .v (.mul .y (.sub (.k 0) .y))) s).s:=by
 obtain⟨hloc,hb,hkb,hv,hy,hx0,hk0,_⟩:=H
 obtain⟨w1,s1,e1,c1,f1,g1,q1⟩:=subF m id mc tie hb (by omega) hk0 hy
 obtain⟨w2,s2,e2,c2,f2,g2,q2⟩:=mulF m id mc tie hb (by omega) (fun e=>hy (f1 e)) g1
 obtain⟨w3,s3,e3,c3,f3,g3,q3⟩:=mulF m id mc tie hb (by omega) (fun e=>hv (f1 (f2 e))) g2
 simp only[RR,Ex.ev,List.getD_cons_zero,List.getD_cons_succ,e1,e2,e3]
 refine Ret.iR Tryz.func100 [.c 12 68,.s 13] ?_
 refine SmT ?_
 refine SmA ?_
 refine Goes.dB ?_
 refine SmA ?_
 refine CallD.B Tryz.call60 c1 ?_
 refine SmA ?_
 refine CallD.B Tryz.call60 c2 ?_
 refine SmA ?_
 refine CallD.B Tryz.call60 c3 ?_
 refine SmA ?_
 refine⟨.mk (by kernel_rfl),?_⟩
 apply run_sound 200
 refine SmA ?_
 exact endC.W
set_option maxHeartbeats 2000000 in
theorem single11 (H:HX h md s [v,y,x0,k0]):RR 100 [.int .i64 11,.int .i64 n,sX [k0],v.T,atT [x0] y pick] bankF h m id md mc tie s (Ex.ev ⟨v,y,[x0],[k0]⟩ (.mul .v (.sub (.k 0) (.mul .y .y))) s).v true (Ex.ev ⟨v,y,[x0],[k0]⟩ (.mul .v (.sub (.k 0) (.mul .y .y))) s).s:=by
 obtain⟨hloc,hb,hkb,hv,hy,hx0,hk0,_⟩:=H
 obtain⟨w1,s1,e1,c1,f1,g1,q1⟩:=mulF m id mc tie hb (by omega) hy hy
 obtain⟨w2,s2,e2,c2,f2,g2,q2⟩:=subF m id mc tie hb (by omega) (fun e=>hk0 (f1 e)) g1
 obtain⟨w3,s3,e3,c3,f3,g3,q3⟩:=mulF m id mc tie hb (by omega) (fun e=>hv (f1 (f2 e))) g2
 simp only[RR,Ex.ev,List.getD_cons_zero,List.getD_cons_succ,e1,e2,e3]
 refine Ret.iR Tryz.func100 [.c 12 68,.s 13] ?_
 refine SmT ?_
 refine SmA ?_
 refine Goes.dB ?_
 refine SmA ?_
 refine CallD.B Tryz.call60 c1 ?_
 refine SmA ?_
 refine CallD.B Tryz.call60 c2 ?_
 refine SmA ?_
 refine CallD.B Tryz.call60 c3 ?_
 refine SmA ?_
 refine⟨.mk (by kernel_rfl),?_⟩
 apply run_sound 200
 refine SmA ?_
 exact endC.W
set_option maxHeartbeats 2000000 in
theorem single12a (H:HX h md s [v,y,x0]) (hn0:n=0):RR 100 [.int .i64 12,.int .i64 n,sX ks,v.T,atT [x0] y pick] bankF h m id md mc tie s v0 false (Ex.ev ⟨v,y,[x0],ks⟩ .v s).s:=by
 obtain⟨hloc,hb,hkb,hv,hy,hx0,_⟩:=H
 subst hn0
 simp only[RR,Ex.ev,List.getD_cons_zero,List.getD_cons_succ]
 refine Ret.iR Tryz.func100 [.c 12 68,.s 13] ?_
 refine SmT ?_
 refine SmA ?_
 exact endC.W
set_option maxHeartbeats 2000000 in
theorem single12c (H:HX h md s [v,y,x0]) (hn0:n=1):RR 100 [.int .i64 12,.int .i64 n,sX ks,v.T,atT [x0] y pick] bankF h m id md mc tie s (Ex.ev ⟨v,y,[x0],ks⟩ .v s).v true (Ex.ev ⟨v,y,[x0],ks⟩ .v s).s:=by
 obtain⟨hloc,hb,hkb,hv,hy,hx0,_⟩:=H
 subst hn0
 simp only[RR,Ex.ev,List.getD_cons_zero,List.getD_cons_succ]
 refine Ret.iR Tryz.func100 [.c 12 68,.s 13] ?_
 refine SmT ?_
 refine SmA ?_
 exact endC.W
set_option maxHeartbeats 2000000 in
theorem single12b (H:HX h md s [v,y,x0,k0,k1]) (hn0:n≠0) (hn1:n≠1) (hn:(n-1).natAbs≤10):RR 100 [.int .i64 12,.int .i64 n,sX [k0,k1],v.T,atT [x0] y pick] bankF h m id md mc tie s (Ex.ev ⟨v,y,[x0],[k0,k1]⟩ (.mul .v (.mul (.k 1) (.pow (n-1)))) s).v true (Ex.ev ⟨v,y,[x0],[k0,k1]⟩ (.mul .v (.mul (.k 1) (.pow (n-1)))) s).s:=by
 obtain⟨hloc,hb,hkb,hv,hy,hx0,hk0,hk1,_⟩:=H
 have d1:decide (n≠0)=true:=decide_eq_true hn0
 have d2:decide (n≠1)=true:=decide_eq_true hn1
 have d3:IntKind.wrap .i64 (n-1)=n-1:=by rw[w64]<;>omega
 obtain⟨w1,s1,e1,c1,f1,g1,q1⟩:=powF m id mc tie hb (by omega) hn hk0 hx0
 obtain⟨w2,s2,e2,c2,f2,g2,q2⟩:=mulF m id mc tie hb (by omega) (fun e=>hk1 (f1 e)) g1
 obtain⟨w3,s3,e3,c3,f3,g3,q3⟩:=mulF m id mc tie hb (by omega) (fun e=>hv (f1 (f2 e))) g2
 simp only[RR,Ex.ev,List.getD_cons_zero,List.getD_cons_succ,e1,e2,e3]
 refine Ret.iR Tryz.func100 [.c 12 68,.s 13] ?_
 refine SmT ?_
 simp-implicitDefEqProofs+decide only[go_sem,hloc,d1,d2,d3]
 refine Goes.dB ?_
 simp-implicitDefEqProofs+decide only[go_sem,hloc,d1,d2,d3]
 refine CallD.B Tryz.call159 c1 ?_
 simp-implicitDefEqProofs+decide only[go_sem,hloc,d1,d2,d3]
 refine CallD.B Tryz.call60 c2 ?_
 simp-implicitDefEqProofs+decide only[go_sem,hloc,d1,d2,d3]
 refine CallD.B Tryz.call60 c3 ?_
 simp-implicitDefEqProofs+decide only[go_sem,hloc,d1,d2,d3]
 refine⟨.mk (by kernel_rfl),?_⟩
 apply run_sound 200
 simp-implicitDefEqProofs+decide only[go_sem,hloc,d1,d2,d3]
 exact endC.W
set_option maxHeartbeats 2000000 in
theorem single13 (H:HX h md s [v,y,x0,k0]):RR 100 [.int .i64 13,.int .i64 n,sX [k0],v.T,atT [x0] y pick] bankF h m id md mc tie s (Ex.ev ⟨v,y,[x0],[k0]⟩ (.mul .v (.k 0)) s).v true (Ex.ev ⟨v,y,[x0],[k0]⟩ (.mul .v (.k 0)) s).s:=by
 obtain⟨hloc,hb,hkb,hv,hy,hx0,hk0,_⟩:=H
 obtain⟨w1,s1,e1,c1,f1,g1,q1⟩:=mulF m id mc tie hb (by omega) hv hk0
 simp only[RR,Ex.ev,List.getD_cons_zero,List.getD_cons_succ,e1]
 refine Ret.iR Tryz.func100 [.c 12 68,.s 13] ?_
 refine SmT ?_
 refine SmA ?_
 refine Goes.dB ?_
 refine SmA ?_
 refine CallD.B Tryz.call60 c1 ?_
 refine SmA ?_
 refine⟨.mk (by kernel_rfl),?_⟩
 apply run_sound 200
 refine SmA ?_
 exact endC.W
set_option maxHeartbeats 2000000 in
theorem single14 (H:HX h md s [v,y,x0]):RR 100 [.int .i64 14,.int .i64 n,sX ks,v.T,atT [x0] y pick] bankF h m id md mc tie s (Ex.ev ⟨v,y,[x0],ks⟩ .v s).v true (Ex.ev ⟨v,y,[x0],ks⟩ .v s).s:=by
 obtain⟨hloc,hb,hkb,hv,hy,hx0,_⟩:=H
 simp only[RR,Ex.ev,List.getD_cons_zero,List.getD_cons_succ]
 refine Ret.iR Tryz.func100 [.c 12 68,.s 13] ?_
 refine SmT ?_
 refine SmA ?_
 exact endC.W
set_option maxHeartbeats 2000000 in
theorem single15a (H:HX h md s [v,y,x0]) (hp:pick=0):RR 100 [.int .i64 15,.int .i64 n,sX ks,v.T,atT [x0] y pick] bankF h m id md mc tie s (Ex.ev ⟨v,y,[x0],ks⟩ .v s).v true (Ex.ev ⟨v,y,[x0],ks⟩ .v s).s:=by
 obtain⟨hloc,hb,hkb,hv,hy,hx0,_⟩:=H
 have d1:decide (pick=0)=true:=decide_eq_true hp
 have d2:decide (pick≠0)=false:=decide_eq_false (fun h=>h hp)
 simp only[RR,Ex.ev,List.getD_cons_zero,List.getD_cons_succ]
 refine Ret.iR Tryz.func100 [.c 12 68,.s 13] ?_
 refine SmT ?_
 simp-implicitDefEqProofs+decide only[go_sem,hloc,d1,d2]
 exact endC.W
set_option maxHeartbeats 2000000 in
theorem single15b (H:HX h md s [v,y,x0]) (hp:pick≠0):RR 100 [.int .i64 15,.int .i64 n,sX ks,v.T,atT [x0] y pick] bankF h m id md mc tie s v0 false (Ex.ev ⟨v,y,[x0],ks⟩ .v s).s:=by
 obtain⟨hloc,hb,hkb,hv,hy,hx0,_⟩:=H
 have d1:decide (pick=0)=false:=decide_eq_false hp
 have d2:decide (pick≠0)=true:=decide_eq_true hp
 simp only[RR,Ex.ev,List.getD_cons_zero,List.getD_cons_succ]
 refine Ret.iR Tryz.func100 [.c 12 68,.s 13] ?_
 refine SmT ?_
 simp-implicitDefEqProofs+decide only[go_sem,hloc,d1,d2]
 exact endC.W
set_option maxHeartbeats 2000000 in
theorem single16a (H:HX h md s [v,y,x0,k0]) (hp:pick=1):RR 100 [.int .i64 16,.int .i64 n,sX [k0],v.T,atT [x0] y pick] bankF h m id md mc tie s (Ex.ev ⟨v,y,[x0],[k0]⟩ (.mul .v (.k 0)) s).v true (Ex.ev ⟨v,y,[x0],[k0]⟩ (.mul .v (.k 0)) s).s:=by
 obtain⟨hloc,hb,hkb,hv,hy,hx0,hk0,_⟩:=H
 have d1:decide (pick=1)=true:=decide_eq_true hp
 have d2:decide (pick≠1)=false:=decide_eq_false (fun h=>h hp)
 obtain⟨w1,s1,e1,c1,f1,g1,q1⟩:=mulF m id mc tie hb (by omega) hv hk0
 simp only[RR,Ex.ev,List.getD_cons_zero,List.getD_cons_succ,e1]
 refine Ret.iR Tryz.func100 [.c 12 68,.s 13] ?_
 refine SmT ?_
 simp-implicitDefEqProofs+decide only[go_sem,hloc,d1,d2]
 refine Goes.dB ?_
 simp-implicitDefEqProofs+decide only[go_sem,hloc,d1,d2]
 refine CallD.B Tryz.call60 c1 ?_
 simp-implicitDefEqProofs+decide only[go_sem,hloc,d1,d2]
 refine⟨.mk (by kernel_rfl),?_⟩
 apply run_sound 200
 simp-implicitDefEqProofs+decide only[go_sem,hloc,d1,d2]
 exact endC.W
set_option maxHeartbeats 2000000 in
theorem single16b (H:HX h md s [v,y,x0,k0]) (hp:pick≠1):RR 100 [.int .i64 16,.int .i64 n,sX [k0],v.T,atT [x0] y pick] bankF h m id md mc tie s (Ex.ev ⟨v,y,[x0],[k0]⟩ .v s).v true (Ex.ev ⟨v,y,[x0],[k0]⟩ .v s).s:=by
 obtain⟨hloc,hb,hkb,hv,hy,hx0,hk0,_⟩:=H
 have d1:decide (pick=1)=false:=decide_eq_false hp
 have d2:decide (pick≠1)=true:=decide_eq_true hp
 simp only[RR,Ex.ev,List.getD_cons_zero,List.getD_cons_succ]
 refine Ret.iR Tryz.func100 [.c 12 68,.s 13] ?_
 refine SmT ?_
 simp-implicitDefEqProofs+decide only[go_sem,hloc,d1,d2]
 exact endC.W
end
section
variable {h:Heap} {m id:Nat} {md:Int} {mc:AV} {tie:Bool} {s:Es} {v y x0 x1 x2 k0 k1:Vx} {ks:List Vx} {x:Atr} {n which pick:Int}
set_option maxHeartbeats 2000000 in
theorem rsl17 (H:HX h md s [v,y,x0,x1]):RR 48 [.int .i64 17,x.T,sX ks,.int .i64 which,v.T,atT [x0,x1] y pick] bankF h m id md mc tie s (Ex.ev ⟨v,y,[x0,x1],ks⟩ .v s).v true (Ex.ev ⟨v,y,[x0,x1],ks⟩ .v s).s:=by
 obtain⟨hloc,hb,hkb,hv,hy,hx0,hx1,_⟩:=H
 obtain⟨a1,a2,a3,a4,a5,a6,a7,a8,ak,al⟩:=x
 simp only[RR,Ex.ev,List.getD_cons_zero,List.getD_cons_succ]
 refine Ret.iR Tryz.func48 [.c 14 68,.s 15] ?_
 refine SmT ?_
 refine SmE ?_
 exact endC.W
set_option maxHeartbeats 2000000 in
theorem rsl18a (H:HX h md s [v,y,x0,x1]):RR 48 [.int .i64 18,x.T,sX ks,.int .i64 (1),v.T,atT [x0,x1] y pick] bankF h m id md mc tie s (Ex.ev ⟨v,y,[x0,x1],ks⟩ (.neg .v) s).v true (Ex.ev ⟨v,y,[x0,x1],ks⟩ (.neg .v) s).s:=by
 obtain⟨hloc,hb,hkb,hv,hy,hx0,hx1,_⟩:=H
 obtain⟨a1,a2,a3,a4,a5,a6,a7,a8,ak,al⟩:=x
 obtain⟨w1,s1,e1,c1,f1,g1,q1⟩:=negF m id mc tie hb (by omega) hv
 simp only[RR,Ex.ev,List.getD_cons_zero,List.getD_cons_succ,e1]
 refine Ret.iR Tryz.func48 [.c 14 68,.s 15] ?_
 refine SmT ?_
 refine SmE ?_
 refine CallG.Q _ Tryz.call60 c1 ?_
 refine SmE ?_
 exact endC.W
set_option maxHeartbeats 2000000 in
theorem rsl18b (H:HX h md s [v,y,x0,x1]):RR 48 [.int .i64 18,x.T,sX ks,.int .i64 (0),v.T,atT [x0,x1] y pick] bankF h m id md mc tie s (Ex.ev ⟨v,y,[x0,x1],ks⟩ .v s).v true (Ex.ev ⟨v,y,[x0,x1],ks⟩ .v s).s:=by
 obtain⟨hloc,hb,hkb,hv,hy,hx0,hx1,_⟩:=H
 obtain⟨a1,a2,a3,a4,a5,a6,a7,a8,ak,al⟩:=x
 simp only[RR,Ex.ev,List.getD_cons_zero,List.getD_cons_succ]
 refine Ret.iR Tryz.func48 [.c 14 68,.s 15] ?_
 refine SmT ?_
 refine SmE ?_
 exact endC.W
set_option maxHeartbeats 2000000 in
theorem rsl19a (H:HX h md s [v,y,x0,x1]):RR 48 [.int .i64 19,x.T,sX ks,.int .i64 (0),v.T,atT [x0,x1] y pick] bankF h m id md mc tie s (Ex.ev ⟨v,y,[x0,x1],ks⟩ (.mul .v (.x 1)) s).v true (Ex.ev ⟨v,y,[x0,x1],ks⟩ (.mul .v (.x 1)) s).s:=by
 obtain⟨hloc,hb,hkb,hv,hy,hx0,hx1,_⟩:=H
 obtain⟨a1,a2,a3,a4,a5,a6,a7,a8,ak,al⟩:=x
 obtain⟨w1,s1,e1,c1,f1,g1,q1⟩:=mulF m id mc tie hb (by omega) hv hx1
 simp only[RR,Ex.ev,List.getD_cons_zero,List.getD_cons_succ,e1]
 refine Ret.iR Tryz.func48 [.c 14 68,.s 15] ?_
 refine SmT ?_
 refine SmE ?_
 refine Goes.dB ?_
 refine SmE ?_
 refine CallD.B Tryz.call60 c1 ?_
 refine SmE ?_
 refine⟨.mk (by kernel_rfl),?_⟩
 apply run_sound 200
 refine SmE ?_
 exact endC.W
set_option maxHeartbeats 2000000 in
theorem rsl19b (H:HX h md s [v,y,x0,x1]):RR 48 [.int .i64 19,x.T,sX ks,.int .i64 (1),v.T,atT [x0,x1] y pick] bankF h m id md mc tie s (Ex.ev ⟨v,y,[x0,x1],ks⟩ (.mul .v (.x 0)) s).v true (Ex.ev ⟨v,y,[x0,x1],ks⟩ (.mul .v (.x 0)) s).s:=by
 obtain⟨hloc,hb,hkb,hv,hy,hx0,hx1,_⟩:=H
 obtain⟨a1,a2,a3,a4,a5,a6,a7,a8,ak,al⟩:=x
 obtain⟨w1,s1,e1,c1,f1,g1,q1⟩:=mulF m id mc tie hb (by omega) hv hx0
 simp only[RR,Ex.ev,List.getD_cons_zero,List.getD_cons_succ,e1]
 refine Ret.iR Tryz.func48 [.c 14 68,.s 15] ?_
 refine SmT ?_
 refine SmE ?_
 refine Goes.dB ?_
 refine SmE ?_
 refine CallD.B Tryz.call60 c1 ?_
 refine SmE ?_
 refine⟨.mk (by kernel_rfl),?_⟩
 apply run_sound 200
 refine SmE ?_
 exact endC.W
set_option maxHeartbeats 2000000 in
theorem rsl20a (H:HX h md s [v,y,x0,x1]):RR 48 [.int .i64 20,x.T,sX ks,.int .i64 (0),v.T,atT [x0,x1] y pick] bankF h m id md mc tie s (Ex.ev ⟨v,y,[x0,x1],ks⟩ (.div .v (.x 1)) s).v true (Ex.ev ⟨v,y,[x0,x1],ks⟩ (.div .v (.x 1)) s).s:=by
 obtain⟨hloc,hb,hkb,hv,hy,hx0,hx1,_⟩:=H
 obtain⟨a1,a2,a3,a4,a5,a6,a7,a8,ak,al⟩:=x
 obtain⟨w1,s1,e1,c1,f1,g1,q1⟩:=divF m id mc tie hb (by omega) hv hx1
 simp only[RR,Ex.ev,List.getD_cons_zero,List.getD_cons_succ,e1]
 refine Ret.iR Tryz.func48 [.c 14 68,.s 15] ?_
 refine SmT ?_
 refine SmE ?_
 refine Goes.dB ?_
 refine SmE ?_
 refine CallD.B Tryz.call60 c1 ?_
 refine SmE ?_
 refine⟨.mk (by kernel_rfl),?_⟩
 apply run_sound 200
 refine SmE ?_
 exact endC.W
set_option maxHeartbeats 2000000 in
theorem rsl20b (H:HX h md s [v,y,x0,x1]):RR 48 [.int .i64 20,x.T,sX ks,.int .i64 (1),v.T,atT [x0,x1] y pick] bankF h m id md mc tie s (Ex.ev ⟨v,y,[x0,x1],ks⟩ (.neg (.div (.mul .v .y) (.x 1))) s).v true (Ex.ev ⟨v,y,[x0,x1],ks⟩ (.neg (.div (.mul .v .y) (.x 1))) s).s:=by
 obtain⟨hloc,hb,hkb,hv,hy,hx0,hx1,_⟩:=H
 obtain⟨a1,a2,a3,a4,a5,a6,a7,a8,ak,al⟩:=x
 obtain⟨w1,s1,e1,c1,f1,g1,q1⟩:=mulF m id mc tie hb (by omega) hv hy
 obtain⟨w2,s2,e2,c2,f2,g2,q2⟩:=divF m id mc tie hb (by omega) g1 (fun e=>hx1 (f1 e))
 obtain⟨w3,s3,e3,c3,f3,g3,q3⟩:=negF m id mc tie hb (by omega) g2
 simp only[RR,Ex.ev,List.getD_cons_zero,List.getD_cons_succ,e1,e2,e3]
 refine Ret.iR Tryz.func48 [.c 14 68,.s 15] ?_
 refine SmT ?_
 refine SmE ?_
 refine Goes.dB ?_
 refine SmE ?_
 refine CallD.B Tryz.call60 c1 ?_
 refine SmE ?_
 refine CallD.B Tryz.call60 c2 ?_
 refine SmE ?_
 refine CallD.B Tryz.call60 c3 ?_
 refine SmE ?_
 refine⟨.mk (by kernel_rfl),?_⟩
 apply run_sound 200
 refine SmE ?_
 exact endC.W
set_option maxHeartbeats 2000000 in
theorem rsl21a (H:HX h md s [v,y,x0,x1]) (hp:pick=which):RR 48 [.int .i64 21,x.T,sX ks,.int .i64 which,v.T,atT [x0,x1] y pick] bankF h m id md mc tie s (Ex.ev ⟨v,y,[x0,x1],ks⟩ .v s).v true (Ex.ev ⟨v,y,[x0,x1],ks⟩ .v s).s:=by
 obtain⟨hloc,hb,hkb,hv,hy,hx0,hx1,_⟩:=H
 have d1:decide (pick=which)=true:=decide_eq_true hp
 have d2:decide (pick≠which)=false:=decide_eq_false (fun h=>h hp)
 obtain⟨a1,a2,a3,a4,a5,a6,a7,a8,ak,al⟩:=x
 simp only[RR,Ex.ev,List.getD_cons_zero,List.getD_cons_succ]
 refine Ret.iR Tryz.func48 [.c 14 68,.s 15] ?_
 refine SmT ?_
 simp-implicitDefEqProofs+decide only[go_sem,hloc,d1,d2,Atr.T,I,sI,wl10,wl11,wl20,wl21,wl22,tn0,tn1,tn2]
 exact endC.W
set_option maxHeartbeats 2000000 in
theorem rsl21b (H:HX h md s [v,y,x0,x1]) (hp:pick≠which):RR 48 [.int .i64 21,x.T,sX ks,.int .i64 which,v.T,atT [x0,x1] y pick] bankF h m id md mc tie s v0 false (Ex.ev ⟨v,y,[x0,x1],ks⟩ .v s).s:=by
 obtain⟨hloc,hb,hkb,hv,hy,hx0,hx1,_⟩:=H
 have d1:decide (pick=which)=false:=decide_eq_false hp
 have d2:decide (pick≠which)=true:=decide_eq_true hp
 obtain⟨a1,a2,a3,a4,a5,a6,a7,a8,ak,al⟩:=x
 simp only[RR,Ex.ev,List.getD_cons_zero,List.getD_cons_succ]
 refine Ret.iR Tryz.func48 [.c 14 68,.s 15] ?_
 refine SmT ?_
 simp-implicitDefEqProofs+decide only[go_sem,hloc,d1,d2,Atr.T,I,sI,wl10,wl11,wl20,wl21,wl22,tn0,tn1,tn2]
 exact endC.W
set_option maxHeartbeats 2000000 in
theorem rsl22a (H:HX h md s [v,y,x0,x1]) (hp:pick=which):RR 48 [.int .i64 22,x.T,sX ks,.int .i64 which,v.T,atT [x0,x1] y pick] bankF h m id md mc tie s (Ex.ev ⟨v,y,[x0,x1],ks⟩ .v s).v true (Ex.ev ⟨v,y,[x0,x1],ks⟩ .v s).s:=by
 obtain⟨hloc,hb,hkb,hv,hy,hx0,hx1,_⟩:=H
 have d1:decide (pick=which)=true:=decide_eq_true hp
 have d2:decide (pick≠which)=false:=decide_eq_false (fun h=>h hp)
 obtain⟨a1,a2,a3,a4,a5,a6,a7,a8,ak,al⟩:=x
 simp only[RR,Ex.ev,List.getD_cons_zero,List.getD_cons_succ]
 refine Ret.iR Tryz.func48 [.c 14 68,.s 15] ?_
 refine SmT ?_
 simp-implicitDefEqProofs+decide only[go_sem,hloc,d1,d2,Atr.T,I,sI,wl10,wl11,wl20,wl21,wl22,tn0,tn1,tn2]
 exact endC.W
set_option maxHeartbeats 2000000 in
theorem rsl22b (H:HX h md s [v,y,x0,x1]) (hp:pick≠which):RR 48 [.int .i64 22,x.T,sX ks,.int .i64 which,v.T,atT [x0,x1] y pick] bankF h m id md mc tie s v0 false (Ex.ev ⟨v,y,[x0,x1],ks⟩ .v s).s:=by
 obtain⟨hloc,hb,hkb,hv,hy,hx0,hx1,_⟩:=H
 have d1:decide (pick=which)=false:=decide_eq_false hp
 have d2:decide (pick≠which)=true:=decide_eq_true hp
 obtain⟨a1,a2,a3,a4,a5,a6,a7,a8,ak,al⟩:=x
 simp only[RR,Ex.ev,List.getD_cons_zero,List.getD_cons_succ]
 refine Ret.iR Tryz.func48 [.c 14 68,.s 15] ?_
 refine SmT ?_
 simp-implicitDefEqProofs+decide only[go_sem,hloc,d1,d2,Atr.T,I,sI,wl10,wl11,wl20,wl21,wl22,tn0,tn1,tn2]
 exact endC.W
set_option maxHeartbeats 2000000 in
theorem rsl23 (H:HX h md s [v,y,x0,x1]):RR 48 [.int .i64 23,x.T,sX ks,.int .i64 which,v.T,atT [x0,x1] y pick] bankF h m id md mc tie s v0 false (Ex.ev ⟨v,y,[x0,x1],ks⟩ .v s).s:=by
 obtain⟨hloc,hb,hkb,hv,hy,hx0,hx1,_⟩:=H
 obtain⟨a1,a2,a3,a4,a5,a6,a7,a8,ak,al⟩:=x
 simp only[RR,Ex.ev,List.getD_cons_zero,List.getD_cons_succ]
 refine Ret.iR Tryz.func48 [.c 14 68,.s 15] ?_
 refine SmT ?_
 refine SmE ?_
 exact endC.W
set_option maxHeartbeats 2000000 in
theorem rsl24a (H:HX h md s [v,y,x0,x1,x2]):RR 48 [.int .i64 24,x.T,sX ks,.int .i64 (0),v.T,atT [x0,x1,x2] y pick] bankF h m id md mc tie s v0 false (Ex.ev ⟨v,y,[x0,x1,x2],ks⟩ .v s).s:=by
 obtain⟨hloc,hb,hkb,hv,hy,hx0,hx1,hx2,_⟩:=H
 obtain⟨a1,a2,a3,a4,a5,a6,a7,a8,ak,al⟩:=x
 simp only[RR,Ex.ev,List.getD_cons_zero,List.getD_cons_succ]
 refine Ret.iR Tryz.func48 [.c 14 68,.s 15] ?_
 refine SmT ?_
 refine SmE ?_
 exact endC.W
set_option maxHeartbeats 2000000 in
theorem rsl24b (H:HX h md s [v,y,x0,x1,x2]) (hp:pick=1):RR 48 [.int .i64 24,x.T,sX ks,.int .i64 (1),v.T,atT [x0,x1,x2] y pick] bankF h m id md mc tie s (Ex.ev ⟨v,y,[x0,x1,x2],ks⟩ .v s).v true (Ex.ev ⟨v,y,[x0,x1,x2],ks⟩ .v s).s:=by
 obtain⟨hloc,hb,hkb,hv,hy,hx0,hx1,hx2,_⟩:=H
 have d1:decide (pick=1)=true:=decide_eq_true hp
 have d2:decide (pick≠1)=false:=decide_eq_false (fun h=>h hp)
 obtain⟨a1,a2,a3,a4,a5,a6,a7,a8,ak,al⟩:=x
 simp only[RR,Ex.ev,List.getD_cons_zero,List.getD_cons_succ]
 refine Ret.iR Tryz.func48 [.c 14 68,.s 15] ?_
 refine SmT ?_
 simp-implicitDefEqProofs+decide only[go_sem,hloc,d1,d2,Atr.T,I,sI,wl10,wl11,wl20,wl21,wl22,tn0,tn1,tn2]
 exact endC.W
set_option maxHeartbeats 2000000 in
theorem rsl24c (H:HX h md s [v,y,x0,x1,x2]) (hp:pick≠1):RR 48 [.int .i64 24,x.T,sX ks,.int .i64 (1),v.T,atT [x0,x1,x2] y pick] bankF h m id md mc tie s v0 false (Ex.ev ⟨v,y,[x0,x1,x2],ks⟩ .v s).s:=by
 obtain⟨hloc,hb,hkb,hv,hy,hx0,hx1,hx2,_⟩:=H
 have d1:decide (pick=1)=false:=decide_eq_false hp
 have d2:decide (pick≠1)=true:=decide_eq_true hp
 obtain⟨a1,a2,a3,a4,a5,a6,a7,a8,ak,al⟩:=x
 simp only[RR,Ex.ev,List.getD_cons_zero,List.getD_cons_succ]
 refine Ret.iR Tryz.func48 [.c 14 68,.s 15] ?_
 refine SmT ?_
 simp-implicitDefEqProofs+decide only[go_sem,hloc,d1,d2,Atr.T,I,sI,wl10,wl11,wl20,wl21,wl22,tn0,tn1,tn2]
 exact endC.W
set_option maxHeartbeats 2000000 in
theorem rsl24d (H:HX h md s [v,y,x0,x1,x2]) (hp:pick=0):RR 48 [.int .i64 24,x.T,sX ks,.int .i64 (2),v.T,atT [x0,x1,x2] y pick] bankF h m id md mc tie s (Ex.ev ⟨v,y,[x0,x1,x2],ks⟩ .v s).v true (Ex.ev ⟨v,y,[x0,x1,x2],ks⟩ .v s).s:=by
 obtain⟨hloc,hb,hkb,hv,hy,hx0,hx1,hx2,_⟩:=H
 have d1:decide (pick=0)=true:=decide_eq_true hp
 have d2:decide (pick≠0)=false:=decide_eq_false (fun h=>h hp)
 obtain⟨a1,a2,a3,a4,a5,a6,a7,a8,ak,al⟩:=x
 simp only[RR,Ex.ev,List.getD_cons_zero,List.getD_cons_succ]
 refine Ret.iR Tryz.func48 [.c 14 68,.s 15] ?_
 refine SmT ?_
 simp-implicitDefEqProofs+decide only[go_sem,hloc,d1,d2,Atr.T,I,sI,wl10,wl11,wl20,wl21,wl22,tn0,tn1,tn2]
 exact endC.W
set_option maxHeartbeats 2000000 in
theorem rsl24e (H:HX h md s [v,y,x0,x1,x2]) (hp:pick≠0):RR 48 [.int .i64 24,x.T,sX ks,.int .i64 (2),v.T,atT [x0,x1,x2] y pick] bankF h m id md mc tie s v0 false (Ex.ev ⟨v,y,[x0,x1,x2],ks⟩ .v s).s:=by
 obtain⟨hloc,hb,hkb,hv,hy,hx0,hx1,hx2,_⟩:=H
 have d1:decide (pick=0)=false:=decide_eq_false hp
 have d2:decide (pick≠0)=true:=decide_eq_true hp
 obtain⟨a1,a2,a3,a4,a5,a6,a7,a8,ak,al⟩:=x
 simp only[RR,Ex.ev,List.getD_cons_zero,List.getD_cons_succ]
 refine Ret.iR Tryz.func48 [.c 14 68,.s 15] ?_
 refine SmT ?_
 simp-implicitDefEqProofs+decide only[go_sem,hloc,d1,d2,Atr.T,I,sI,wl10,wl11,wl20,wl21,wl22,tn0,tn1,tn2]
 exact endC.W
set_option maxHeartbeats 2000000 in
theorem rsl25a (H:HX h md s [v,y,x0,x1,x2]):RR 48 [.int .i64 25,x.T,sX ks,.int .i64 (0),v.T,atT [x0,x1,x2] y pick] bankF h m id md mc tie s (Ex.ev ⟨v,y,[x0,x1,x2],ks⟩ (.mul .v (.x 1)) s).v true (Ex.ev ⟨v,y,[x0,x1,x2],ks⟩ (.mul .v (.x 1)) s).s:=by
 obtain⟨hloc,hb,hkb,hv,hy,hx0,hx1,hx2,_⟩:=H
 obtain⟨a1,a2,a3,a4,a5,a6,a7,a8,ak,al⟩:=x
 obtain⟨w1,s1,e1,c1,f1,g1,q1⟩:=mulF m id mc tie hb (by omega) hv hx1
 simp only[RR,Ex.ev,List.getD_cons_zero,List.getD_cons_succ,e1]
 refine Ret.iR Tryz.func48 [.c 14 68,.s 15] ?_
 refine SmT ?_
 refine SmE ?_
 refine Goes.dB ?_
 refine SmE ?_
 refine CallD.B Tryz.call60 c1 ?_
 refine SmE ?_
 refine⟨.mk (by kernel_rfl),?_⟩
 apply run_sound 200
 refine SmE ?_
 exact endC.W
set_option maxHeartbeats 2000000 in
theorem rsl25b (H:HX h md s [v,y,x0,x1,x2]):RR 48 [.int .i64 25,x.T,sX ks,.int .i64 (1),v.T,atT [x0,x1,x2] y pick] bankF h m id md mc tie s (Ex.ev ⟨v,y,[x0,x1,x2],ks⟩ (.mul .v (.x 0)) s).v true (Ex.ev ⟨v,y,[x0,x1,x2],ks⟩ (.mul .v (.x 0)) s).s:=by
 obtain⟨hloc,hb,hkb,hv,hy,hx0,hx1,hx2,_⟩:=H
 obtain⟨a1,a2,a3,a4,a5,a6,a7,a8,ak,al⟩:=x
 obtain⟨w1,s1,e1,c1,f1,g1,q1⟩:=mulF m id mc tie hb (by omega) hv hx0
 simp only[RR,Ex.ev,List.getD_cons_zero,List.getD_cons_succ,e1]
 refine Ret.iR Tryz.func48 [.c 14 68,.s 15] ?_
 refine SmT ?_
 refine SmE ?_
 refine Goes.dB ?_
 refine SmE ?_
 refine CallD.B Tryz.call60 c1 ?_
 refine SmE ?_
 refine⟨.mk (by kernel_rfl),?_⟩
 apply run_sound 200
 refine SmE ?_
 exact endC.W
set_option maxHeartbeats 2000000 in
theorem rsl25c (H:HX h md s [v,y,x0,x1,x2]):RR 48 [.int .i64 25,x.T,sX ks,.int .i64 (2),v.T,atT [x0,x1,x2] y pick] bankF h m id md mc tie s (Ex.ev ⟨v,y,[x0,x1,x2],ks⟩ .v s).v true (Ex.ev ⟨v,y,[x0,x1,x2],ks⟩ .v s).s:=by
 obtain⟨hloc,hb,hkb,hv,hy,hx0,hx1,hx2,_⟩:=H
 obtain⟨a1,a2,a3,a4,a5,a6,a7,a8,ak,al⟩:=x
 simp only[RR,Ex.ev,List.getD_cons_zero,List.getD_cons_succ]
 refine Ret.iR Tryz.func48 [.c 14 68,.s 15] ?_
 refine SmT ?_
 refine SmE ?_
 exact endC.W
set_option maxHeartbeats 2000000 in
theorem rsl26a (H:HX h md s [v,y,x0,x1,x2]):RR 48 [.int .i64 26,x.T,sX ks,.int .i64 (0),v.T,atT [x0,x1,x2] y pick] bankF h m id md mc tie s (Ex.ev ⟨v,y,[x0,x1,x2],ks⟩ (.sub .v (.mul .v (.x 2))) s).v true (Ex.ev ⟨v,y,[x0,x1,x2],ks⟩ (.sub .v (.mul .v (.x 2))) s).s:=by
 obtain⟨hloc,hb,hkb,hv,hy,hx0,hx1,hx2,_⟩:=H
 obtain⟨a1,a2,a3,a4,a5,a6,a7,a8,ak,al⟩:=x
 obtain⟨w1,s1,e1,c1,f1,g1,q1⟩:=mulF m id mc tie hb (by omega) hv hx2
 obtain⟨w2,s2,e2,c2,f2,g2,q2⟩:=subF m id mc tie hb (by omega) (fun e=>hv (f1 e)) g1
 simp only[RR,Ex.ev,List.getD_cons_zero,List.getD_cons_succ,e1,e2]
 refine Ret.iR Tryz.func48 [.c 14 68,.s 15] ?_
 refine SmT ?_
 refine SmE ?_
 refine Goes.dB ?_
 refine SmE ?_
 refine CallD.B Tryz.call60 c1 ?_
 refine SmE ?_
 refine CallD.B Tryz.call60 c2 ?_
 refine SmE ?_
 refine⟨.mk (by kernel_rfl),?_⟩
 apply run_sound 200
 refine SmE ?_
 exact endC.W
set_option maxHeartbeats 2000000 in
theorem rsl26b (H:HX h md s [v,y,x0,x1,x2]):RR 48 [.int .i64 26,x.T,sX ks,.int .i64 (1),v.T,atT [x0,x1,x2] y pick] bankF h m id md mc tie s (Ex.ev ⟨v,y,[x0,x1,x2],ks⟩ (.mul .v (.x 2)) s).v true (Ex.ev ⟨v,y,[x0,x1,x2],ks⟩ (.mul .v (.x 2)) s).s:=by
 obtain⟨hloc,hb,hkb,hv,hy,hx0,hx1,hx2,_⟩:=H
 obtain⟨a1,a2,a3,a4,a5,a6,a7,a8,ak,al⟩:=x
 obtain⟨w1,s1,e1,c1,f1,g1,q1⟩:=mulF m id mc tie hb (by omega) hv hx2
 simp only[RR,Ex.ev,List.getD_cons_zero,List.getD_cons_succ,e1]
 refine Ret.iR Tryz.func48 [.c 14 68,.s 15] ?_
 refine SmT ?_
 refine SmE ?_
 refine Goes.dB ?_
 refine SmE ?_
 refine CallD.B Tryz.call60 c1 ?_
 refine SmE ?_
 refine⟨.mk (by kernel_rfl),?_⟩
 apply run_sound 200
 refine SmE ?_
 exact endC.W
set_option maxHeartbeats 2000000 in
theorem rsl26c (H:HX h md s [v,y,x0,x1,x2]):RR 48 [.int .i64 26,x.T,sX ks,.int .i64 (2),v.T,atT [x0,x1,x2] y pick] bankF h m id md mc tie s (Ex.ev ⟨v,y,[x0,x1,x2],ks⟩ (.mul .v (.sub (.x 1) (.x 0))) s).v true (Ex.ev ⟨v,y,[x0,x1,x2],ks⟩ (.mul .v (.sub (.x 1) (.x 0))) s).s:=by
 obtain⟨hloc,hb,hkb,hv,hy,hx0,hx1,hx2,_⟩:=H
 obtain⟨a1,a2,a3,a4,a5,a6,a7,a8,ak,al⟩:=x
 obtain⟨w1,s1,e1,c1,f1,g1,q1⟩:=subF m id mc tie hb (by omega) hx1 hx0
 obtain⟨w2,s2,e2,c2,f2,g2,q2⟩:=mulF m id mc tie hb (by omega) (fun e=>hv (f1 e)) g1
 simp only[RR,Ex.ev,List.getD_cons_zero,List.getD_cons_succ,e1,e2]
 refine Ret.iR Tryz.func48 [.c 14 68,.s 15] ?_
 refine SmT ?_
 refine SmE ?_
 refine Goes.dB ?_
 refine SmE ?_
 refine CallD.B Tryz.call60 c1 ?_
 refine SmE ?_
 refine CallD.B Tryz.call60 c2 ?_
 refine SmE ?_
 refine⟨.mk (by kernel_rfl),?_⟩
 apply run_sound 200
 refine SmE ?_
 exact endC.W
end
def refV (E:Ev) (s:Es) (q:Bool×Ex):Vx:=if q.1=true then (q.2.ev E s).v else v0
theorem refV_t {E:Ev} {s:Es} {e:Ex}:refV E s (true,e)=(e.ev E s).v:=rfl
theorem refV_f {E:Ev} {s:Es} {e:Ex}:refV E s (false,e)=v0:=rfl
theorem singleG (h:Heap) (m id:Nat) (md:Int) (mc:AV) (tie:Bool) (s:Es) (v y:Vx) (x0:Vx) (ks:List Vx) (op which pick:Int) (x:Atr) (hb:∀l,Lab.pool l=false→h l=none) (hk:h (.obj id)=some (bankF md mc s.k tie s.e)) (hkb:s.k<100000) (hv:Gd md s v) (hy:Gd md s y) (hx0:Gd md s x0) (hks:∀k∈ks,Gd md s k) (hop:1≤op∧op≤16) (hl:ks.length=(askedL op x).length) (hf:fairX op x=true):
  Ret Tryz.prog 100 [.ptr id,.int .i64 op,.int .i64 x.n,sX ks,v.T,atT [x0] y pick] h m [.t (refV ⟨v,y,[x0],ks⟩ s (slopeX op x.n which pick)).T,.t (.bool (slopeX op x.n which pick).1)] (upd h (.obj id) (some (bankF md mc ((slopeX op x.n which pick).2.ev ⟨v,y,[x0],ks⟩ s).s.k tie ((slopeX op x.n which pick).2.ev ⟨v,y,[x0],ks⟩ s).s.e))) m:=by
 suffices hs:RR 100 [.int .i64 op,.int .i64 x.n,sX ks,v.T,atT [x0] y pick] bankF h m id md mc tie s (refV ⟨v,y,[x0],ks⟩ s (slopeX op x.n which pick)) (slopeX op x.n which pick).1 ((slopeX op x.n which pick).2.ev ⟨v,y,[x0],ks⟩ s).s by
  unfold RR at hs
  rwa [upd_id hk]at hs
 have hc:op=1∨op=2∨op=3∨op=4∨op=5∨op=6∨op=7∨op=8∨op=9∨op=10∨op=11∨op=12∨op=13∨op=14∨op=15∨op=16:=by omega
 rcases hc with rfl|rfl|rfl|rfl|rfl|rfl|rfl|rfl|rfl|rfl|rfl|rfl|rfl|rfl|rfl|rfl
 ·rw[show slopeX 1 x.n which pick=(true,(.neg .v)) by simp[slopeX]]
  rw[refV_t]
  exact single1 ⟨fun d j=>hb _ rfl,hb,hkb,hv,hy,hx0,trivial⟩
 ·rw[show slopeX 2 x.n which pick=(true,(.neg (.mul .v (.mul .y .y)))) by simp[slopeX]]
  rw[refV_t]
  exact single2 ⟨fun d j=>hb _ rfl,hb,hkb,hv,hy,hx0,trivial⟩
 ·rw[show slopeX 3 x.n which pick=(true,(.mul .v (.add (.x 0) (.x 0)))) by simp[slopeX]]
  rw[refV_t]
  exact single3 ⟨fun d j=>hb _ rfl,hb,hkb,hv,hy,hx0,trivial⟩
 ·by_cases hp:pick=1
  ·rw[show slopeX 4 x.n which pick=(true,(.neg .v)) by simp[slopeX,hp]]
   rw[refV_t]
   exact single4a ⟨fun d j=>hb _ rfl,hb,hkb,hv,hy,hx0,trivial⟩ hp
  ·rw[show slopeX 4 x.n which pick=(true,.v) by simp[slopeX,hp]]
   rw[refV_t]
   exact single4b ⟨fun d j=>hb _ rfl,hb,hkb,hv,hy,hx0,trivial⟩ hp
 ·rw[show slopeX 5 x.n which pick=(false,.v) by simp[slopeX]]
  rw[refV_f]
  exact single5 ⟨fun d j=>hb _ rfl,hb,hkb,hv,hy,hx0,trivial⟩
 ·by_cases hp:pick=1
  ·rw[show slopeX 6 x.n which pick=(true,.v) by simp[slopeX,hp]]
   rw[refV_t]
   exact single6a ⟨fun d j=>hb _ rfl,hb,hkb,hv,hy,hx0,trivial⟩ hp
  ·rw[show slopeX 6 x.n which pick=(false,.v) by simp[slopeX,hp]]
   rw[refV_f]
   exact single6b ⟨fun d j=>hb _ rfl,hb,hkb,hv,hy,hx0,trivial⟩ hp
 ·rw[show slopeX 7 x.n which pick=(true,(.mul .v .y)) by simp[slopeX]]
  rw[refV_t]
  exact single7 ⟨fun d j=>hb _ rfl,hb,hkb,hv,hy,hx0,trivial⟩
 ·rw[show slopeX 8 x.n which pick=(true,(.div .v (.x 0))) by simp[slopeX]]
  rw[refV_t]
  exact single8 ⟨fun d j=>hb _ rfl,hb,hkb,hv,hy,hx0,trivial⟩
 ·rw[show slopeX 9 x.n which pick=(true,(.div .v (.add .y .y))) by simp[slopeX]]
  rw[refV_t]
  exact single9 ⟨fun d j=>hb _ rfl,hb,hkb,hv,hy,hx0,trivial⟩
 ·obtain⟨k0,rfl⟩:=list1 (hl.trans (asked_k (by decide)))
  have hk0:=hks k0 (by simp)
  rw[show slopeX 10 x.n which pick=(true,(.mul .v (.mul .y (.sub (.k 0) .y)))) by simp[slopeX]]
  rw[refV_t]
  exact single10 ⟨fun d j=>hb _ rfl,hb,hkb,hv,hy,hx0,hk0,trivial⟩
 ·obtain⟨k0,rfl⟩:=list1 (hl.trans (asked_k (by decide)))
  have hk0:=hks k0 (by simp)
  rw[show slopeX 11 x.n which pick=(true,(.mul .v (.sub (.k 0) (.mul .y .y)))) by simp[slopeX]]
  rw[refV_t]
  exact single11 ⟨fun d j=>hb _ rfl,hb,hkb,hv,hy,hx0,hk0,trivial⟩
 ·by_cases h0:x.n=0
  ·rw[show slopeX 12 x.n which pick=(false,.v) by simp[slopeX,h0]]
   rw[refV_f]
   exact single12a ⟨fun d j=>hb _ rfl,hb,hkb,hv,hy,hx0,trivial⟩ h0
  by_cases h1:x.n=1
  ·rw[show slopeX 12 x.n which pick=(true,.v) by simp[slopeX,h0,h1]]
   rw[refV_t]
   exact single12c ⟨fun d j=>hb _ rfl,hb,hkb,hv,hy,hx0,trivial⟩ h1
  ·obtain⟨k0,k1,rfl⟩:=list2 (hl.trans (asked_12 h0 h1))
   have hk0:=hks k0 (by simp)
   have hk1:=hks k1 (by simp)
   rw[show slopeX 12 x.n which pick=(true,(.mul .v (.mul (.k 1) (.pow (x.n-1))))) by simp[slopeX,h0,h1]]
   rw[refV_t]
   exact single12b ⟨fun d j=>hb _ rfl,hb,hkb,hv,hy,hx0,hk0,hk1,trivial⟩ h0 h1 (fair_n hf rfl)
 ·obtain⟨k0,rfl⟩:=list1 (hl.trans (asked_k (by decide)))
  have hk0:=hks k0 (by simp)
  rw[show slopeX 13 x.n which pick=(true,(.mul .v (.k 0))) by simp[slopeX]]
  rw[refV_t]
  exact single13 ⟨fun d j=>hb _ rfl,hb,hkb,hv,hy,hx0,hk0,trivial⟩
 ·rw[show slopeX 14 x.n which pick=(true,.v) by simp[slopeX]]
  rw[refV_t]
  exact single14 ⟨fun d j=>hb _ rfl,hb,hkb,hv,hy,hx0,trivial⟩
 ·by_cases hp:pick=0
  ·rw[show slopeX 15 x.n which pick=(true,.v) by simp[slopeX,hp]]
   rw[refV_t]
   exact single15a ⟨fun d j=>hb _ rfl,hb,hkb,hv,hy,hx0,trivial⟩ hp
  ·rw[show slopeX 15 x.n which pick=(false,.v) by simp[slopeX,hp]]
   rw[refV_f]
   exact single15b ⟨fun d j=>hb _ rfl,hb,hkb,hv,hy,hx0,trivial⟩ hp
 ·by_cases hp:pick=1
  ·obtain⟨k0,rfl⟩:=list1 (hl.trans (asked_k (by decide)))
   have hk0:=hks k0 (by simp)
   rw[show slopeX 16 x.n which pick=(true,(.mul .v (.k 0))) by simp[slopeX,hp]]
   rw[refV_t]
   exact single16a ⟨fun d j=>hb _ rfl,hb,hkb,hv,hy,hx0,hk0,trivial⟩ hp
  ·obtain⟨k0,rfl⟩:=list1 (hl.trans (asked_k (by decide)))
   have hk0:=hks k0 (by simp)
   rw[show slopeX 16 x.n which pick=(true,.v) by simp[slopeX,hp]]
   rw[refV_t]
   exact single16b ⟨fun d j=>hb _ rfl,hb,hkb,hv,hy,hx0,hk0,trivial⟩ hp
set_option maxHeartbeats 2000000 in
theorem rslS (h:Heap) (m id:Nat) (md:Int) (mc:AV) (tie:Bool) (s:Es) (v y:Vx) (x0:Vx) (ks:List Vx) (op which pick:Int) (x:Atr) (hb:∀l,Lab.pool l=false→h l=none) (hk:h (.obj id)=some (bankF md mc s.k tie s.e)) (hkb:s.k<100000) (hv:Gd md s v) (hy:Gd md s y) (hx0:Gd md s x0) (hks:∀k∈ks,Gd md s k) (hop:1≤op∧op≤16) (hl:ks.length=(askedL op x).length) (hf:fairX op x=true):
  Ret Tryz.prog 48 [.ptr id,.int .i64 op,x.T,sX ks,.int .i64 which,v.T,atT [x0] y pick] h m [.t (refV ⟨v,y,[x0],ks⟩ s (slopeX op x.n which pick)).T,.t (.bool (slopeX op x.n which pick).1)] (upd h (.obj id) (some (bankF md mc ((slopeX op x.n which pick).2.ev ⟨v,y,[x0],ks⟩ s).s.k tie ((slopeX op x.n which pick).2.ev ⟨v,y,[x0],ks⟩ s).s.e))) m:=by
 have hloc:∀d j,h (.loc d j)=none:=fun d j=>hb _ rfl
 have c1:=singleG h m id md mc tie s v y x0 ks op which pick x hb hk hkb hv hy hx0 hks hop hl hf
 have d1:decide (op<17)=true:=decide_eq_true (by omega)
 obtain⟨⟨b,e⟩,he⟩:∃q,slopeX op x.n which pick=q:=⟨_,rfl⟩
 rw[he]at c1⊢
 obtain⟨w1,e1⟩:∃q,refV ⟨v,y,[x0],ks⟩ s (b,e)=q:=⟨_,rfl⟩
 rw[e1]at c1⊢
 dsimp only at c1⊢
 obtain⟨⟨w2,s1⟩,e2⟩:∃q,e.ev ⟨v,y,[x0],ks⟩ s=q:=⟨_,rfl⟩
 rw[e2]at c1⊢
 dsimp only at c1⊢
 obtain⟨a1,a2,a3,a4,a5,a6,a7,a8,ak,al⟩:=x
 refine Ret.iC Tryz.func48 [.c 14 68,.s 15] ?_
 simp only[atT,sX,List.map_cons,List.map_nil,Vx_T]at c1⊢
 simp-implicitDefEqProofs+decide only[go_sem,hloc,Atr.T,I,sI,d1]
 refine CallG.Q _ Tryz.call100 c1 ?_
 refine SmA ?_
 exact endC.W
theorem rslG (h:Heap) (m id:Nat) (md:Int) (mc:AV) (tie:Bool) (s:Es) (v y:Vx) (xs ks:List Vx) (op which pick:Int) (x:Atr) (hb:∀l,Lab.pool l=false→h l=none) (hk:h (.obj id)=some (bankF md mc s.k tie s.e)) (hkb:s.k<100000) (hv:Gd md s v) (hy:Gd md s y) (hxs:∀k∈xs,Gd md s k) (hks:∀k∈ks,Gd md s k) (hop:1≤op∧op≤26) (hl:(xs.length:Int)=manyX op) (hlk:ks.length=(askedL op x).length) (hw:0≤which∧which<manyX op) (hf:fairX op x=true):
  Ret Tryz.prog 48 [.ptr id,.int .i64 op,x.T,sX ks,.int .i64 which,v.T,atT xs y pick] h m [.t (refV ⟨v,y,xs,ks⟩ s (slopeX op x.n which pick)).T,.t (.bool (slopeX op x.n which pick).1)] (upd h (.obj id) (some (bankF md mc ((slopeX op x.n which pick).2.ev ⟨v,y,xs,ks⟩ s).s.k tie ((slopeX op x.n which pick).2.ev ⟨v,y,xs,ks⟩ s).s.e))) m:=by
 by_cases h2:op<17
 ·have hm:manyX op=1:=by unfold manyX;rw[if_neg (by omega),if_pos h2]
  rw[hm]at hl hw
  obtain⟨x0,rfl⟩:=list1 (show xs.length=1 by omega)
  exact rslS h m id md mc tie s v y x0 ks op which pick x hb hk hkb hv hy (hxs x0 (by simp)) hks (by omega) hlk hf
 suffices hs:RR 48 [.int .i64 op,x.T,sX ks,.int .i64 which,v.T,atT xs y pick] bankF h m id md mc tie s (refV ⟨v,y,xs,ks⟩ s (slopeX op x.n which pick)) (slopeX op x.n which pick).1 ((slopeX op x.n which pick).2.ev ⟨v,y,xs,ks⟩ s).s by
  unfold RR at hs
  rwa [upd_id hk]at hs
 by_cases h3:op<24
 ·have hm:manyX op=2:=by unfold manyX;rw[if_neg (by omega),if_neg (by omega),if_pos h3]
  rw[hm]at hl hw
  obtain⟨x0,x1,rfl⟩:=list2 (show xs.length=2 by omega)
  have H:HX h md s [v,y,x0,x1]:=⟨fun d j=>hb _ rfl,hb,hkb,hv,hy,hxs x0 (by simp),hxs x1 (by simp),trivial⟩
  have hc:op=17∨op=18∨op=19∨op=20∨op=21∨op=22∨op=23:=by omega
  have hc2:which=0∨which=1:=by omega
  rcases hc with rfl|rfl|rfl|rfl|rfl|rfl|rfl
  ·rw[show slopeX 17 x.n which pick=(true,.v) by simp[slopeX]]
   rw[refV_t]
   exact rsl17 H
  ·rcases hc2 with rfl|rfl
   ·rw[show slopeX 18 x.n 0 pick=(true,.v) by simp[slopeX]]
    rw[refV_t]
    exact rsl18b H
   ·rw[show slopeX 18 x.n 1 pick=(true,(.neg .v)) by simp[slopeX]]
    rw[refV_t]
    exact rsl18a H
  ·rcases hc2 with rfl|rfl
   ·rw[show slopeX 19 x.n 0 pick=(true,(.mul .v (.x 1))) by simp[slopeX]]
    rw[refV_t]
    exact rsl19a H
   ·rw[show slopeX 19 x.n 1 pick=(true,(.mul .v (.x 0))) by simp[slopeX]]
    rw[refV_t]
    exact rsl19b H
  ·rcases hc2 with rfl|rfl
   ·rw[show slopeX 20 x.n 0 pick=(true,(.div .v (.x 1))) by simp[slopeX]]
    rw[refV_t]
    exact rsl20a H
   ·rw[show slopeX 20 x.n 1 pick=(true,(.neg (.div (.mul .v .y) (.x 1)))) by simp[slopeX]]
    rw[refV_t]
    exact rsl20b H
  ·by_cases hp:pick=which
   ·rw[show slopeX 21 x.n which pick=(true,.v) by simp[slopeX,hp]]
    rw[refV_t]
    exact rsl21a H hp
   ·rw[show slopeX 21 x.n which pick=(false,.v) by simp[slopeX,hp]]
    rw[refV_f]
    exact rsl21b H hp
  ·by_cases hp:pick=which
   ·rw[show slopeX 22 x.n which pick=(true,.v) by simp[slopeX,hp]]
    rw[refV_t]
    exact rsl22a H hp
   ·rw[show slopeX 22 x.n which pick=(false,.v) by simp[slopeX,hp]]
    rw[refV_f]
    exact rsl22b H hp
  ·rw[show slopeX 23 x.n which pick=(false,.v) by simp[slopeX]]
   rw[refV_f]
   exact rsl23 H
 ·have hm:manyX op=3:=by unfold manyX;rw[if_neg (by omega),if_neg (by omega),if_neg h3]
  rw[hm]at hl hw
  obtain⟨x0,x1,x2,rfl⟩:=list3 (show xs.length=3 by omega)
  have H:HX h md s [v,y,x0,x1,x2]:=⟨fun d j=>hb _ rfl,hb,hkb,hv,hy,hxs x0 (by simp),hxs x1 (by simp),hxs x2 (by simp),trivial⟩
  have hc:op=24∨op=25∨op=26:=by omega
  have hc2:which=0∨which=1∨which=2:=by omega
  rcases hc with rfl|rfl|rfl
  ·rcases hc2 with rfl|rfl|rfl
   ·rw[show slopeX 24 x.n 0 pick=(false,.v) by simp[slopeX]]
    rw[refV_f]
    exact rsl24a H
   ·by_cases hp:pick=1
    ·rw[show slopeX 24 x.n 1 pick=(true,.v) by simp[slopeX,hp]]
     rw[refV_t]
     exact rsl24b H hp
    ·rw[show slopeX 24 x.n 1 pick=(false,.v) by simp[slopeX,hp]]
     rw[refV_f]
     exact rsl24c H hp
   ·by_cases hp:pick=0
    ·rw[show slopeX 24 x.n 2 pick=(true,.v) by simp[slopeX,hp]]
     rw[refV_t]
     exact rsl24d H hp
    ·rw[show slopeX 24 x.n 2 pick=(false,.v) by simp[slopeX,hp]]
     rw[refV_f]
     exact rsl24e H hp
  ·rcases hc2 with rfl|rfl|rfl
   ·rw[show slopeX 25 x.n 0 pick=(true,(.mul .v (.x 1))) by simp[slopeX]]
    rw[refV_t]
    exact rsl25a H
   ·rw[show slopeX 25 x.n 1 pick=(true,(.mul .v (.x 0))) by simp[slopeX]]
    rw[refV_t]
    exact rsl25b H
   ·rw[show slopeX 25 x.n 2 pick=(true,.v) by simp[slopeX]]
    rw[refV_t]
    exact rsl25c H
  ·rcases hc2 with rfl|rfl|rfl
   ·rw[show slopeX 26 x.n 0 pick=(true,(.sub .v (.mul .v (.x 2)))) by simp[slopeX]]
    rw[refV_t]
    exact rsl26a H
   ·rw[show slopeX 26 x.n 1 pick=(true,(.mul .v (.x 2))) by simp[slopeX]]
    rw[refV_t]
    exact rsl26b H
   ·rw[show slopeX 26 x.n 2 pick=(true,(.mul .v (.sub (.x 1) (.x 0)))) by simp[slopeX]]
    rw[refV_t]
    exact rsl26c H
end Go.Fm
