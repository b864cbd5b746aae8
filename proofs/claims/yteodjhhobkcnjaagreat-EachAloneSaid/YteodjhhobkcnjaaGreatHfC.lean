/- each.Slope. -/
import Derived.Test.YteodjhhobkcnjaaGreatHfB
import Derived.Test.YteodjhhobkcnjaaGreatHeC
import Derived.Test.YteodjhhobkcnjaaGreatHeA
import Derived.Test.YteodjhhobkcnjaaGreatHdD
import Derived.Test.YteodjhhobkcnjaaGreatHcB
set_option linter.unusedVariables false
set_option linter.unusedSimpArgs false
namespace Go.Fm
open Go.Proofs
set_option maxRecDepth 100000
attribute [local irreducible] tiOf
def okS (op which:Int) (nx nk:Nat) (x:Atr):Prop:=isX op=true∧0≤which∧which<manyX op∧(nx:Int)=manyX op∧nk=(askedL op x).length∧fairX op x=true∧op≠5∧op≠23
instance (op which:Int) (nx nk:Nat) (x:Atr):Decidable (okS op which nx nk x):=by unfold okS;infer_instance
structure Op1 where
 d:List Int
 v:List Vx
def Op1.T (a:Op1):T:=argX a.d a.v
def opdX (out:List Int) (n:Int) (a:Op1):Vx:=a.v.getD (srcN a.d out n).toNat (.q 0)
def OpIn (out:List Int) (n:Int) (a:Op1):Prop:=twoS a.d out=(out,0)∧0≤srcN a.d out n∧srcN a.d out n<a.v.length
set_option maxHeartbeats 2000000 in
theorem operands_ok (out:List Int) (A:List Op1) (n:Int) (hn:0≤n∧n<cnt out) (hA:A.length<1000000000) (hf:∀a∈A,OpIn out n a):
  Pure Tryz.prog 89 [sI out,.slice (A.map Op1.T),.int .i64 n] [.t (sX (A.map (opdX out n))),.t (.bool true)]:=by
 refine Pure.I Tryz.func89 [6,7] ?_
 simp-implicitDefEqProofs+decide only[go_sem,sX,sI,List.length_map]
 refine Goes.wk (Wk.nilRow (d:=8) (lab:=.loc 101 0) (size:=5) (by simp-implicitDefEqProofs+decide only[go_sem]) (by simp-implicitDefEqProofs+decide only[go_sem]) rfl (by decide)) ?_
 refine Goes.loop (X:=Nat) (fun i=>⟨ofL [(0,.t (sI out)),(2,.t (.int .i64 n)),(8,.sl (.loc 101 0) i 0 i),(13,.t (.slice (A.map Op1.T))),(14,.t (.int .i64 A.length)),(15,.t (.int .i64 i))],
   ofH (fun _=>none) [(.loc 101 0,.arr 5 (((A.take i).map (opdX out n)).map Vx.T) i 0)],0⟩) (fun i=>i≤A.length) (fun i=>A.length-i) 0 ?_ (by omega) ?_
 ·refine Wk.rows _ _ (fun _ _=>rfl) rfl rfl ?_ (fun l hp=>by cases l<;>first|rfl|cases hp) ?_ ?_
  ·simp-implicitDefEqProofs+decide only[go_sem,ofH,List.take_zero,List.map_nil]<;>first|rfl|exact⟨rfl,rfl⟩|exact⟨rfl,rfl,rfl⟩|skip
  ·simp-implicitDefEqProofs+decide only[go_sem,sI]<;>rfl
  ·simp-implicitDefEqProofs+decide only[go_sem,sI]
 rintro i hi J hJ
 apply run_sound 200
 refine Sm ?_
 apply selP_dec<;>intro hc
 ·obtain⟨⟨d,v⟩,ha⟩:=getI (show i<A.length by omega)
  obtain⟨h1,h2,h3⟩:=hf _ (List.mem_of_getElem? ha)
  dsimp only at h1 h2 h3
  have cs:=sourceP_ok d out n h1 hn
  obtain⟨q,hq⟩:=Int.eq_ofNat_of_zero_le h2
  have hop:opdX out n ⟨d,v⟩=v.getD q (.q 0):=by unfold opdX;dsimp only;rw[hq];rfl
  rw[hq]at cs h3
  have hv:=getD_X (xs:=v) (i:=q) (by omega)
  obtain⟨y,hy⟩:∃y,v.getD q (.q 0)=y:=⟨_,rfl⟩
  rw[hy]at hv hop
  have hst:((A.take (i+1)).map (opdX out n)).map Vx.T=((A.take i).map (opdX out n)).map Vx.T++[.agg [.bool y.neg,sW y.p,sW y.qq,.int .u64 y.bits,.int .i64 0]]:=by
   rw[List.take_add_one,ha,List.map_append,List.map_append]
   show _++[(opdX out n ⟨d,v⟩).T]=_
   rw[hop,Vx_T]
  have hlt:(((A.take i).map (opdX out n)).map Vx.T).length=i:=by rw[List.length_map,List.length_map,List.length_take];omega
  have hge:decide ((q:Int)≥(v.length:Int))=false:=decide_eq_false (by omega)
  have hge':decide (v.length≤q)=false:=decide_eq_false (by omega)
  have hw:=wS (show i<1000000000000 by omega)
  have hnb:i+1<big:=by unfold big;omega
  simp only[sI]at cs
  simp-implicitDefEqProofs+decide only[go_sem,ha,Op1.T,argX,sX,sI,ofH]
  refine CallG.P _ Tryz.call65 (cs) ?_
  simp-implicitDefEqProofs+decide only[go_sem,hge,hge',List.length_map,hv,Vx_T,Int.toNat_natCast,hlt,hnb,hw,ofH]
  refine hJ (i+1) _ (by omega) (by omega) (Wk.rows _ _ (fun _ _=>rfl) rfl rfl ?_ (fun l hp=>by cases l<;>first|rfl|cases hp) ?_ ?_)
  ·simp-implicitDefEqProofs+decide only[go_sem,ofH,hst,sI]<;>first|rfl|exact⟨rfl,rfl⟩|exact⟨rfl,rfl,rfl⟩|skip
  ·simp-implicitDefEqProofs+decide only[go_sem,sI]<;>rfl
  ·simp-implicitDefEqProofs+decide only[go_sem,sI]
 ·obtain rfl:i=A.length:=by omega
  have htk:List.take A.length A=A:=List.take_of_length_le (Nat.le_refl _)
  rw[htk]
  have htk2:List.take A.length ((A.map (opdX out n)).map Vx.T)=(A.map (opdX out n)).map Vx.T:=List.take_of_length_le (by simp)
  simp-implicitDefEqProofs+decide only[go_sem,ofH]
  exact endF.rowT (.inr rfl) (by simp-implicitDefEqProofs+decide only[go_sem];rfl) (by simp-implicitDefEqProofs+decide only[go_sem];rfl) (by simp) rfl (by simp-implicitDefEqProofs+decide only[go_sem]) rfl (fun l hp=>by cases l<;>first|rfl|cases hp) rfl
theorem rat_ok (n:Nat) (h0:n≠0) (h:n<18446744073709551616):Pure Tryz.prog 86 [.int .u64 n] [.t (vT (n:Rat))]:=by
 have d0:decide ((n:Int)=0)=false:=decide_eq_false (by omega)
 have e1:neg1 (n:Rat)=false:=congrArg Rt.neg (qR_nat n)
 have e2:wordsOf ((n:Rat)).num.natAbs=[n]:=(congrArg Rt.p (qR_nat n)).trans (wordsOf_small h0 h)
 have e3:wordsOf ((n:Rat)).den=[1]:=congrArg Rt.q (qR_nat n)
 rw[vT_eq,e1,e2,e3]
 refine Pure.J Tryz.func86 [.c 2 _] ?_
 simp-implicitDefEqProofs+decide only[go_sem,d0]
 exact endC.Q
theorem choice_ok (b:Bool):Pure Tryz.prog 152 [.bool b,.nofn] [.t (.int .i64 (if b=true then 1 else 0))]:=by
 refine Pure.I Tryz.func152 [4] ?_
 cases b
 ·refine Sm ?_
  exact endF.V1 4 (.int .i64 0)
 ·refine Sm ?_
  exact endF.V1 4 (.int .i64 1)
theorem chosen_ok (l:List Vx) (i:Nat) (x:Vx) (hi:l[i]?=some x):Pure Tryz.prog 151 [.int .i64 i,sX l] [.t x.T,.t (.int .i64 i)]:=by
 have hx:(l.map Vx.T)[i]?=some x.T:=by rw[List.getElem?_map,hi];rfl
 refine Pure.J Tryz.func151 [.c 4 _,.s 5] ?_
 rw[Vx_T]at hx⊢
 simp-implicitDefEqProofs+decide only[go_sem,sX,hx,Int.toNat_natCast]
 exact endC.twoV (.inr rfl) (by simp-implicitDefEqProofs+decide only[go_sem,valC];rfl) (by simp-implicitDefEqProofs+decide only[go_sem,valC];rfl) rfl rfl (fun l hp=>by cases l<;>first|rfl|cases hp) rfl
theorem compares21:Pure Tryz.prog 90 [.int .i64 21] [.t (.bool true)]:=by
 refine Pure.I Tryz.func90 [2] ?_
 refine Sm ?_
 exact endF.V1 2 (.bool true)
theorem keeps_two (h:Heap) (i j:Nat) (c d:List AV):Keeps h (upd (upd h (.obj i) (some (.box c))) (.obj j) (some (.box d))):=by
 refine⟨fun id' cs hc=> ?_,fun i' o hc=> ?_⟩
 ·by_cases e:Lab.obj id'=.obj j
  ·rw[e,upd_same];exact⟨_,rfl⟩
  ·rw[upd_ne _ _ _ _ e]
   by_cases e2:Lab.obj id'=.obj i
   ·rw[e2,upd_same];exact⟨_,rfl⟩
   ·rw[upd_ne _ _ _ _ e2];exact⟨_,hc⟩
 ·rw[upd_ne _ _ _ _ (fun e=>by cases e),upd_ne _ _ _ _ (fun e=>by cases e)]
  exact⟨_,hc,ArgStep.refl _⟩
set_option maxHeartbeats 2000000 in
theorem knows21 (h:Heap) (m id:Nat) (x:Atr) (hb:∀l,Lab.pool l=false→h l=none) (h1:h (.obj m)=none) (h2:h (.obj (m+1))=none):
  Ret Tryz.prog 88 [.ptr id,.int .i64 21,x.T] h m [.t (knT [])] (upd (upd h (.obj m) (some (.box [.t (.ptr id)]))) (.obj (m+1)) (some (.box [.nil]))) (m+2):=by
 have hloc:∀d j,h (.loc d j)=none:=fun d j=>hb _ rfl
 obtain⟨a1,a2,a3,a4,a5,a6,a7,a8,ak,al⟩:=x
 refine Ret.introC Tryz.func88 rfl (rv:=[.c 6 90]) rfl (by simp[Tryz.ntmps88]) (by decide) (sites:=fun d=>d==3||d==7) (upd_hb (upd_hb hb)) (keeps_two _ _ _ _ _) ?_
 have hm1:(m+1=m)=False:=eq_false (by omega)
 have hm2:(m=m+1)=False:=eq_false (by omega)
 apply run_sound 200
 simp-implicitDefEqProofs+decide only[go_sem,hloc,Atr.T,I,sI,h1,h2,hm1,hm2]
 exact endC.one (ws:=[]) (.inr rfl) (by simp-implicitDefEqProofs+decide only[go_sem,valC,hm1,hm2];rfl) (by simp-implicitDefEqProofs+decide only[go_sem,reify,reifyL,reify1];rfl) (by rintro (_|_|_|_|_) hp<;>first|(cases hp;done)|simp-implicitDefEqProofs+decide only[go_sem,hloc,hm1,hm2]) rfl
set_option maxHeartbeats 2000000 in
theorem picks21 (h:Heap) (m id:Nat) (md:Int) (s:Bs) (x0 x1:Vx) (ks:List Vx) (B:BkM h id 4 (obG id md s) s.met) (hml:s.met.length<60000) (mx:x0.md=md) (my:x1.md=md) (bx:x0.B 10000000) (by':x1.B 10000000):
  Ret Tryz.prog 92 [.ptr id,.int .i64 21,sX ks,sX [x0,x1]] h m [.t (if lessV x0 x1=true then x1 else x0).T,.t (.int .i64 (if lessV x0 x1=true then 1 else 0))] (bkU h id 4 (obG id md (lessS s x0 x1)) (lessS s x0 x1).met) m:=by
 have hb:=B.hb
 have hloc:∀d j,h (.loc d j)=none:=fun d j=>hb _ rfl
 have cl:=lessG_ok h m id md s x0 x1 B hml mx my bx by'
 have hu0:=bkU_self B
 obtain⟨o,ho⟩:=mtR_snoc s.met (lessV x0 x1)
 have hwr:∀l,bkU h id 4 (obG id md (lessS s x0 x1)) (lessS s x0 x1).met l=writes h [(.obj id,obG id md (lessS s x0 x1)),(.fld id 4,o)] l:=fun l=>by
  have:=bkU_writes (h:=h) (id:=id) (f:=4) (o:=obG id md s) (o':=obG id md (lessS s x0 x1)) (met:=s.met) ho l
  rw[hu0]at this
  exact this
 have hlu:∀d j,bkU h id 4 (obG id md (lessS s x0 x1)) (lessS s x0 x1).met (.loc d j)=none:=fun d j=>bkU_hb hb _ rfl
 have cc:=choice_ok (lessV x0 x1)
 have ch0:=chosen_ok [x0,x1] 0 x0 rfl
 have ch1:=chosen_ok [x0,x1] 1 x1 rfl
 refine Ret.introC Tryz.func92 rfl (rv:=[.c 8 68,.s 9]) rfl (by simp[Tryz.ntmps92]) (by decide) (sites:=fun _=>false) (bkU_hb hb) (bkU_keeps B) ?_
 obtain⟨s',hs'⟩:∃s',lessS s x0 x1=s':=⟨_,rfl⟩
 rw[hs']at cl hwr hlu⊢
 obtain⟨b,hb'⟩:∃b,lessV x0 x1=b:=⟨_,rfl⟩
 rw[hb']at cl cc⊢
 simp only[sX,List.map_cons,List.map_nil,Vx_T]at cl ch0 ch1⊢
 cases b with
 | true =>
   simp only[if_true]at cc⊢
   apply run_sound 200
   refine SmA ?_
   refine Goes.dP ?_
   refine SmA ?_
   refine CallD.make _ [(.obj id,obG id md s'),(.fld id 4,o)] 0 Tryz.call132 cl rfl hb (by rintro (_|_|_|_|_) hp<;>first|(cases hp;done)|simp-implicitDefEqProofs+decide only[go_sem,hloc]) (fun l _=>hwr l) rfl (.inr rfl) ?_
   simp-implicitDefEqProofs+decide only[go_sem,hloc,hlu]
   refine CallD.P _ Tryz.call152 cc ?_
   simp-implicitDefEqProofs+decide only[go_sem,hloc,hlu]
   refine CallD.PS _ Tryz.call151 ch1 ?_
   simp-implicitDefEqProofs+decide only[go_sem,hloc,hlu]
   refine⟨.mk (by kernel_rfl),?_⟩
   apply run_sound 200
   simp-implicitDefEqProofs+decide only[go_sem,hloc,hlu]
   exact endC.twoV (.inr rfl) (by simp-implicitDefEqProofs+decide only[go_sem,valC];rfl) (by simp-implicitDefEqProofs+decide only[go_sem,valC];rfl) rfl rfl (by rintro (_|_|_|_|_) hp<;>first|(cases hp;done)|simp-implicitDefEqProofs+decide only[go_sem,hloc,hlu,hwr]) rfl
 | false =>
   simp only[Bool.false_eq_true,if_false]at cc⊢
   apply run_sound 200
   refine SmA ?_
   refine Goes.dP ?_
   refine SmA ?_
   refine CallD.make _ [(.obj id,obG id md s'),(.fld id 4,o)] 0 Tryz.call132 cl rfl hb (by rintro (_|_|_|_|_) hp<;>first|(cases hp;done)|simp-implicitDefEqProofs+decide only[go_sem,hloc]) (fun l _=>hwr l) rfl (.inr rfl) ?_
   simp-implicitDefEqProofs+decide only[go_sem,hloc,hlu]
   refine CallD.P _ Tryz.call152 cc ?_
   simp-implicitDefEqProofs+decide only[go_sem,hloc,hlu]
   refine CallD.PS _ Tryz.call151 ch0 ?_
   simp-implicitDefEqProofs+decide only[go_sem,hloc,hlu]
   refine⟨.mk (by kernel_rfl),?_⟩
   apply run_sound 200
   simp-implicitDefEqProofs+decide only[go_sem,hloc,hlu]
   exact endC.twoV (.inr rfl) (by simp-implicitDefEqProofs+decide only[go_sem,valC];rfl) (by simp-implicitDefEqProofs+decide only[go_sem,valC];rfl) rfl rfl (by rintro (_|_|_|_|_) hp<;>first|(cases hp;done)|simp-implicitDefEqProofs+decide only[go_sem,hloc,hlu,hwr]) rfl
def twoH (h:Heap) (m id:Nat):Heap:=upd (upd h (.obj m) (some (.box [.t (.ptr id)]))) (.obj (m+1)) (some (.box [.nil]))
theorem twoH_M {h:Heap} {m id:Nat} {o:Obj} {met:List Bool} (B:BkM h id 4 o met) (h1:h (.obj m)=none) (h2:h (.obj (m+1))=none):BkM (twoH h m id) id 4 o met:=by
 have n1:id≠m:=fun e=>by subst e;rw[B.o]at h1;cases h1
 have n2:id≠m+1:=fun e=>by subst e;rw[B.o]at h2;cases h2
 refine⟨upd_hb (upd_hb B.hb),?_,?_⟩
 ·unfold twoH
  rw[upd_ne _ _ _ _ (fun e=>n2 (Lab.obj.inj e)),upd_ne _ _ _ _ (fun e=>n1 (Lab.obj.inj e))]
  exact B.o
 ·unfold twoH
  rw[upd_ne _ _ _ _ (fun e=>by cases e),upd_ne _ _ _ _ (fun e=>by cases e)]
  exact B.f
theorem keeps_then {h k l:Heap} (h1:Keeps h k) (h2:∀id cs,k (.obj id)=some (.box cs)→∃cs',l (.obj id)=some (.box cs')) (h3:∀i,l (.arg i)=h (.arg i)):Keeps h l:=
 ⟨fun id cs hc=>by obtain⟨cs',hc'⟩:=h1.1 id cs hc;exact h2 id cs' hc',fun i o hc=>⟨o,(h3 i).trans hc,ArgStep.refl _⟩⟩
def valI (v:Vx) (i:Nat):List Vx:=if i=0 then [] else [v]
def pickI (p:Int) (i:Nat):List Int:=if i=0 then [] else [p]
def bsI (s t:Bs) (i:Nat):Bs:=if i=0 then s else t
theorem is21:manyX 21=2:=by decide
set_option maxHeartbeats 4000000 in
theorem do21 (h:Heap) (m id:Nat) (md:Int) (s:Bs) (x0 x1:Vx) (x:Atr) (B:BkM h id 4 (obG id md s) s.met) (h1:h (.obj m)=none) (h2:h (.obj (m+1))=none) (hml:s.met.length<60000) (mx:x0.md=md) (my:x1.md=md) (bx:x0.B 1000) (by':x1.B 1000)
  (v:Vx) (p:Int) (hv:(if lessV x0 x1=true then x1 else x0)=v) (hp:(if lessV x0 x1=true then 1 else 0)=p) (t:Bs) (ht:lessS s x0 x1=t):
  Ret Tryz.prog 39 [.ptr id,.int .i64 21,x.T,sI [],.slice [argX [] [x0],argX [] [x1]]] h m [.t (sX [v]),.t (sI [p])] (bkU (twoH h m id) id 4 (obG id md t) t.met) (m+2):=by
 have hb:=B.hb
 have hloc:∀d j,h (.loc d j)=none:=fun d j=>hb _ rfl
 have BH:=twoH_M B h1 h2
 have hbH:=BH.hb
 have hlocH:∀d j,twoH h m id (.loc d j)=none:=fun d j=>hbH _ rfl
 have c1:=is_ok 21
 rw[is21,show isX 21=true by decide]at c1
 have c2:=errG_ok h m id s.k md _ s.tie hb B.o
 have c3:=fair_ok 21 x
 rw[show fairX 21 x=true by unfold fairX;rfl]at c3
 have c4:=knows21 h m id x hb h1 h2
 have c5:=count_ok [] (by decide)
 rw[show cnt []=1 by decide]at c5
 have c6:=operands_ok [] [⟨[],[x0]⟩,⟨[],[x1]⟩] 0 (by decide) (by simp) (by
   have e:OpIn [] 0 ⟨[],[x0]⟩∧OpIn [] 0 ⟨[],[x1]⟩:=by
     unfold OpIn
     have e1:twoS [] []=([],0):=twoS_nil
     have e2:srcN [] [] 0=0:=by decide
     dsimp only
     rw[e1,e2]
     exact⟨⟨rfl,by decide,by simp⟩,rfl,by decide,by simp⟩
   intro a ha
   simp only[List.mem_cons,List.not_mem_nil,or_false]at ha
   rcases ha with rfl|rfl
   ·exact e.1
   ·exact e.2)
 have e2:srcN [] [] 0=0:=by decide
 rw[show [(⟨[],[x0]⟩:Op1),⟨[],[x1]⟩].map (opdX [] 0)=[x0,x1] by simp[opdX,e2]]at c6
 have c7:=compares21
 have c8:=picks21 (twoH h m id) (m+2) id md s x0 x1 [] BH hml mx my (bx.mono (by decide)) (by'.mono (by decide))
 rw[hv,hp,ht]at c8
 have cc:=copyX_ok v (by rw[←hv];split<;>first|exact by'.mono (by decide)|exact bx.mono (by decide))
 have c9:=errG_ok (bkU (twoH h m id) id 4 (obG id md t) t.met) (m+2) id t.k md _ t.tie (bkU_hb hbH) (bkU_M hbH).o
 have hu0:=bkU_self BH
 have c2':=errG_ok (twoH h m id) (m+2) id s.k md _ s.tie hbH BH.o
 have hbt:∀l,Lab.pool l=false→bkU (twoH h m id) id 4 (obG id md t) t.met l=none:=bkU_hb hbH
 have hlt:∀d j,bkU (twoH h m id) id 4 (obG id md t) t.met (.loc d j)=none:=fun d j=>hbt _ rfl
 obtain⟨a1,a2,a3,a4,a5,a6,a7,a8,ak,al⟩:=x
 refine Ret.intro Tryz.func39 rfl (rt:=[10,11]) rfl (by simp[Tryz.ntmps39]) (by decide) (sites:=fun _=>false) hbt ?_ ?_
 ·exact keeps_then (keeps_two _ _ _ _ _) (fun id' cs hc=>(bkU_keeps BH).1 id' cs hc) (fun i=>by unfold bkU twoH;rw[upd_ne _ _ _ _ (fun e=>by cases e),upd_ne _ _ _ _ (fun e=>by cases e),upd_ne _ _ _ _ (fun e=>by cases e),upd_ne _ _ _ _ (fun e=>by cases e)])
 simp only[Atr.T,I,sI,sX,knT,Op1.T,argX,List.map_cons,List.map_nil,Vx_T]at c3 c4 c5 c6 c8 cc⊢
 apply run_sound 200
 refine SmA ?_
 refine CallG.P _ Tryz.call49 (c1) ?_
 refine SmA ?_
 refine CallG.Q _ Tryz.call17 c2 ?_
 refine SmA ?_
 refine CallG.P _ Tryz.call87 (c3) ?_
 refine SmA ?_
 refine CallG.Q _ Tryz.call88 c4 ?_
 have hH:upd (upd h (.obj m) (some (.box [.t (.ptr id)]))) (.obj (m+1)) (some (.box [.nil]))=twoH h m id:=rfl
 rw[hH]
 simp-implicitDefEqProofs+decide only[go_sem,hloc,hlocH]
 refine CallG.P _ Tryz.call54 (c5) ?_
 simp-implicitDefEqProofs+decide only[go_sem,hloc,hlocH]
 refine Goes.wk (Wk.nilRow (d:=15) (lab:=.loc 101 0) (size:=5) (by simp-implicitDefEqProofs+decide only[go_sem]) (by simp-implicitDefEqProofs+decide only[go_sem,hloc,hlocH]) rfl (by decide)) ?_
 refine Goes.wk (Wk.nilRow (d:=16) (lab:=.loc 102 0) (size:=1) (by simp-implicitDefEqProofs+decide only[go_sem]) (by simp-implicitDefEqProofs+decide only[go_sem,hloc,hlocH]) rfl (by decide)) ?_
 have hBi:∀i,∀l,Lab.pool l=false→bkU (twoH h m id) id 4 (obG id md (bsI s t i)) (bsI s t i).met l=none:=fun i=>bkU_hb hbH
 refine Goes.loop (X:=Nat) (fun i=>⟨ofL [(0,.t (.ptr id)),(1,.t (.int .i64 21)),(3,.t (.slice [])),(4,.t (.slice [argX [] [x0],argX [] [x1]])),(14,.bp (.loc 14 0) 0),(15,.sl (.loc 101 0) i 0 i),(16,.sl (.loc 102 0) i 0 i),(51,.t (.int .i64 1)),(52,.t (.int .i64 i))],
   ofH (bkU (twoH h m id) id 4 (obG id md (bsI s t i)) (bsI s t i).met) [(.loc 14 0,.box [.t (.slice [])]),(.loc 101 0,.arr 5 ((valI v i).map Vx.T) i 0),(.loc 102 0,.arr 1 ((pickI p i).map I) i 0)],m+2⟩) (fun i=>i≤1) (fun i=>1-i) 0 ?_ (by omega) ?_
 ·show Wk _ _ ⟨_,ofH (bkU (twoH h m id) id 4 (obG id md s) s.met) _,_⟩
  rw[hu0]
  refine Wk.boxes _ _ hbH rfl rfl ?_ (by rintro (_|_|_|_|_) hp<;>first|(cases hp;done)|simp-implicitDefEqProofs+decide only[go_sem,hloc,hlocH]) ?_ ?_
  ·simp-implicitDefEqProofs+decide only[go_sem,hloc,hlocH,ofH,valI,pickI,List.map_nil]<;>first|rfl|exact⟨rfl,rfl⟩|exact⟨rfl,rfl,rfl⟩|skip
  ·simp-implicitDefEqProofs+decide only[go_sem,argX,sX,sI,List.map_cons,List.map_nil,Vx_T]<;>rfl
  ·simp-implicitDefEqProofs+decide only[go_sem]
 rintro i hi J hJ
 apply run_sound 200
 simp-implicitDefEqProofs+decide only[go_sem,argX,sX,sI,List.map_cons,List.map_nil,Vx_T]
 apply selP_dec<;>intro hc
 ·obtain rfl:i=0:=by omega
  have hw:=wS (show 0<1000000000000 by omega)
  have hnb:0+1<big:=by unfold big;omega
  have hb0:bkU (twoH h m id) id 4 (obG id md (bsI s t 0)) (bsI s t 0).met=twoH h m id:=hu0
  rw[hb0]
  simp-implicitDefEqProofs+decide only[go_sem,hloc,hlocH,ofH]
  refine CallG.PS _ Tryz.call89 (c6) ?_
  simp-implicitDefEqProofs+decide only[go_sem,hloc,hlocH]
  refine CallG.pool _ Tryz.call17 c2' hbH (by rintro (_|_|_|_|_) hp<;>first|(cases hp;done)|simp-implicitDefEqProofs+decide only[go_sem,hloc,hlocH]) ?_
  apply run_sound 200
  simp-implicitDefEqProofs+decide only[go_sem,hloc,hlocH]
  refine CallG.P _ Tryz.call90 (c7) ?_
  simp-implicitDefEqProofs+decide only[go_sem,hloc,hlocH]
  refine CallG.pool _ Tryz.call92 c8 hbH (by rintro (_|_|_|_|_) hp<;>first|(cases hp;done)|simp-implicitDefEqProofs+decide only[go_sem,hloc,hlocH]) ?_
  apply run_sound 200
  simp-implicitDefEqProofs+decide only[go_sem,hloc,hlocH,hlt]
  refine CallG.PS _ Tryz.call67 (cc) ?_
  simp-implicitDefEqProofs+decide only[go_sem,hloc,hlocH,hlt,valI,pickI,List.map_nil,List.nil_append,List.length_nil,hnb,hw]
  have hb1:bkU (twoH h m id) id 4 (obG id md (bsI s t 1)) (bsI s t 1).met=bkU (twoH h m id) id 4 (obG id md t) t.met:=rfl
  refine hJ 1 _ (by omega) (by omega) (Wk.boxes _ _ hbt rfl rfl ?_ (by rintro (_|_|_|_|_) hp<;>first|(cases hp;done)|simp-implicitDefEqProofs+decide only[go_sem,hloc,hlocH,hlt,hb1]) ?_ ?_)
  ·simp-implicitDefEqProofs+decide only[go_sem,hloc,hlocH,hlt,ofH,valI,pickI,List.map_cons,List.map_nil,Vx_T,I,hb1]<;>first|rfl|exact⟨rfl,rfl⟩|exact⟨rfl,rfl,rfl⟩|skip
  ·simp-implicitDefEqProofs+decide only[go_sem,argX,sX,sI,List.map_cons,List.map_nil,Vx_T]<;>rfl
  ·simp-implicitDefEqProofs+decide only[go_sem]
 ·obtain rfl:i=1:=by omega
  have hb1:bkU (twoH h m id) id 4 (obG id md (bsI s t 1)) (bsI s t 1).met=bkU (twoH h m id) id 4 (obG id md t) t.met:=rfl
  rw[hb1]
  have e1:(valI v 1).map Vx.T=[.agg [.bool v.neg,sW v.p,sW v.qq,.int .u64 v.bits,.int .i64 0]]:=by rw[←Vx_T];rfl
  have e2:(pickI p 1).map I=[.int .i64 p]:=rfl
  rw[e1,e2]
  simp-implicitDefEqProofs+decide only[go_sem,hloc,hlocH,hlt,ofH]
  refine CallG.pool _ Tryz.call17 c9 hbt (by rintro (_|_|_|_|_) hp<;>first|(cases hp;done)|simp-implicitDefEqProofs+decide only[go_sem,hloc,hlocH,hlt]) ?_
  apply run_sound 200
  simp-implicitDefEqProofs+decide only[go_sem,hloc,hlocH,hlt]
  exact endF.row2 (.inr rfl) (by simp-implicitDefEqProofs+decide only[go_sem];rfl) (by simp-implicitDefEqProofs+decide only[go_sem,hlt];rfl) rfl rfl (by simp-implicitDefEqProofs+decide only[go_sem];rfl) (by simp-implicitDefEqProofs+decide only[go_sem,hlt];rfl) rfl rfl (by rintro (_|_|_|_|_) hp<;>first|(cases hp;done)|simp-implicitDefEqProofs+decide only[go_sem,hloc,hlocH,hlt]) rfl
set_option maxHeartbeats 2000000 in
theorem more19n (h:Heap) (m id:Nat) (md:Int) (mc:AV) (tie:Bool) (s:Es) (v y:Vx) (x0 x1:Vx) (ks:List Vx) (which pick:Int) (hb:∀l,Lab.pool l=false→h l=none) (hk:h (.obj id)=some (bankE md mc s.k tie s.e)) (hkb:s.k<100000) (hv:s.e=0→v.md=md∧v.B 9) (hx0:s.e=0→x0.md=md∧x0.B 9) (hx1:s.e=0→x1.md=md∧x1.B 9) (hw:which=0):
  Ret Tryz.prog 99 [.ptr id,.int .i64 19,.int .i64 which,v.T,atT [x0,x1] y pick] h m [.t (((.mul .v (.x 1)):Ex).ev ⟨v,y,[x0,x1],ks⟩ s).v.T,.t (.bool true)] (upd h (.obj id) (some (bankE md mc (((.mul .v (.x 1)):Ex).ev ⟨v,y,[x0,x1],ks⟩ s).s.k tie (((.mul .v (.x 1)):Ex).ev ⟨v,y,[x0,x1],ks⟩ s).s.e))) m:=by
 have hloc:∀d j,h (.loc d j)=none:=fun d j=>hb _ rfl
 subst hw
 have c1:=mulE_ok h m id md mc tie s v x1 hb hk (by omega) (OK1_of hv) (OK1_of hx1)
 have g1:=mulE_g (md:=md) (a:=9) (b:=9) (s:=s) (x:=v) (y:=x1) hv hx1
 obtain⟨⟨w1,s1⟩,e1⟩:∃q,opE mulV s v x1=q:=⟨_,rfl⟩
 rw[e1]at c1 g1
 dsimp only at c1 g1
 have hev:(((.mul .v (.x 1)):Ex).ev ⟨v,y,[x0,x1],ks⟩ s)=⟨w1,s1⟩:=by simp only[Ex.ev,List.getD_cons_zero,List.getD_cons_succ,e1]
 rw[hev]
 dsimp only
 clear hev
 refine Ret.iC Tryz.func99 [.c 10 68,.s 11] ?_
 simp only[v0_T,Vx_T]at c1
 simp only[atT,sX,List.map_cons,List.map_nil,Vx_T]
 refine SmD ?_
 refine Goes.dP ?_
 refine SmD ?_
 refine CallD.M _ [(.obj id,bankE md mc s1.k tie s1.e)] Tryz.call56 c1 ?_
 refine SmD ?_
 refine⟨.mk (by kernel_rfl),?_⟩
 apply run_sound 200
 refine SmD ?_
 exact endC.W
set_option maxHeartbeats 2000000 in
theorem slope19 (h:Heap) (m id:Nat) (md:Int) (mc:AV) (tie:Bool) (s:Es) (v y x0 x1:Vx) (pick:Int) (x:Atr) (hb:∀l,Lab.pool l=false→h l=none) (hk:h (.obj id)=some (bankE md mc s.k tie s.e)) (hkb:s.k<100000) (hv0:v.B 9) (hv:Gd md s v) (hx0:Gd md s x0) (hx1:Gd md s x1):
  Ret Tryz.prog 44 [.ptr id,.int .i64 19,x.T,knT [],.int .i64 0,v.T,atT [x0,x1] y pick] h m [.t (opE mulV s v x1).v.T,.t (.bool true)] (upd h (.obj id) (some (bankE md mc (opE mulV s v x1).s.k tie (opE mulV s v x1).s.e))) m:=by
 have cc:=copyX_ok v (hv0.mono (by decide))
 have cw:=more19n h m id md mc tie s v y x0 x1 [] 0 pick hb hk hkb hv hx0 hx1 rfl
 have e0:((Ex.mul .v (.x 1)):Ex).ev ⟨v,y,[x0,x1],[]⟩ s=opE mulV s v x1:=rfl
 rw[e0]at cw
 obtain⟨⟨w1,s1⟩,e1⟩:∃q,opE mulV s v x1=q:=⟨_,rfl⟩
 rw[e1]at cw⊢
 dsimp only at cw⊢
 have h5:([]:List Vx).length=(askedL 19 x).length:=rfl
 have h6:fairX 19 x=true:=rfl
 have hloc:∀d j,h (.loc d j)=none:=fun d j=>hb _ rfl
 have c1:=is_ok 19
 have c2:=asked_ok 19 x
 have c3:=fair_ok 19 x
 have hn1:=noPtr_sPr (askedL 19 x)
 generalize fairX 19 x=fr at*
 generalize askedL 19 x=L at*
 obtain⟨a1,a2,a3,a4,a5,a6,a7,a8,ak,al⟩:=x
 simp only[Atr.T,I,sI,sPr]at c2 c3 hn1
 have d1:isX 19=true:=by decide
 have dm:manyX 19=2:=by decide
 have d5:decide ((0:Int)≠L.length)=false:=decide_eq_false (fun h=>h (by simp only[List.length_nil]at h5;omega))
 have d6:=h6
 subst h6
 refine Ret.iC Tryz.func44 [.c 14 68,.s 15] ?_
 simp only[atT,knT,sX,List.map_cons,List.map_nil,Vx_T]at cw cc⊢
 simp-implicitDefEqProofs+decide only[go_sem,hloc,Atr.T,I,sI]
 refine CallG.P _ Tryz.call49 (c1) ?_
 refine SmA ?_
 refine Goes.dP ?_
 simp-implicitDefEqProofs+decide only[go_sem,hloc,List.length_map,dm,d1,d5,d6]
 refine CallD.PS _ Tryz.call97 c2 ?_
 simp-implicitDefEqProofs+decide only[go_sem,hloc,List.length_map,dm,d1,d5,d6]
 refine CallD.P _ Tryz.call87 c3 ?_
 simp-implicitDefEqProofs+decide only[go_sem,hloc,List.length_map,dm,d1,d5,d6]
 refine⟨.mk (by kernel_rfl),?_⟩
 apply run_sound 200
 refine SmA ?_
 refine CallG.PS _ Tryz.call67 (cc) ?_
 simp-implicitDefEqProofs+decide only[go_sem,hloc,dm]
 refine CallG.Q _ Tryz.call99 cw ?_
 refine SmA ?_
 exact endC.W
theorem rSameX2_ok (v:Vx) {n:Nat} (hv:v.B n) (hn:n<1000000000):Pure Tryz.prog 27 [v.T,v.T] [.t (.bool true)]:=by
 have c:=rSameV_ok v.sc v.sc (ScB_Vx hv hn) (ScB_Vx hv hn)
 rw[decide_eq_true rfl]at c
 exact c
def at0:Atr:=⟨0,0,0,0,0,0,0,0,false,[]⟩
theorem atT_v0 (xs:List Vx):atT xs v0 0=.agg [sX xs,.bool false,.slice [],.slice [],.int .u64 0,.int .i64 0,.int .i64 0]:=rfl
theorem nat_B (n:Nat) (h:n<18446744073709551616):(Vx.q (n:Rat)).B 9:=QB.mono (QB_nat n h) (by decide)
set_option maxHeartbeats 4000000 in
theorem same26_ok:Pure Tryz.prog 38 [] [.t (.bool true)]:=by
 have v2:=rat_ok 2 (by decide) (by decide)
 have v3:=rat_ok 3 (by decide) (by decide)
 have v5:=rat_ok 5 (by decide) (by decide)
 have v15:=rat_ok 15 (by decide) (by decide)
 have b2:=nat_B 2 (by decide)
 have b3:=nat_B 3 (by decide)
 have b5:=nat_B 5 (by decide)
 have b15:=nat_B 15 (by decide)
 have hb0:∀l,Lab.pool l=false→(fun _=>none:Heap) l=none:=fun _ _=>rfl
 have cn:=bankNewG_ok (fun _=>none) 0 0 (.inl rfl) hb0 rfl
 have hk0:(upd (fun _=>none:Heap) (.obj 0) (some (bankG 0 .nil 0 false))) (.obj 0)=some (bankG 0 .nil 0 false):=upd_same _ _ _
 obtain⟨H0,hH0⟩:∃H0,upd (fun _=>none:Heap) (.obj 0) (some (bankG 0 .nil 0 false))=H0:=⟨_,rfl⟩
 have hbH0:∀l,Lab.pool l=false→H0 l=none:=by rw[←hH0];exact upd_hb hb0
 have B0:BkM H0 0 4 (obG 0 0 ⟨0,[],false⟩) []:=by rw[←hH0];exact⟨upd_hb hb0,upd_same _ _ _,rfl⟩
 have hn1:H0 (.obj 1)=none:=by rw[←hH0];rfl
 have hn2:H0 (.obj 2)=none:=by rw[←hH0];rfl
 rw[hH0]at cn
 have hl23:lessV (.q ((2:Nat):Rat)) (.q ((3:Nat):Rat))=true:=by
  show decide (((2:Nat):Rat)<((3:Nat):Rat))=true
  decide+kernel
 obtain⟨t,ht⟩:∃t,lessS ⟨0,[],false⟩ (.q ((2:Nat):Rat)) (.q ((3:Nat):Rat))=t:=⟨_,rfl⟩
 have htk:t.k=0:=by rw[←ht];rfl
 have cd:=do21 H0 1 0 0 ⟨0,[],false⟩ (.q ((2:Nat):Rat)) (.q ((3:Nat):Rat)) at0 B0 hn1 hn2 (by decide) rfl rfl (b2.mono (by decide)) (b3.mono (by decide)) (.q ((3:Nat):Rat)) 1 (by rw[hl23];rfl) (by rw[hl23];rfl) t ht
 have BT:=bkU_M (id:=0) (f:=4) (o:=obG 0 0 t) (met:=t.met) (twoH_M B0 hn1 hn2).hb
 obtain⟨H1,hH1⟩:∃H1,bkU (twoH H0 1 0) 0 4 (obG 0 0 t) t.met=H1:=⟨_,rfl⟩
 rw[hH1]at cd BT
 have hbH1:=BT.hb
 have hk1:H1 (.obj 0)=some (bankE 0 (mtC 0 4 t.met) (⟨t.k,0⟩:Es).k t.tie (⟨t.k,0⟩:Es).e):=BT.o
 have cr:=ready_ok H1 3 0 0 19 (.inl rfl) (mtC 0 4 t.met) t.tie ⟨t.k,0⟩ at0 hbH1 hk1 (fun q hq=>by cases hq)
 rw[show readyE 0 ⟨t.k,0⟩ (askedL 19 at0) (askedL 19 at0).length=⟨[],⟨t.k,0⟩⟩ from rfl]at cr
 dsimp only at cr
 rw[upd_id hk1]at cr
 have e15:opE mulV ⟨t.k,0⟩ (.q ((5:Nat):Rat)) (.q ((3:Nat):Rat))=⟨.q ((15:Nat):Rat),⟨t.k+1,0⟩⟩:=by
  have e:((5:Nat):Rat)*((3:Nat):Rat)=((15:Nat):Rat):=by decide+kernel
  show(⟨.q (((5:Nat):Rat)*((3:Nat):Rat)),⟨t.k+1,0⟩⟩:Vs)=_
  rw[e]
 have cs:=slope19 H1 3 0 0 (mtC 0 4 t.met) t.tie ⟨t.k,0⟩ (.q ((5:Nat):Rat)) v0 (.q ((2:Nat):Rat)) (.q ((3:Nat):Rat)) 0 at0 hbH1 hk1 (by rw[htk];decide) b5 (fun _=>⟨rfl,b5⟩) (fun _=>⟨rfl,b2⟩) (fun _=>⟨rfl,b3⟩)
 rw[e15,atT_v0]at cs
 dsimp only at cs
 obtain⟨H2,hH2⟩:∃H2,upd H1 (.obj 0) (some (bankE 0 (mtC 0 4 t.met) (t.k+1) t.tie 0))=H2:=⟨_,rfl⟩
 have hbH2:∀l,Lab.pool l=false→H2 l=none:=by rw[←hH2];exact upd_hb hbH1
 rw[hH2]at cs
 have s3:=rSameX2_ok (.q ((3:Nat):Rat)) b3 (by decide)
 have s15:=rSameX2_ok (.q ((15:Nat):Rat)) b15 (by decide)
 simp only[sX,sI,argX,knT,at0,Atr.T,List.map_cons,List.map_nil,I,Vx_q]at cd cr cs s3 s15
 clear e15 hl23 b2 b3 b5 b15 hH0 hH1 hH2 BT B0 hk1 hk0 ht
 generalize ((2:Nat):Rat)=r2 at*
 generalize ((3:Nat):Rat)=r3 at*
 generalize ((5:Nat):Rat)=r5 at*
 generalize ((15:Nat):Rat)=r15 at*
 simp only[vT_eq]at v2 v3 v5 v15 cd cs s3 s15
 have hl0:∀d j,H0 (.loc d j)=none:=fun d j=>hbH0 _ rfl
 have hl1:∀d j,H1 (.loc d j)=none:=fun d j=>hbH1 _ rfl
 have hl2:∀d j,H2 (.loc d j)=none:=fun d j=>hbH2 _ rfl
 refine Pure.drop (h':=H2) (m':=3) ?_ rfl
 refine Ret.intro Tryz.func38 rfl (rt:=[0]) rfl (by simp[Tryz.ntmps38]) (by decide) (sites:=fun _=>false) hbH2 (Keeps.none _) ?_
 apply run_sound 200
 refine Sm ?_
 refine CallG.pool _ Tryz.call11 cn hb0 (by rintro (_|_|_|_|_) hp<;>first|(cases hp;done)|simp-implicitDefEqProofs+decide only[go_sem]) ?_
 apply run_sound 200
 simp-implicitDefEqProofs+decide only[go_sem,hl0]
 refine CallG.PS _ Tryz.call86 (v2) ?_
 simp-implicitDefEqProofs+decide only[go_sem,hl0]
 refine CallG.PS _ Tryz.call86 (v3) ?_
 simp-implicitDefEqProofs+decide only[go_sem,hl0]
 refine CallG.pool _ Tryz.call39 cd hbH0 (by rintro (_|_|_|_|_) hp<;>first|(cases hp;done)|simp-implicitDefEqProofs+decide only[go_sem,hl0]) ?_
 apply run_sound 200
 simp-implicitDefEqProofs+decide only[go_sem,hl0,hl1]
 refine CallG.pool _ Tryz.call43 cr hbH1 (by rintro (_|_|_|_|_) hp<;>first|(cases hp;done)|simp-implicitDefEqProofs+decide only[go_sem,hl0,hl1]) ?_
 apply run_sound 200
 simp-implicitDefEqProofs+decide only[go_sem,hl0,hl1]
 refine CallG.PS _ Tryz.call86 (v5) ?_
 simp-implicitDefEqProofs+decide only[go_sem,hl0,hl1]
 refine CallG.PS _ Tryz.call86 (v2) ?_
 simp-implicitDefEqProofs+decide only[go_sem,hl0,hl1]
 refine CallG.PS _ Tryz.call86 (v3) ?_
 simp-implicitDefEqProofs+decide only[go_sem,hl0,hl1]
 refine CallG.pool _ Tryz.call44 cs hbH1 (by rintro (_|_|_|_|_) hp<;>first|(cases hp;done)|simp-implicitDefEqProofs+decide only[go_sem,hl0,hl1]) ?_
 apply run_sound 200
 simp-implicitDefEqProofs+decide only[go_sem,hl0,hl1,hl2]
 refine Goes.drawN mixed ?_
 simp-implicitDefEqProofs+decide only[go_sem,hl0,hl1,hl2]
 refine CallD.PS _ Tryz.call86 v3 ?_
 simp-implicitDefEqProofs+decide only[go_sem,hl0,hl1,hl2]
 refine CallD.P _ Tryz.call27 s3 ?_
 simp-implicitDefEqProofs+decide only[go_sem,hl0,hl1,hl2]
 refine CallD.PS _ Tryz.call86 v15 ?_
 simp-implicitDefEqProofs+decide only[go_sem,hl0,hl1,hl2]
 refine CallD.P _ Tryz.call27 s15 ?_
 simp-implicitDefEqProofs+decide only[go_sem,hl0,hl1,hl2]
 refine⟨.mk (by kernel_rfl),?_⟩
 apply run_sound 200
 simp-implicitDefEqProofs+decide only[go_sem,hl0,hl1,hl2]
 exact endF.vals [(0,.bool true)] (.inr rfl) (vals_t (by first|rfl|(simp-implicitDefEqProofs+decide only[go_sem];done)|(simp-implicitDefEqProofs+decide only[go_sem];rfl)) rfl vals_nil) (by rintro (_|_|_|_|_) hp<;>first|(cases hp;done)|simp-implicitDefEqProofs+decide only[go_sem,hl0,hl1,hl2]) rfl
end Go.Fm
