/- each.Do, where something is compared, whole. -/
import Derived.Test.YteodjhhobkcnjaaGreatHgC
import Derived.Test.YteodjhhobkcnjaaGreatHfB
import Derived.Test.YteodjhhobkcnjaaGreatHcC
import Derived.Test.YteodjhhobkcnjaaGreatHfE
import Derived.Test.YteodjhhobkcnjaaGreatHfC
set_option linter.unusedVariables false
set_option linter.unusedSimpArgs false
namespace Go.Fm
open Go.Proofs
set_option maxRecDepth 100000
attribute [local irreducible] tiOf
set_option maxHeartbeats 8000000 in
theorem doC_ok (h:Heap) (m id:Nat) (md:Int) (hmd:md=0∨md=1) (s:Bs) (op:Int) (x:Atr) (out:List Int) (A:List Op1) (N:Nat) (B:BkM h id 4 (obG id md s) s.met) (hid:id<m) (hnn:∀j,m≤j→h (.obj j)=none) (hf:h (.fld (m+1) 0)=none)
  (hop:1≤op∧op≤26) (hcm:cmpX op=true) (hAl:(A.length:Int)=manyX op) (hcnt:cnt out=N) (hN:N≤64) (hol:out.length<1000000000) (hfit:∀i,i<N→∀a∈A,OpIn out (i:Nat) a) (hv:∀a∈A,∀z∈a.v,z.md=md∧z.B 9) (hkb:s.k<1000) (hml:s.met.length<1000) (hfx:fairX op x=true)
  (hxp:IOk x.p) (hxq:IOk x.q) (hxr:IOk x.r) (hxs:IOk x.s) (ks:List Vx) (hK:readyE md ⟨s.k,0⟩ (knownL op x) (knownL op x).length=⟨ks,⟨s.k,0⟩⟩) (hkg:∀z∈ks,z.md=md∧z.B 9):
  Ret Tryz.prog 39 [.ptr id,.int .i64 op,x.T,sI out,.slice (A.map Op1.T)] h m [.t (sX (runC op ks (xsAt A out) s N).v),.t (sI (runC op ks (xsAt A out) s N).p)]
   (hC (knZ h m id md (mtC id 4 s.met) s.tie ⟨s.k,0⟩ (knownL op x)) (m+2) id md op ks (xsAt A out) s N) (m+2+3*N):=by
 have hb:=B.hb
 have h1:=hnn m (Nat.le_refl _)
 have h2:=hnn (m+1) (by omega)
 have hloc:∀d j,h (.loc d j)=none:=fun d j=>hb _ rfl
 have hko:h (.obj id)=some (bankE md (mtC id 4 s.met) (⟨s.k,0⟩:Es).k s.tie (⟨s.k,0⟩:Es).e):=B.o
 have c1:=is_ok op
 have hiX:isX op=true:=by unfold isX;rw[decide_eq_true hop.1,decide_eq_true hop.2];rfl
 rw[hiX,←hAl]at c1
 have c2:=errG_ok h m id s.k md _ s.tie hb B.o
 have c3:=fair_ok op x
 rw[hfx]at c3
 have c4:=knows_ok h m id md hmd (mtC id 4 s.met) s.tie ⟨s.k,0⟩ op x hb hko hid h1 h2 hf hop hxp hxq hxr hxs
 have c5:=count_ok out hol
 rw[hcnt]at c5
 have c7:=compares_ok op hop
 rw[hcm]at c7
 have hkZ:=knZ_id (h:=h) (m:=m) (id:=id) (md:=md) (mc:=mtC id 4 s.met) (tie:=s.tie) (s:=⟨s.k,0⟩) (P:=knownL op x) hid
 have hbZ:=knZ_hb (h:=h) (m:=m) (id:=id) (md:=md) (mc:=mtC id 4 s.met) (tie:=s.tie) (s:=⟨s.k,0⟩) (P:=knownL op x) hb
 have hfZ:=knZ_fld (h:=h) (m:=m) (id:=id) (md:=md) (mc:=mtC id 4 s.met) (tie:=s.tie) (s:=⟨s.k,0⟩) (P:=knownL op x) (i:=id) (f:=4) (by decide)
 have hnZ:∀j,m+2≤j→knZ h m id md (mtC id 4 s.met) s.tie ⟨s.k,0⟩ (knownL op x) (.obj j)=none:=fun j hj=>(knZ_obj (by omega) (by omega) (by omega)).trans (hnn j (by omega))
 have hlk:ks.length=(knownL op x).length:=by have:=readyE_len md ⟨s.k,0⟩ (knownL op x) (knownL op x).length;rw[hK]at this;exact this
 rw[hK]at hkZ c4
 have hkpZ:=knZ_keeps (h:=h) (m:=m) (id:=id) (md:=md) (mc:=mtC id 4 s.met) (tie:=s.tie) (s:=⟨s.k,0⟩) (P:=knownL op x)
 obtain⟨Z,hZ⟩:∃Z,knZ h m id md (mtC id 4 s.met) s.tie ⟨s.k,0⟩ (knownL op x)=Z:=⟨_,rfl⟩
 rw[hZ]at c4 hkZ hbZ hkpZ hfZ hnZ⊢
 have hlZ:∀d j,Z (.loc d j)=none:=fun d j=>hbZ _ rfl
 have BZ:BkM Z id 4 (obG id md s) s.met:=⟨hbZ,hkZ,hfZ.trans B.f⟩
 have inv:=fun i=>hC_inv (M:=m+2) (op:=op) (ks:=ks) (xs:=xsAt A out) BZ (by omega) hnZ i
 have cinv:=runC_inv op ks (xsAt A out) s
 have hst:∀i,runC op ks (xsAt A out) s (i+1)=⟨(runC op ks (xsAt A out) s i).v++[(pickV op ks (xsAt A out i)).1],(runC op ks (xsAt A out) s i).p++[(pickV op ks (xsAt A out i)).2],pickS op (runC op ks (xsAt A out) s i).s ks (xsAt A out i)⟩:=fun i=>rfl
 have hHs:∀i,hC Z (m+2) id md op ks (xsAt A out) s (i+1)=bkU (pkH (hC Z (m+2) id md op ks (xsAt A out) s i) (m+2+3*i) id ks (xsAt A out i)) id 4 (obG id md (runC op ks (xsAt A out) s (i+1)).s) (runC op ks (xsAt A out) s (i+1)).s.met:=fun i=>rfl
 have hH0:hC Z (m+2) id md op ks (xsAt A out) s 0=Z:=rfl
 have hc0:runC op ks (xsAt A out) s 0=⟨[],[],s⟩:=rfl
 generalize hC Z (m+2) id md op ks (xsAt A out) s=H at*
 generalize runC op ks (xsAt A out) s=f at*
 have hbH:∀i l,Lab.pool l=false→H i l=none:=fun i=>(inv i).1.hb
 have hlH:∀i d j,H i (.loc d j)=none:=fun i d j=>hbH i _ rfl
 have hkpF:Keeps h (H N):=by
  refine⟨fun id' cs hc=> ?_,fun i o hc=> ?_⟩
  ·obtain⟨c',e'⟩:=hkpZ.1 id' cs hc
   exact(inv N).2.2.1.1 id' c' e'
  ·obtain⟨o',e',a'⟩:=hkpZ.2 i o hc
   exact⟨o',((inv N).2.2.2 i).trans e',a'⟩
 have c6:=fun i (hi:i<N)=>operands_ok out A (i:Nat) ⟨by omega,by omega⟩ (by have:=hAl;unfold manyX at this;repeat' split at this<;>omega) (hfit i hi)
 obtain⟨a1,a2,a3,a4,a5,a6,a7,a8,ak,al⟩:=x
 refine Ret.intro Tryz.func39 rfl (rt:=[10,11]) rfl (by simp[Tryz.ntmps39]) (by decide) (sites:=fun _=>false) (hbH N) hkpF ?_
 simp only[Atr.T,I,sI,sX,knT]at c3 c4 c5⊢
 apply run_sound 200
 refine SmA ?_
 refine CallG.P _ Tryz.call49 (c1) ?_
 have dn:decide ((A.length:Int)≠(A.length:Int))=false:=decide_eq_false (fun h=>h rfl)
 simp-implicitDefEqProofs+decide only[go_sem,hloc,List.length_map,dn]
 refine CallG.Q _ Tryz.call17 c2 ?_
 refine SmA ?_
 refine CallG.P _ Tryz.call87 (c3) ?_
 refine SmA ?_
 refine CallG.Q _ Tryz.call88 c4 ?_
 simp-implicitDefEqProofs+decide only[go_sem,hloc,hlZ]
 refine CallG.P _ Tryz.call54 (c5) ?_
 simp-implicitDefEqProofs+decide only[go_sem,hloc,hlZ]
 refine Goes.wk (Wk.nilRow (d:=15) (lab:=.loc 101 0) (size:=5) (by simp-implicitDefEqProofs+decide only[go_sem]) (by simp-implicitDefEqProofs+decide only[go_sem,hloc,hlZ]) rfl (by decide)) ?_
 refine Goes.wk (Wk.nilRow (d:=16) (lab:=.loc 102 0) (size:=1) (by simp-implicitDefEqProofs+decide only[go_sem]) (by simp-implicitDefEqProofs+decide only[go_sem,hloc,hlZ]) rfl (by decide)) ?_
 refine Goes.loop (X:=Nat) (fun i=>⟨ofL [(0,.t (.ptr id)),(1,.t (.int .i64 op)),(3,.t (.slice (out.map I))),(4,.t (.slice (A.map Op1.T))),(7,.bp (.loc 7 0) 0),(14,.bp (.loc 14 0) 0),(15,.sl (.loc 101 0) i 0 i),(16,.sl (.loc 102 0) i 0 i),(51,.t (.int .i64 N)),(52,.t (.int .i64 i))],
   ofH (H i) [(.loc 7 0,.box [.t (.int .i64 a1),.t (.int .i64 a2),.t (.int .i64 a3),.t (.int .i64 a4),.t (.int .i64 a5),.t (.int .i64 a6),.t (.int .i64 a7),.t (.int .i64 a8),.t (.bool ak),.t (.slice (al.map I))]),(.loc 14 0,.box [.t (.slice (ks.map Vx.T))]),(.loc 101 0,.arr 5 ((f i).v.map Vx.T) i 0),(.loc 102 0,.arr 1 ((f i).p.map I) i 0)],m+2+3*i⟩) (fun i=>i≤N) (fun i=>N-i) 0 ?_ (by omega) ?_
 ·show Wk _ _ ⟨_,ofH (H 0) _,_⟩
  rw[hH0]
  refine Wk.boxes _ _ hbZ rfl rfl ?_ (by rintro (_|_|_|_|_) hp<;>first|(cases hp;done)|simp-implicitDefEqProofs+decide only[go_sem,hloc,hlZ]) ?_ ?_
  ·simp-implicitDefEqProofs+decide only[go_sem,hloc,hlZ,ofH,hc0,List.map_nil]<;>first|rfl|exact⟨rfl,rfl⟩|exact⟨rfl,rfl,rfl⟩|exact⟨rfl,rfl,rfl,rfl⟩|skip
  ·simp-implicitDefEqProofs+decide only[go_sem]<;>first|rfl|skip
  ·simp-implicitDefEqProofs+decide only[go_sem]<;>first|rfl|skip
 rintro i hi J hJ
 obtain⟨iv1,iv2,iv3,iv4⟩:=cinv i
 obtain⟨BI,nI,_,_⟩:=inv i
 apply run_sound 200
 simp-implicitDefEqProofs+decide only[go_sem,ofH]
 have ce:=errG_ok (H i) (m+2+3*i) id (f i).s.k md _ (f i).s.tie BI.hb BI.o
 apply selP_dec<;>intro hc
 ·have hiN:i<N:=by omega
  have cop:=c6 i hiN
  have hx:=xsAt_g (hfit i hiN) hv
  have hxl:((xsAt A out i).length:Int)=manyX op:=by unfold xsAt;rw[List.length_map];exact hAl
  rw[show A.map (opdX out (i:Nat))=xsAt A out i from rfl]at cop
  have cr:=picksG (H i) (m+2+3*i) id md (f i).s op ⟨a1,a2,a3,a4,a5,a6,a7,a8,ak,al⟩ ks (xsAt A out i) BI (by omega) (nI _ (by omega)) (nI _ (by omega)) (nI _ (by omega)) (by omega) (by omega) hx hkg hcm hxl hlk
  have g:=pickV_g (x:=⟨a1,a2,a3,a4,a5,a6,a7,a8,ak,al⟩) hx hkg hcm hxl hlk
  have hs1:=hst i
  have hH1:=hHs i
  rw[hs1]at hH1
  dsimp only at hH1
  rw[←hH1]at cr
  obtain⟨⟨w,p⟩,hw⟩:∃q,pickV op ks (xsAt A out i)=q:=⟨_,rfl⟩
  rw[hw]at cr g hs1
  dsimp only at cr g hs1
  have cc:=copyX_ok w (g.2.mono (by decide))
  have hw1:=wS (show i<1000000000000 by omega)
  have hnb:(i+1<big)=True:=eq_true (by unfold big;omega)
  have e1:((f i).v.map Vx.T).length=i:=by rw[List.length_map,iv1]
  have e2:((f i).p.map I).length=i:=by rw[List.length_map,iv2]
  have e3:(f i).v.map Vx.T++[.agg [.bool w.neg,sW w.p,sW w.qq,.int .u64 w.bits,.int .i64 0]]=((f i).v++[w]).map Vx.T:=by rw[List.map_append,←Vx_T];rfl
  have e4:(f i).p.map I++[.int .i64 p]=((f i).p++[p]).map I:=by rw[List.map_append];rfl
  have hl0:=hlH i
  have hl1:=hlH (i+1)
  have hbi:=hbH i
  have hbi1:=hbH (i+1)
  have nx:m+2+3*(i+1)=m+2+3*i+3:=by omega
  simp only[sX,sI,Vx_T]at cop cr cc
  simp-implicitDefEqProofs+decide only[go_sem,ofH]
  refine CallG.pureS _ Tryz.call89 cop (by simp only[List.all_cons,List.all_nil,noPtr,noPtrL,noPtrL_I,noPtrL_Op,Bool.and_true,Bool.and_self]) (by first|rfl|(simp only[go_sem];done)|(simp only[go_sem];rfl)) ?_
  apply run_sound 200
  simp-implicitDefEqProofs+decide only[go_sem,ofH,hl0]
  refine CallG.pool _ Tryz.call17 ce hbi (by rintro (_|_|_|_|_) hp<;>first|(cases hp;done)|simp-implicitDefEqProofs+decide only[go_sem,hl0]) ?_
  apply run_sound 200
  simp-implicitDefEqProofs+decide only[go_sem,ofH,hl0]
  refine CallG.P _ Tryz.call90 (c7) ?_
  simp-implicitDefEqProofs+decide only[go_sem,ofH,hl0]
  refine CallG.pool _ Tryz.call92 cr hbi (by rintro (_|_|_|_|_) hp<;>first|(cases hp;done)|simp-implicitDefEqProofs+decide only[go_sem,hl0]) ?_
  apply run_sound 200
  simp-implicitDefEqProofs+decide only[go_sem,ofH,hl0,hl1]
  refine CallG.PS _ Tryz.call67 (cc) ?_
  simp-implicitDefEqProofs+decide only[go_sem,ofH,hl0,hl1,hlZ,hnb,e1,e2]
  refine hJ (i+1) _ (by omega) (by omega) ?_
  rw[hs1]
  dsimp only
  rw[nx]
  refine Wk.boxes _ _ hbi1 rfl rfl ?_ (by rintro (_|_|_|_|_) hp<;>first|(cases hp;done)|simp-implicitDefEqProofs+decide only[go_sem,hl0,hl1,hlZ]) ?_ ?_
  ·simp-implicitDefEqProofs+decide only[go_sem,hl0,hl1,hlZ,ofH,e1,e2,e3,e4]<;>first|rfl|exact⟨rfl,rfl⟩|exact⟨rfl,rfl,rfl⟩|exact⟨rfl,rfl,rfl,rfl⟩|skip
  ·simp-implicitDefEqProofs+decide only[go_sem,hw1]<;>first|rfl|skip
  ·simp-implicitDefEqProofs+decide only[go_sem]<;>first|rfl|skip
 ·obtain rfl:i=N:=by omega
  have e1:((f i).v.map Vx.T).length=i:=by rw[List.length_map,iv1]
  have e2:((f i).p.map I).length=i:=by rw[List.length_map,iv2]
  have hl0:=hlH i
  have hbi:=hbH i
  simp-implicitDefEqProofs+decide only[go_sem,hl0,ofH]
  refine CallG.pool _ Tryz.call17 ce hbi (by rintro (_|_|_|_|_) hp<;>first|(cases hp;done)|simp-implicitDefEqProofs+decide only[go_sem,hl0]) ?_
  apply run_sound 200
  simp-implicitDefEqProofs+decide only[go_sem,hl0]
  exact endF.row2 (.inr rfl) (by simp-implicitDefEqProofs+decide only[go_sem];rfl) (by simp-implicitDefEqProofs+decide only[go_sem,hl0];rfl) (by rw[e1]) rfl (by simp-implicitDefEqProofs+decide only[go_sem];rfl) (by simp-implicitDefEqProofs+decide only[go_sem,hl0];rfl) (by rw[e2]) rfl (by rintro (_|_|_|_|_) hp<;>first|(cases hp;done)|simp-implicitDefEqProofs+decide only[go_sem,hl0]) rfl
set_option maxHeartbeats 4000000 in
theorem doE_ok (h:Heap) (m id:Nat) (md:Int) (hmd:md=0∨md=1) (s:Bs) (op:Int) (x:Atr) (out:List Int) (A:List Op1) (N:Nat) (B:BkM h id 4 (obG id md s) s.met) (hid:id<m) (h1:h (.obj m)=none) (h2:h (.obj (m+1))=none) (hf:h (.fld (m+1) 0)=none)
  (hop:1≤op∧op≤26) (hAl:(A.length:Int)=manyX op) (hcnt:cnt out=N) (hN:N≤64) (hol:out.length<1000000000) (hfit:∀i,i<N→∀a∈A,OpIn out (i:Nat) a) (hfx:fairX op x=true)
  (hxp:IOk x.p) (hxq:IOk x.q) (hxr:IOk x.r) (hxs:IOk x.s) (K:Ks) (hK:readyE md ⟨s.k,0⟩ (knownL op x) (knownL op x).length=K) (he:K.s.e≠0):
  Ret Tryz.prog 39 [.ptr id,.int .i64 op,x.T,sI out,.slice (A.map Op1.T)] h m [.t (.slice []),.t (.slice [])]
   (knZ h m id md (mtC id 4 s.met) s.tie ⟨s.k,0⟩ (knownL op x)) (m+2):=by
 have hb:=B.hb
 have hloc:∀d j,h (.loc d j)=none:=fun d j=>hb _ rfl
 have hko:h (.obj id)=some (bankE md (mtC id 4 s.met) (⟨s.k,0⟩:Es).k s.tie (⟨s.k,0⟩:Es).e):=B.o
 have c1:=is_ok op
 have hiX:isX op=true:=by unfold isX;rw[decide_eq_true hop.1,decide_eq_true hop.2];rfl
 rw[hiX,←hAl]at c1
 have c2:=errG_ok h m id s.k md _ s.tie hb B.o
 have c3:=fair_ok op x
 rw[hfx]at c3
 have c4:=knows_ok h m id md hmd (mtC id 4 s.met) s.tie ⟨s.k,0⟩ op x hb hko hid h1 h2 hf hop hxp hxq hxr hxs
 have c5:=count_ok out hol
 rw[hcnt]at c5
 have hkZ:=knZ_id (h:=h) (m:=m) (id:=id) (md:=md) (mc:=mtC id 4 s.met) (tie:=s.tie) (s:=⟨s.k,0⟩) (P:=knownL op x) hid
 have hbZ:=knZ_hb (h:=h) (m:=m) (id:=id) (md:=md) (mc:=mtC id 4 s.met) (tie:=s.tie) (s:=⟨s.k,0⟩) (P:=knownL op x) hb
 rw[hK]at hkZ c4
 have hkpZ:=knZ_keeps (h:=h) (m:=m) (id:=id) (md:=md) (mc:=mtC id 4 s.met) (tie:=s.tie) (s:=⟨s.k,0⟩) (P:=knownL op x)
 obtain⟨Z,hZ⟩:∃Z,knZ h m id md (mtC id 4 s.met) s.tie ⟨s.k,0⟩ (knownL op x)=Z:=⟨_,rfl⟩
 rw[hZ]at c4 hkZ hbZ hkpZ⊢
 have hlZ:∀d j,Z (.loc d j)=none:=fun d j=>hbZ _ rfl
 have ce:=errE_ok Z (m+2) id K.s.k md K.s.e _ s.tie hbZ hkZ
 have de:decide (K.s.e≠0)=true:=decide_eq_true he
 have c6:=fun i (hi:i<N)=>operands_ok out A (i:Nat) ⟨by omega,by omega⟩ (by have:=hAl;unfold manyX at this;repeat' split at this<;>omega) (hfit i hi)
 obtain⟨a1,a2,a3,a4,a5,a6,a7,a8,ak,al⟩:=x
 refine Ret.intro Tryz.func39 rfl (rt:=[10,11]) rfl (by simp[Tryz.ntmps39]) (by decide) (sites:=fun _=>false) hbZ hkpZ ?_
 simp only[Atr.T,I,sI,sX,knT]at c3 c4 c5⊢
 apply run_sound 200
 refine SmA ?_
 refine CallG.P _ Tryz.call49 (c1) ?_
 have dn:decide ((A.length:Int)≠(A.length:Int))=false:=decide_eq_false (fun h=>h rfl)
 simp-implicitDefEqProofs+decide only[go_sem,hloc,List.length_map,dn]
 refine CallG.Q _ Tryz.call17 c2 ?_
 refine SmA ?_
 refine CallG.P _ Tryz.call87 (c3) ?_
 refine SmA ?_
 refine CallG.Q _ Tryz.call88 c4 ?_
 simp-implicitDefEqProofs+decide only[go_sem,hloc,hlZ]
 refine CallG.P _ Tryz.call54 (c5) ?_
 simp-implicitDefEqProofs+decide only[go_sem,hloc,hlZ]
 refine Goes.wk (Wk.nilRow (d:=15) (lab:=.loc 101 0) (size:=5) (by simp-implicitDefEqProofs+decide only[go_sem]) (by simp-implicitDefEqProofs+decide only[go_sem,hloc,hlZ]) rfl (by decide)) ?_
 refine Goes.wk (Wk.nilRow (d:=16) (lab:=.loc 102 0) (size:=1) (by simp-implicitDefEqProofs+decide only[go_sem]) (by simp-implicitDefEqProofs+decide only[go_sem,hloc,hlZ]) rfl (by decide)) ?_
 refine Goes.loop (X:=Nat) (fun i=>⟨ofL [(0,.t (.ptr id)),(1,.t (.int .i64 op)),(3,.t (.slice (out.map I))),(4,.t (.slice (A.map Op1.T))),(7,.bp (.loc 7 0) 0),(14,.bp (.loc 14 0) 0),(15,.sl (.loc 101 0) i 0 i),(16,.sl (.loc 102 0) i 0 i),(51,.t (.int .i64 N)),(52,.t (.int .i64 i))],
   ofH Z [(.loc 7 0,.box [.t (.int .i64 a1),.t (.int .i64 a2),.t (.int .i64 a3),.t (.int .i64 a4),.t (.int .i64 a5),.t (.int .i64 a6),.t (.int .i64 a7),.t (.int .i64 a8),.t (.bool ak),.t (.slice (al.map I))]),(.loc 14 0,.box [.t (.slice (K.l.map Vx.T))]),(.loc 101 0,.arr 5 ((([]:List Vx)).map Vx.T) i 0),(.loc 102 0,.arr 1 ((([]:List Int)).map I) i 0)],m+2⟩) (fun i=>i=0) (fun i=>N-i) 0 ?_ (by omega) ?_
 ·refine Wk.boxes _ _ hbZ rfl rfl ?_ (by rintro (_|_|_|_|_) hp<;>first|(cases hp;done)|simp-implicitDefEqProofs+decide only[go_sem,hloc,hlZ]) ?_ ?_
  ·simp-implicitDefEqProofs+decide only[go_sem,hloc,hlZ,ofH,List.map_nil]<;>first|rfl|exact⟨rfl,rfl⟩|exact⟨rfl,rfl,rfl⟩|exact⟨rfl,rfl,rfl,rfl⟩|skip
  ·simp-implicitDefEqProofs+decide only[go_sem]<;>first|rfl|skip
  ·simp-implicitDefEqProofs+decide only[go_sem]<;>first|rfl|skip
 rintro i hi J hJ
 apply run_sound 200
 simp-implicitDefEqProofs+decide only[go_sem,ofH]
 apply selP_dec<;>intro hc
 ·have hiN:i<N:=by omega
  have cop:=c6 i hiN
  simp only[sX,sI,Vx_T]at cop
  simp-implicitDefEqProofs+decide only[go_sem,ofH]
  refine CallG.pureS _ Tryz.call89 cop (by simp only[List.all_cons,List.all_nil,noPtr,noPtrL,noPtrL_I,noPtrL_Op,Bool.and_true,Bool.and_self]) (by first|rfl|(simp only[go_sem];done)|(simp only[go_sem];rfl)) ?_
  apply run_sound 200
  simp-implicitDefEqProofs+decide only[go_sem,ofH,hlZ]
  refine CallG.pool _ Tryz.call17 ce hbZ (by rintro (_|_|_|_|_) hp<;>first|(cases hp;done)|simp-implicitDefEqProofs+decide only[go_sem,hlZ]) ?_
  apply run_sound 200
  simp-implicitDefEqProofs+decide only[go_sem,ofH,hlZ,de]
  exact endF.nil2 (.inr rfl) (by simp-implicitDefEqProofs+decide only[go_sem]) (by simp-implicitDefEqProofs+decide only[go_sem]) (by rintro (_|_|_|_|_) hp<;>first|(cases hp;done)|simp-implicitDefEqProofs+decide only[go_sem,hlZ]) rfl
 ·simp-implicitDefEqProofs+decide only[go_sem,hlZ,ofH]
  refine CallG.pool _ Tryz.call17 ce hbZ (by rintro (_|_|_|_|_) hp<;>first|(cases hp;done)|simp-implicitDefEqProofs+decide only[go_sem,hlZ]) ?_
  apply run_sound 200
  simp-implicitDefEqProofs+decide only[go_sem,hlZ,de]
  exact endF.nil2 (.inr rfl) (by simp-implicitDefEqProofs+decide only[go_sem]) (by simp-implicitDefEqProofs+decide only[go_sem]) (by rintro (_|_|_|_|_) hp<;>first|(cases hp;done)|simp-implicitDefEqProofs+decide only[go_sem,hlZ]) rfl
theorem readyL_g {md:Int} (hmd:md=0∨md=1) {s:Es} (L:List (Int×Int)) (hr:∀q∈L,IOk q.1∧IOk q.2):∀i,i≤L.length→
  ((readyE md s L i).s.e=0→s.e=0)∧(∀k∈(readyE md s L i).l,Gd md (readyE md s L i).s k)∧(readyE md s L i).s.k=s.k
 |0,_=>⟨id,fun k hk=>(by cases hk),rfl⟩
 | i + 1, hi => by
   have ih:=readyL_g hmd (s:=s) L hr i (by omega)
   obtain⟨⟨p,q⟩,hp⟩:=getI (show i<L.length by omega)
   have hpd:L.getD i (0,0)=(p,q):=by rw[List.getD_eq_getElem?_getD,hp];rfl
   have hrr:=hr _ (List.mem_of_getElem? hp)
   have g:=numE_g hmd (s:=(readyE md s L i).s) (p:=p) (q:=q) hrr.1 hrr.2
   unfold readyE
   rw[hpd]
   dsimp only
   refine⟨fun h=>ih.1 (g.1 h),fun k hk e=> ?_,g.2.2.trans ih.2.2⟩
   rcases List.mem_append.mp hk with h1|h1
   ·exact ih.2.1 k h1 (g.1 e)
   ·obtain rfl:=List.mem_singleton.mp h1
    exact g.2.1 e
theorem known_in (op:Int) (x:Atr) (hp:IOk x.p) (hq:IOk x.q) (hr:IOk x.r) (hs:IOk x.s):∀q∈knownL op x,IOk q.1∧IOk q.2:=by
 have i0:IOk 0:=by unfold IOk;decide
 have i1:IOk 1:=by unfold IOk;decide
 have i2:IOk (-1):=by unfold IOk;decide
 intro q h
 unfold knownL at h
 repeat' split at h
 all_goals
  simp only[List.mem_cons,List.not_mem_nil,or_false]at h
 ·subst h;exact⟨i0,i1⟩
 ·subst h;exact⟨i1,i1⟩
 ·rcases h with rfl|rfl|rfl
  ·exact⟨i0,i1⟩
  ·exact⟨i1,i1⟩
  ·exact⟨i2,i1⟩
 ·subst h;exact⟨hp,hq⟩
 ·rcases h with rfl|rfl
  ·exact⟨i0,i1⟩
  ·exact⟨hp,hq⟩
 ·rcases h with rfl|rfl
  ·exact⟨hp,hq⟩
  ·exact⟨hr,hs⟩
 ·rcases h with rfl|rfl
  ·exact⟨i0,i1⟩
  ·exact⟨i1,i1⟩
theorem isD {z:Vx} (h:z.md=1):∃b,z=.d b:=by
 cases z with
 |q r=>cases h
 |d b=>exact⟨b,rfl⟩
theorem powsE_1 (a:Nat):∀i,∃b c,∀k,powsE ⟨k,0⟩ (.d a) i=⟨.d b,⟨k+c,0⟩⟩
 |0=>⟨a,0,fun _=>rfl⟩
 | i + 1 => by
   obtain⟨b,c,h⟩:=powsE_1 a i
   refine⟨mulD b a,c+1,fun k=> ?_⟩
   rw[powsE,h]
   rfl
theorem reckE_1 {op:Int} {x:Atr} {ks xs:List Vx} (hxs:∀z∈xs,z.md=1) (hks:∀z∈ks,z.md=1) (hop:1≤op∧op≤26) (hcm:cmpX op=false) (hl:(xs.length:Int)=manyX op) (hlk:ks.length=(knownL op x).length) (k:Nat):
  (reckE op x.n ks xs ⟨k,0⟩).v=(reckE op x.n ks xs ⟨0,0⟩).v∧(reckE op x.n ks xs ⟨k,0⟩).s.e=0:=by
 have hcm:=of_decide_eq_false hcm
 have hc:op=1∨op=2∨op=3∨op=7∨op=8∨op=9∨op=10∨op=11∨op=12∨op=13∨op=14∨op=17∨op=18∨op=19∨op=20∨op=25∨op=26:=by omega
 have l1:∀n:Nat,(xs.length:Int)=n→n=1→∃a,xs=[.d a]:=fun n h hn=>by
  subst hn
  obtain⟨x0,rfl⟩:=list1 (α:=Vx) (l:=xs) (by omega)
  obtain⟨a,rfl⟩:=isD (hxs x0 (by simp))
  exact⟨a,rfl⟩
 have l2:∀n:Nat,(xs.length:Int)=n→n=2→∃a b,xs=[.d a,.d b]:=fun n h hn=>by
  subst hn
  obtain⟨x0,x1,rfl⟩:=list2 (α:=Vx) (l:=xs) (by omega)
  obtain⟨a,rfl⟩:=isD (hxs x0 (by simp))
  obtain⟨b,rfl⟩:=isD (hxs x1 (by simp))
  exact⟨a,b,rfl⟩
 have l3:∀n:Nat,(xs.length:Int)=n→n=3→∃a b c,xs=[.d a,.d b,.d c]:=fun n h hn=>by
  subst hn
  obtain⟨x0,x1,x2,rfl⟩:=list3 (α:=Vx) (l:=xs) (by omega)
  obtain⟨a,rfl⟩:=isD (hxs x0 (by simp))
  obtain⟨b,rfl⟩:=isD (hxs x1 (by simp))
  obtain⟨c,rfl⟩:=isD (hxs x2 (by simp))
  exact⟨a,b,c,rfl⟩
 have k1:ks.length=1→∃a,ks=[.d a]:=fun h=>by
  obtain⟨x0,rfl⟩:=list1 (α:=Vx) (l:=ks) h
  obtain⟨a,rfl⟩:=isD (hks x0 (by simp))
  exact⟨a,rfl⟩
 rcases hc with rfl|rfl|rfl|rfl|rfl|rfl|rfl|rfl|rfl|rfl|rfl|rfl|rfl|rfl|rfl|rfl|rfl
 ·obtain⟨a,rfl⟩:=l1 1 hl rfl;exact⟨rfl,rfl⟩
 ·obtain⟨a,rfl⟩:=l1 1 hl rfl;obtain⟨b,rfl⟩:=k1 (hlk.trans rfl);exact⟨rfl,rfl⟩
 ·obtain⟨a,rfl⟩:=l1 1 hl rfl;exact⟨rfl,rfl⟩
 ·obtain⟨a,rfl⟩:=l1 1 hl rfl;exact⟨rfl,rfl⟩
 ·obtain⟨a,rfl⟩:=l1 1 hl rfl;exact⟨rfl,rfl⟩
 ·obtain⟨a,rfl⟩:=l1 1 hl rfl;exact⟨rfl,rfl⟩
 ·obtain⟨a,rfl⟩:=l1 1 hl rfl;obtain⟨b,rfl⟩:=k1 (hlk.trans rfl);exact⟨rfl,rfl⟩
 ·obtain⟨a,rfl⟩:=l1 1 hl rfl;obtain⟨b,rfl⟩:=k1 (hlk.trans rfl);exact⟨rfl,rfl⟩
 ·obtain⟨a,rfl⟩:=l1 1 hl rfl
  obtain⟨b,rfl⟩:=k1 (hlk.trans rfl)
  have e:∀s,reckE 12 x.n [.d b] [.d a] s=powE s (.d b) (.d a) x.n:=fun _=>rfl
  rw[e,e]
  unfold powE
  obtain⟨w,c,h⟩:=powsE_1 a (x.n.natAbs-1)
  split
  ·exact⟨rfl,rfl⟩
  split
  ·rw[h,h];exact⟨rfl,rfl⟩
  ·rw[h,h];exact⟨rfl,rfl⟩
 ·obtain⟨a,rfl⟩:=l1 1 hl rfl;obtain⟨b,rfl⟩:=k1 (hlk.trans rfl);exact⟨rfl,rfl⟩
 ·obtain⟨a,rfl⟩:=l1 1 hl rfl;obtain⟨b,rfl⟩:=k1 (hlk.trans rfl);exact⟨rfl,rfl⟩
 ·obtain⟨a,b,rfl⟩:=l2 2 hl rfl;exact⟨rfl,rfl⟩
 ·obtain⟨a,b,rfl⟩:=l2 2 hl rfl;exact⟨rfl,rfl⟩
 ·obtain⟨a,b,rfl⟩:=l2 2 hl rfl;exact⟨rfl,rfl⟩
 ·obtain⟨a,b,rfl⟩:=l2 2 hl rfl;exact⟨rfl,rfl⟩
 ·obtain⟨a,b,c,rfl⟩:=l3 3 hl rfl;exact⟨rfl,rfl⟩
 ·obtain⟨a,b,c,rfl⟩:=l3 3 hl rfl;exact⟨rfl,rfl⟩
def valO (op n:Int) (ks y:List Vx):Vx:=if cmpX op=true then (pickV op ks y).1 else (reckE op n ks y ⟨0,0⟩).v
theorem runR_1 {op:Int} {x:Atr} {ks:List Vx} {s:Es} {N:Nat} {xs:Nat→List Vx} (he:s.e=0) (hks:∀z∈ks,z.md=1) (hop:1≤op∧op≤26) (hcm:cmpX op=false) (hlk:ks.length=(knownL op x).length) (hx:∀i,i<N→(∀z∈xs i,z.md=1)∧((xs i).length:Int)=manyX op):
  ∀i,i≤N→(runR op x.n ks xs s i).2.e=0∧(runR op x.n ks xs s i).1=(List.range i).map fun j=>valO op x.n ks (xs j)
 |0,_=>⟨he,rfl⟩
 | i + 1, hi => by
   obtain⟨h1,h2⟩:=runR_1 he hks hop hcm hlk hx i (by omega)
   obtain⟨g1,g2⟩:=hx i (by omega)
   have e:runR op x.n ks xs s (i+1)=((runR op x.n ks xs s i).1++[(reckE op x.n ks (xs i) (runR op x.n ks xs s i).2).v],(reckE op x.n ks (xs i) (runR op x.n ks xs s i).2).s):=rfl
   rw[e,h2]
   obtain⟨⟨k,e0⟩,hs⟩:∃q,(runR op x.n ks xs s i).2=q:=⟨_,rfl⟩
   rw[hs]at h1⊢
   dsimp only at h1⊢
   subst h1
   obtain⟨r1,r2⟩:=reckE_1 (op:=op) (x:=x) (ks:=ks) (xs:=xs i) g1 hks hop hcm g2 hlk k
   refine⟨r2,?_⟩
   rw[List.range_succ,List.map_append,r1]
   show _=_++[valO op x.n ks (xs i)]
   unfold valO
   rw[if_neg (by rw[hcm];decide)]
theorem runC_1 {op n:Int} {ks:List Vx} {s:Bs} {xs:Nat→List Vx} (hcm:cmpX op=true):∀i,(runC op ks xs s i).v=(List.range i).map fun j=>valO op n ks (xs j)
 |0=>rfl
 | i + 1 => by
   show(runC op ks xs s i).v++[_]=_
   rw[runC_1 (n:=n) hcm i,List.range_succ,List.map_append]
   show _=_++[valO op n ks (xs i)]
   unfold valO
   rw[if_pos hcm]
theorem hC_low {Z:Heap} {M id:Nat} {md op:Int} {ks:List Vx} {xs:Nat→List Vx} {s:Bs}:∀i,(∀j,j<M→j≠id→hC Z M id md op ks xs s i (.obj j)=Z (.obj j))∧∀j f,j≠id→hC Z M id md op ks xs s i (.fld j f)=Z (.fld j f)
 |0=>⟨fun _ _ _=>rfl,fun _ _ _=>rfl⟩
 | i + 1 => by
   obtain⟨h1,h2⟩:=hC_low (Z:=Z) (M:=M) (id:=id) (md:=md) (op:=op) (ks:=ks) (xs:=xs) (s:=s) i
   refine⟨fun j hj hid=> ?_,fun j f hid=> ?_⟩
   ·show bkU _ id 4 _ _ (.obj j)=_
    unfold bkU
    rw[upd_ne _ _ _ _ (fun e=>by cases e),upd_ne _ _ _ _ (fun e=>hid (Lab.obj.inj e)),pkH_ne (fun e=>by have:=Lab.obj.inj e;omega) (fun e=>by have:=Lab.obj.inj e;omega) (fun e=>by have:=Lab.obj.inj e;omega)]
    exact h1 j hj hid
   ·show bkU _ id 4 _ _ (.fld j f)=_
    unfold bkU
    rw[upd_ne _ _ _ _ (fun e=>hid (Lab.fld.inj e).1),upd_ne _ _ _ _ (fun e=>by cases e),pkH_ne (fun e=>by cases e) (fun e=>by cases e) (fun e=>by cases e)]
    exact h2 j f hid
structure DoH (h H:Heap) (m M id:Nat) (e:Int):Prop where
 hb:∀l,Lab.pool l=false→H l=none
 up:m≤M
 fresh:∀j,M≤j→H (.obj j)=none∧∀f,H (.fld j f)=none
 low:∀j,j<m→j≠id→H (.obj j)=h (.obj j)∧∀f,H (.fld j f)=h (.fld j f)
 ob:∃mc k t,H (.obj id)=some (bankE 1 mc k t e)
theorem do1_ok (h:Heap) (m id:Nat) (s:Bs) (op:Int) (x:Atr) (out:List Int) (A:List Op1) (N:Nat) (B:BkM h id 4 (obG id 1 s) s.met) (hid:id<m) (hnn:∀j,m≤j→h (.obj j)=none∧∀f,h (.fld j f)=none)
  (hop:1≤op∧op≤26) (hAl:(A.length:Int)=manyX op) (hcnt:cnt out=N) (hN:N≤64) (hol:out.length<1000000000) (hfit:∀i,i<N→∀a∈A,OpIn out (i:Nat) a) (hv:∀a∈A,∀z∈a.v,z.md=1∧z.B 9) (hkb:s.k<1000) (hml:s.met.length<1000) (hfx:fairX op x=true)
  (hxp:IOk x.p) (hxq:IOk x.q) (hxr:IOk x.r) (hxs:IOk x.s) (K:Ks) (hK:readyE 1 ⟨s.k,0⟩ (knownL op x) (knownL op x).length=K):
  ∃H M P,Ret Tryz.prog 39 [.ptr id,.int .i64 op,x.T,sI out,.slice (A.map Op1.T)] h m [.t (sX (if K.s.e=0 then (List.range N).map fun j=>valO op x.n K.l (xsAt A out j) else [])),.t (sI P)] H M∧DoH h H m M id K.s.e:=by
 have hg:=readyL_g (.inr rfl) (s:=⟨s.k,0⟩) (knownL op x) (known_in op x hxp hxq hxr hxs) _ (Nat.le_refl _)
 rw[hK]at hg
 obtain⟨_,hkg,hkk⟩:=hg
 have hlk:K.l.length=(knownL op x).length:=by rw[←hK];exact readyE_len _ _ _ _
 have hkZ:=knZ_id (h:=h) (m:=m) (id:=id) (md:=1) (mc:=mtC id 4 s.met) (tie:=s.tie) (s:=⟨s.k,0⟩) (P:=knownL op x) hid
 have hbZ:=knZ_hb (h:=h) (m:=m) (id:=id) (md:=1) (mc:=mtC id 4 s.met) (tie:=s.tie) (s:=⟨s.k,0⟩) (P:=knownL op x) B.hb
 have hfr:∀j,m+2≤j→knZ h m id 1 (mtC id 4 s.met) s.tie ⟨s.k,0⟩ (knownL op x) (.obj j)=none∧∀f,knZ h m id 1 (mtC id 4 s.met) s.tie ⟨s.k,0⟩ (knownL op x) (.fld j f)=none:=fun j hj=>⟨(knZ_obj (by omega) (by omega) (by omega)).trans (hnn j (by omega)).1,fun f=>by
   unfold knZ knI knH
   rw[upd_ne _ _ _ _ (fun e=>by have:=(Lab.fld.inj e).1;omega),upd_ne _ _ _ _ (fun e=>by cases e),upd_ne _ _ _ _ (fun e=>by have:=(Lab.fld.inj e).1;omega),upd_ne _ _ _ _ (fun e=>by cases e),upd_ne _ _ _ _ (fun e=>by cases e)]
   exact(hnn j (by omega)).2 f⟩
 have hlw:∀j,j<m→j≠id→knZ h m id 1 (mtC id 4 s.met) s.tie ⟨s.k,0⟩ (knownL op x) (.obj j)=h (.obj j)∧∀f,knZ h m id 1 (mtC id 4 s.met) s.tie ⟨s.k,0⟩ (knownL op x) (.fld j f)=h (.fld j f):=fun j hj hi=>⟨knZ_obj hi (by omega) (by omega),fun f=>by
   unfold knZ knI knH
   rw[upd_ne _ _ _ _ (fun e=>by have:=(Lab.fld.inj e).1;omega),upd_ne _ _ _ _ (fun e=>by cases e),upd_ne _ _ _ _ (fun e=>by have:=(Lab.fld.inj e).1;omega),upd_ne _ _ _ _ (fun e=>by cases e),upd_ne _ _ _ _ (fun e=>by cases e)]⟩
 rw[hK]at hkZ
 have hfZ:=knZ_fld (h:=h) (m:=m) (id:=id) (md:=1) (mc:=mtC id 4 s.met) (tie:=s.tie) (s:=⟨s.k,0⟩) (P:=knownL op x) (i:=id) (f:=4) (by decide)
 by_cases he:K.s.e=0
 ·rw [if_pos he]
  have hk1:∀z∈K.l,z.md=1∧z.B 9:=fun z hz=>hkg z hz he
  have hx:=fun i (hi:i<N)=>xsAt_g (hfit i hi) hv
  have hxl:∀i,((xsAt A out i).length:Int)=manyX op:=fun i=>by unfold xsAt;rw[List.length_map];exact hAl
  cases hcm:cmpX op with
  | false =>
    have d:=doR_ok h m id 1 (.inr rfl) s op x out A N B hid (hnn m (by omega)).1 (hnn (m+1) (by omega)).1 ((hnn (m+1) (by omega)).2 0) hop hcm hAl hcnt hN hol hfit hv hkb hfx hxp hxq hxr hxs K hK hkg hkk _ rfl
    obtain⟨r1,r2⟩:=runR_1 (op:=op) (x:=x) (ks:=K.l) (s:=K.s) (N:=N) (xs:=xsAt A out) he (fun z hz=>(hk1 z hz).1) hop hcm hlk (fun i hi=>⟨fun z hz=>(hx i hi z hz).1,hxl i⟩) N (Nat.le_refl _)
    rw[if_pos r1,if_pos r1,r2]at d
    refine⟨_,_,_,d,⟨upd_hb hbZ,by omega,fun j hj=> ?_,fun j hj hi=> ?_,⟨mtC id 4 s.met,(runR op x.n K.l (xsAt A out) K.s N).2.k,s.tie,by rw[upd_same,he,r1]⟩⟩⟩
    ·have:=hfr j hj
     exact⟨by rw[upd_ne _ _ _ _ (fun e=>by have:=Lab.obj.inj e;omega)];exact this.1,fun f=>by rw[upd_ne _ _ _ _ (fun e=>by cases e)];exact this.2 f⟩
    ·have:=hlw j hj hi
     exact⟨by rw[upd_ne _ _ _ _ (fun e=>hi (Lab.obj.inj e))];exact this.1,fun f=>by rw[upd_ne _ _ _ _ (fun e=>by cases e)];exact this.2 f⟩
  | true =>
    have hKe:K=⟨K.l,⟨s.k,0⟩⟩:=by
     obtain⟨l,⟨k,e⟩⟩:=K
     dsimp only at he hkk
     rw[he,hkk]
    have d:=doC_ok h m id 1 (.inr rfl) s op x out A N B hid (fun j hj=>(hnn j hj).1) ((hnn (m+1) (by omega)).2 0) hop hcm hAl hcnt hN hol hfit hv hkb hml hfx hxp hxq hxr hxs K.l (hK.trans hKe) hk1
    rw[runC_1 (n:=x.n) hcm N]at d
    have BZ:BkM (knZ h m id 1 (mtC id 4 s.met) s.tie ⟨s.k,0⟩ (knownL op x)) id 4 (obG id 1 s) s.met:=⟨hbZ,by rw[hkZ,he,hkk];rfl,hfZ.trans B.f⟩
    obtain⟨i1,i2,_,_⟩:=hC_inv (M:=m+2) (op:=op) (ks:=K.l) (xs:=xsAt A out) BZ (by omega) (fun j hj=>(hfr j hj).1) N
    obtain⟨l1,l2⟩:=hC_low (Z:=knZ h m id 1 (mtC id 4 s.met) s.tie ⟨s.k,0⟩ (knownL op x)) (M:=m+2) (id:=id) (md:=1) (op:=op) (ks:=K.l) (xs:=xsAt A out) (s:=s) N
    refine⟨_,_,_,d,⟨i1.hb,by omega,fun j hj=>⟨i2 j hj,fun f=> ?_⟩,fun j hj hi=>⟨(l1 j (by omega) hi).trans (hlw j hj hi).1,fun f=>(l2 j f hi).trans ((hlw j hj hi).2 f)⟩,⟨_,_,_,i1.o.trans (by rw[he];rfl)⟩⟩⟩
    exact(l2 j f (by omega)).trans ((hfr j (by omega)).2 f)
 ·rw[if_neg he]
  have d:=doE_ok h m id 1 (.inr rfl) s op x out A N B hid (hnn m (by omega)).1 (hnn (m+1) (by omega)).1 ((hnn (m+1) (by omega)).2 0) hop hAl hcnt hN hol hfit hfx hxp hxq hxr hxs K hK he
  exact⟨_,_,[],d,⟨hbZ,by omega,hfr,hlw,⟨_,_,_,hkZ⟩⟩⟩
theorem chk_long {d:List Int} (h:6<d.length):chk d=9:=by unfold chk;rw[if_pos h]
theorem rCheckA_ok (d:List Int):Pure Tryz.prog 78 [sI d] [.t (.int .i64 (chk d))]:=by
 by_cases h:6<d.length
 ·rw[chk_long h]
  have d1:decide ((6:Int)<(d.length:Int))=true:=decide_eq_true (by omega)
  refine Pure.I Tryz.func78 [2] ?_
  simp-implicitDefEqProofs+decide only[go_sem,sI,List.length_map,d1]
  exact endF.one (.inr rfl) (by simp-implicitDefEqProofs+decide only[go_sem]) rfl (fun _ _=>rfl) rfl
 ·exact rCheck_ok d (by omega)
theorem rCountA_ok (d:List Int):Pure Tryz.prog 25 [sI d] [.t (.int .i64 (cnt d))]:=by
 by_cases h:6<d.length
 ·have c1:=rCheckA_ok d
  rw[chk_long h]at c1
  rw[show cnt d=0 by unfold cnt;rw[chk_long h];rfl]
  refine Pure.I Tryz.func25 [2] ?_
  refine SmJ ?_
  refine CallG.P _ Tryz.call78 (c1) ?_
  refine SmJ ?_
  exact endF.one (.inr rfl) (by simp-implicitDefEqProofs+decide only[go_sem]) rfl (fun _ _=>rfl) rfl
 ·exact rCount_ok d (by omega)
theorem rTwoL_ok (a b:List Int) (h:6<b.length):∃e,e≠0∧Pure Tryz.prog 111 [sI a,sI b] [.t (.slice []),.t (.int .i64 e)]:=by
 have c1:=rCheckA_ok a
 have c2:=rCheckA_ok b
 rw[chk_long h]at c2
 by_cases h1:chk a=0
 ·rw[h1]at c1
  refine⟨9,by decide,?_⟩
  refine Pure.I Tryz.func111 [4,5] ?_
  refine SmJ ?_
  refine CallG.P _ Tryz.call78 (c1) ?_
  refine Sm ?_
  refine CallG.P _ Tryz.call78 (c2) ?_
  refine Sm ?_
  exact endF.V [(4,.slice []),(5,.int .i64 9)] (vals_n (by simp-implicitDefEqProofs+decide only[go_sem]) (vals_t (by simp-implicitDefEqProofs+decide only[go_sem]<;>rfl) rfl vals_nil))
 ·have d1:decide (chk a≠0)=true:=decide_eq_true h1
  refine⟨chk a,h1,?_⟩
  generalize chk a=e at*
  refine Pure.I Tryz.func111 [4,5] ?_
  refine SmJ ?_
  refine CallG.P _ Tryz.call78 (c1) ?_
  refine Sm ?_
  refine CallG.P _ Tryz.call78 (c2) ?_
  simp-implicitDefEqProofs+decide only[go_sem,d1]
  exact endF.V [(4,.slice []),(5,.int .i64 e)] (vals_n (by simp-implicitDefEqProofs+decide only[go_sem]) (vals_t (by simp-implicitDefEqProofs+decide only[go_sem]<;>rfl) rfl vals_nil))
theorem rFitsL_ok (a b:List Int) (h:6<b.length):Pure Tryz.prog 93 [sI a,sI b] [.t (.bool false)]:=by
 obtain⟨e,he,c1⟩:=rTwoL_ok a b h
 have d1:decide (e=0)=false:=decide_eq_false he
 refine Pure.I Tryz.func93 [4] ?_
 refine SmJ ?_
 refine CallG.PS _ Tryz.call111 (c1) ?_
 simp-implicitDefEqProofs+decide only[go_sem,d1]
 exact endF.one (.inr rfl) (by simp-implicitDefEqProofs+decide only[go_sem]) rfl (fun _ _=>rfl) rfl
noncomputable def srcL (f t:List Int):List Int:=if twoS f t=(t,0) then sourcesD f t (prodL t).toNat else []
theorem rSrc_ok (f t:List Int) (hf:f.length<1000000000):Pure Tryz.prog 40 [sI f,sI t] [.t (sI (srcL f t))]:=by
 unfold srcL
 by_cases h:twoS f t=(t,0)
 ·rw[if_pos h];exact rSources_ok f t h
 ·rw[if_neg h]
  by_cases hl:6<t.length
  ·have c1:=rFitsL_ok f t hl
   refine Pure.I Tryz.func40 [4] ?_
   refine SmJ ?_
   refine CallG.P _ Tryz.call93 (c1) ?_
   refine Sm ?_
   exact endF.nil (.inr rfl) (by simp-implicitDefEqProofs+decide only[go_sem]) (fun _ _=>rfl) rfl
  ·exact rSources_no f t hf (by omega) h
theorem srcL_len (f t:List Int):(srcL f t).length≤64:=by
 unfold srcL
 split
 ·rename_i h
  have:=(chk0 (twoS_fit h).ct).2.2
  rw[sourcesD_length]
  omega
 ·exact Nat.zero_le _
noncomputable def fitsL (out:List Int):List Ag→Bool
 |[]=>true
 |a::r=>if ∃y∈srcL a.d out,(a.v.length:Int)≤y then false else if srcL a.d out=[] then decide (cnt out=0) else fitsL out r
noncomputable def fitsX (op:Int) (x:Atr) (l:List Ag) (out:List Int):Bool:=decide ((l.length:Int)=manyX op)&&(fairX op x&&(decide (l≠[])&&fitsL out l))
theorem lfits_ok (op:Int) (x:Atr) (l:List Ag) (out:List Int) (hl:l.length≤6) (hd:∀a∈l,a.d.length≤20∧a.v.length≤100):Pure Tryz.prog 37 [prT op x l out] [.t (.bool (fitsX op x l out))]:=by
 have hb0:∀l,Lab.pool l=false→(fun _=>none:Heap) l=none:=fun _ _=>rfl
 have cm:=many_ok op
 have cf:=lfair_ok op x
 have cc:=rCountA_ok out
 have hX:fitsX op x l out=(decide ((l.length:Int)=manyX op)&&(fairX op x&&(decide (l≠[])&&fitsL out l))):=rfl
 generalize fitsX op x l out=R at hX
 obtain⟨a1,a2,a3,a4,a5,a6,a7,a8,ak,al⟩:=x
 simp only[Atr.T,I,sI]at cf cc
 unfold prT
 refine Pure.I Tryz.func37 [2] ?_
 simp-implicitDefEqProofs+decide only[go_sem,sI,sA]
 refine Goes.drawN mixed ?_
 simp-implicitDefEqProofs+decide only[go_sem,sI,sA,List.length_map]
 refine CallD.P _ Tryz.call46 cm ?_
 simp-implicitDefEqProofs+decide only[go_sem,sI,sA,List.length_map]
 by_cases h1:(l.length:Int)=manyX op
 case neg=>
  have d1:decide ((l.length:Int)≠manyX op)=true:=decide_eq_true h1
  rw[decide_eq_false h1,Bool.false_and]at hX
  subst hX
  simp-implicitDefEqProofs+decide only[go_sem,d1]
  refine⟨.mk (by kernel_rfl),?_⟩
  apply run_sound 200
  refine Sm ?_
  exact endF.one (.inr rfl) (by simp-implicitDefEqProofs+decide only[go_sem]) rfl (by rintro (_|_|_|_|_) hp<;>first|(cases hp;done)|simp-implicitDefEqProofs+decide only[go_sem]) rfl
 have d1:decide ((l.length:Int)≠manyX op)=false:=decide_eq_false (fun h=>h h1)
 rw[decide_eq_true h1,Bool.true_and]at hX
 simp-implicitDefEqProofs+decide only[go_sem,d1,sI,sA,List.length_map]
 refine CallD.P _ Tryz.call47 cf ?_
 simp-implicitDefEqProofs+decide only[go_sem,sI,sA,List.length_map]
 cases hf:fairX op ⟨a1,a2,a3,a4,a5,a6,a7,a8,ak,al⟩ with
 | false =>
   rw[hf,Bool.false_and]at hX
   subst hX
   refine Sm ?_
   refine⟨.mk (by kernel_rfl),?_⟩
   apply run_sound 200
   refine Sm ?_
   exact endF.one (.inr rfl) (by simp-implicitDefEqProofs+decide only[go_sem]) rfl (by rintro (_|_|_|_|_) hp<;>first|(cases hp;done)|simp-implicitDefEqProofs+decide only[go_sem]) rfl
 |true=>
 rw[hf,Bool.true_and]at hX
 by_cases h2:l=[]
 ·subst h2
  rw[show R=false from hX]
  refine Sm ?_
  refine⟨.mk (by kernel_rfl),?_⟩
  apply run_sound 200
  refine Sm ?_
  exact endF.one (.inr rfl) (by simp-implicitDefEqProofs+decide only[go_sem]) rfl (by rintro (_|_|_|_|_) hp<;>first|(cases hp;done)|simp-implicitDefEqProofs+decide only[go_sem]) rfl
 have d2:decide ((l.length:Int)=0)=false:=decide_eq_false (fun h=>h2 (List.eq_nil_of_length_eq_zero (by omega)))
 rw[decide_eq_true h2,Bool.true_and]at hX
 simp-implicitDefEqProofs+decide only[go_sem,d2,sI,sA,List.length_map]
 refine⟨.mk (by kernel_rfl),?_⟩
 apply run_sound 200
 simp-implicitDefEqProofs+decide only[go_sem,sI,sA,List.length_map]
 refine Goes.loop (X:=Nat) (fun i=>⟨ofL [(1,.bp (.loc 1 0) 0),(29,.t (.int .i64 l.length)),(30,.t (.int .i64 i))],
   ofH (fun _=>none) [(.loc 1 0,.box [.t (.int .i64 op),.t (.int .i64 a1),.t (.int .i64 a2),.t (.int .i64 a3),.t (.int .i64 a4),.t (.int .i64 a5),.t (.int .i64 a6),.t (.int .i64 a7),.t (.int .i64 a8),.t (.bool ak),.t (.slice (al.map I)),.t (.slice (l.map Ag.T)),.t (.slice (out.map I))])],0⟩) (fun i=>i≤l.length∧R=fitsL out (l.drop i)) (fun i=>l.length-i) 0 ?_ ⟨by omega,hX⟩ ?_
 ·skip
  refine Wk.boxes _ _ hb0 rfl rfl ?_ ?_ ?_ ?_
  ·simp-implicitDefEqProofs+decide only[go_sem,sI,sA]<;>first|rfl|exact⟨rfl,rfl⟩
  ·exact(by rintro (_|_|_|_|_) hp<;>first|(cases hp;done)|simp-implicitDefEqProofs+decide only[go_sem])
  ·simp-implicitDefEqProofs+decide only[go_sem,sI,sA]<;>first|rfl|skip
  ·simp-implicitDefEqProofs+decide only[go_sem]
 rintro i ⟨hi,hR⟩ J hJ
 apply run_sound 200
 simp-implicitDefEqProofs+decide only[go_sem,sI,sA]
 apply selP_dec<;>intro hc
 ·obtain⟨⟨d,v⟩,ha⟩:=getI (show i<l.length by omega)
  have hdd:=hd _ (List.mem_of_getElem? ha)
  dsimp only at hdd
  have cs:=rSrc_ok d out (by omega)
  have hdr:l.drop i=⟨d,v⟩::l.drop (i+1):=by
   obtain⟨hi2,he⟩:=List.getElem?_eq_some_iff.1 ha
   rw[←he];exact List.drop_eq_getElem_cons hi2
  rw[hdr,fitsL]at hR
  dsimp only at hR
  have hw:=wS (show i<1000000000000 by omega)
  have hLl:=srcL_len d out
  generalize srcL d out=L at cs hR hLl
  simp only[sI]at cs
  simp-implicitDefEqProofs+decide only[go_sem,ofH]
  refine Goes.drawN mixed ?_
  simp-implicitDefEqProofs+decide only[go_sem,ha,Ag.T,sI,sS,ofH]
  refine CallD.PS _ Tryz.call40 cs ?_
  simp-implicitDefEqProofs+decide only[go_sem,ofH]
  refine⟨.mk (by kernel_rfl),?_⟩
  apply run_sound 200
  simp-implicitDefEqProofs+decide only[go_sem,List.length_map]
  refine Goes.loop (X:=Nat) (fun k=>⟨ofL [(1,.bp (.loc 1 0) 0),(3,.t (.int .i64 i)),(4,.t (.slice (L.map I))),(29,.t (.int .i64 l.length)),(30,.t (.int .i64 i)),(43,.t (.int .i64 L.length)),(44,.t (.int .i64 k))],
    ofH (fun _=>none) [(.loc 1 0,.box [.t (.int .i64 op),.t (.int .i64 a1),.t (.int .i64 a2),.t (.int .i64 a3),.t (.int .i64 a4),.t (.int .i64 a5),.t (.int .i64 a6),.t (.int .i64 a7),.t (.int .i64 a8),.t (.bool ak),.t (.slice (al.map I)),.t (.slice (l.map Ag.T)),.t (.slice (out.map I))])],0⟩) (fun k=>k≤L.length∧∀y∈L.take k,y<(v.length:Int)) (fun k=>L.length-k) 0 ?_ (by simp) ?_
  ·skip
   refine Wk.boxes _ _ hb0 rfl rfl ?_ ?_ ?_ ?_
   ·simp-implicitDefEqProofs+decide only[go_sem,sI,sA]<;>first|rfl|exact⟨rfl,rfl⟩
   ·exact(by rintro (_|_|_|_|_) hp<;>first|(cases hp;done)|simp-implicitDefEqProofs+decide only[go_sem])
   ·simp-implicitDefEqProofs+decide only[go_sem,sI,sA]<;>first|rfl|skip
   ·simp-implicitDefEqProofs+decide only[go_sem]
  rintro k ⟨hk,hp⟩ J2 hJ2
  apply run_sound 200
  simp-implicitDefEqProofs+decide only[go_sem,sI,sA]
  apply selP_dec<;>intro hc2
  ·obtain⟨y,hy⟩:=getI (show k<L.length by omega)
   simp-implicitDefEqProofs+decide only[go_sem,ofH]
   refine Goes.drawN mixed ?_
   simp-implicitDefEqProofs+decide only[go_sem,ha,hy,I,Ag.T,sI,sS,ofH,List.length_map]
   refine⟨.mk (by kernel_rfl),?_⟩
   apply run_sound 200
   refine Sm ?_
   apply selP_dec<;>intro h3
   ·rw[if_pos ⟨y,List.mem_of_getElem? hy,by omega⟩]at hR
    subst hR
    refine Sm ?_
    exact endF.one (.inr rfl) (by simp-implicitDefEqProofs+decide only[go_sem]) rfl (by rintro (_|_|_|_|_) hp<;>first|(cases hp;done)|simp-implicitDefEqProofs+decide only[go_sem]) rfl
   ·have hwk:=wS (show k<1000000000000 by have:=List.getElem?_eq_some_iff.1 hy;omega)
    simp-implicitDefEqProofs+decide only[go_sem,hwk]
    refine hJ2 (k+1) _ ⟨by omega,fun z hz=> ?_⟩ (by omega) ?_
    ·rw[List.take_add_one,hy]at hz
     rcases List.mem_append.1 hz with hz|hz
     ·exact hp z hz
     ·simp at hz;omega
    ·skip
     refine Wk.boxes _ _ hb0 rfl rfl ?_ ?_ ?_ ?_
     ·simp-implicitDefEqProofs+decide only[go_sem,sI,sA]<;>first|rfl|exact⟨rfl,rfl⟩
     ·exact(by rintro (_|_|_|_|_) hp<;>first|(cases hp;done)|simp-implicitDefEqProofs+decide only[go_sem])
     ·simp-implicitDefEqProofs+decide only[go_sem,sI,sA]<;>first|rfl|skip
     ·simp-implicitDefEqProofs+decide only[go_sem]
  ·obtain rfl:k=L.length:=by omega
   rw[List.take_length]at hp
   rw[if_neg (fun⟨y,hy,h⟩=>by have:=hp y hy;omega)]at hR
   by_cases h0:L=[]
   ·subst h0
    rw[if_pos rfl]at hR
    subst hR
    simp-implicitDefEqProofs+decide only[go_sem,List.length_map]
    refine CallG.P _ Tryz.call25 (cc) ?_
    refine Sm ?_
    exact endF.one (.inr rfl) (by simp-implicitDefEqProofs+decide only[go_sem]) rfl (by rintro (_|_|_|_|_) hp<;>first|(cases hp;done)|simp-implicitDefEqProofs+decide only[go_sem]) rfl
   ·have d0:decide ((L.length:Int)=0)=false:=decide_eq_false (fun h=>h0 (List.eq_nil_of_length_eq_zero (by omega)))
    rw[if_neg h0]at hR
    simp-implicitDefEqProofs+decide only[go_sem,d0,List.length_map,hw]
    refine hJ (i+1) _ ⟨by omega,hR⟩ (by omega) ?_
    refine Wk.boxes _ _ hb0 rfl rfl ?_ ?_ ?_ ?_
    ·simp-implicitDefEqProofs+decide only[go_sem,sI,sA]<;>first|rfl|exact⟨rfl,rfl⟩
    ·exact(by rintro (_|_|_|_|_) hp<;>first|(cases hp;done)|simp-implicitDefEqProofs+decide only[go_sem])
    ·simp-implicitDefEqProofs+decide only[go_sem,sI,sA]<;>first|rfl|skip
    ·simp-implicitDefEqProofs+decide only[go_sem]
 ·obtain rfl:i=l.length:=by omega
  rw[List.drop_length]at hR
  rw[show R=true from hR]
  refine Sm ?_
  exact endF.one (.inr rfl) (by simp-implicitDefEqProofs+decide only[go_sem]) rfl (by rintro (_|_|_|_|_) hp<;>first|(cases hp;done)|simp-implicitDefEqProofs+decide only[go_sem]) rfl
theorem srcN_in {f t:List Int} (h:twoS f t=(t,0)) (n:Int):0≤srcN f t n∧srcN f t n<cnt f:=by
 have F:=twoS_fit h
 have b:=(srcS_in (n:=n) F).bnd f.length (Nat.le_refl _)
 rw[placeI_take (srcS_length _ _ _),List.take_length]at b
 unfold srcN cnt
 rw[if_pos F.cf]
 exact b
def Op1.ag (a:Op1):Ag:=⟨a.d,a.v.map Vx.sc⟩
theorem Op1_T (a:Op1):a.ag.T=a.T:=Ag_sc a.d a.v
theorem Op1_map (A:List Op1):(A.map Op1.ag).map Ag.T=A.map Op1.T:=by
 rw[List.map_map]
 exact List.map_congr_left fun a _=>Op1_T a
theorem cnt_nn (d:List Int):0≤cnt d∧cnt d≤64:=by
 unfold cnt
 split
 ·rename_i h
  have:=(chk0 h).2.2
  omega
 ·omega
theorem fitsL_in {out:List Int} {N:Nat} (hN:cnt out=N):∀{A:List Op1},fitsL out (A.map Op1.ag)=true→N=0∨∀a∈A,twoS a.d out=(out,0)∧∀i,i<N→OpIn out (i:Nat) a
 |[],_=>.inr (fun a ha=>by cases ha)
 | a :: r, h => by
   rw[List.map_cons,fitsL]at h
   split at h
   ·cases h
   rename_i h1
   split at h
   ·rename_i h2
    have:=of_decide_eq_true h
    exact .inl (by omega)
   rename_i h2
   rcases fitsL_in hN h with h3|h3
   ·exact .inl h3
   refine .inr fun b hb=> ?_
   rcases List.mem_cons.1 hb with rfl|hb
   ·have hfit:twoS b.d out=(out,0):=by
     refine Classical.byContradiction fun hn=>h2 ?_
     show srcL b.d out=[]
     unfold srcL
     rw[if_neg hn]
    refine⟨hfit,fun i hi=>⟨hfit,(srcN_in hfit _).1,?_⟩⟩
    have hcn:(prodL out).toNat=N:=by
     have hc:=(twoS_fit hfit).ct
     unfold cnt at hN
     rw[if_pos hc]at hN
     omega
    have hm:srcN b.d out (i:Int)∈srcL b.d out:=by
     unfold srcL
     rw[if_pos hfit,hcn]
     exact List.mem_of_getElem? (sourcesD_get hi)
    refine Classical.byContradiction fun hn=>h1 ⟨_,hm,?_⟩
    show((b.v.map Vx.sc).length:Int)≤_
    rw[List.length_map]
    omega
   ·exact h3 b hb
theorem srcL_fit {f out:List Int} {N:Nat} (hN:cnt out=N) (h:twoS f out=(out,0)):srcL f out=sourcesD f out N:=by
 unfold srcL
 rw[if_pos h]
 have hc:=(twoS_fit h).ct
 unfold cnt at hN
 rw[if_pos hc]at hN
 rw[show(prodL out).toNat=N by omega]
theorem srcL_0 {f out:List Int} (hN:cnt out=0):srcL f out=[]:=by
 by_cases h:twoS f out=(out,0)
 ·rw[srcL_fit hN h];rfl
 ·unfold srcL;rw[if_neg h]
def altA (A:List Op1) (w:Nat) (a:Op1) (at':Nat) (z:Vx):List Op1:=A.set w ⟨a.d,a.v.set at' z⟩
section
variable {A:List Op1} {w:Nat} {a:Op1} {at':Nat} {z:Vx} {out:List Int}
theorem altA_len:(altA A w a at' z).length=A.length:=List.length_set
theorem altA_mem {b:Op1} (hb:b∈altA A w a at' z):b∈A∨b=⟨a.d,a.v.set at' z⟩:=List.mem_or_eq_of_mem_set hb
theorem altA_in (ha:a∈A) {i:Int} (hf:∀b∈A,OpIn out i b):∀b∈altA A w a at' z,OpIn out i b:=fun b hb=>by
 rcases altA_mem hb with h|rfl
 ·exact hf b h
 ·have g:=hf a ha
  exact⟨g.1,g.2.1,by rw[show(⟨a.d,a.v.set at' z⟩:Op1).v=a.v.set at' z from rfl,List.length_set];exact g.2.2⟩
theorem altA_v (ha:a∈A) {P:Vx→Prop} (hz:P z) (hv:∀b∈A,∀y∈b.v,P y):∀b∈altA A w a at' z,∀y∈b.v,P y:=fun b hb y hy=>by
 rcases altA_mem hb with h|rfl
 ·exact hv b h y hy
 ·rcases List.mem_or_eq_of_mem_set hy with h|rfl
  ·exact hv a ha y h
  ·exact hz
theorem altA_xs (hw:A[w]?=some a) {i:Nat} (hs:(srcN a.d out i).toNat≠at'):xsAt (altA A w a at' z) out i=xsAt A out i:=by
 unfold xsAt altA
 refine List.ext_getElem? fun j=> ?_
 rw[List.getElem?_map,List.getElem?_map,List.getElem?_set]
 by_cases hj:w=j
 ·subst hj
  have hl:=(List.getElem?_eq_some_iff.1 hw).1
  rw[if_pos rfl,if_pos hl,hw]
  show some _=some _
  refine congrArg some ?_
  unfold opdX
  rw[List.getD_eq_getElem?_getD,List.getD_eq_getElem?_getD,List.getElem?_set,if_neg (Ne.symm hs)]
 ·rw[if_neg hj]
end
theorem valO_B {op:Int} {x:Atr} {ks xs:List Vx} (hxs:∀z∈xs,z.md=1∧z.B 9) (hks:∀z∈ks,z.md=1∧z.B 9) (hop:1≤op∧op≤26) (hl:(xs.length:Int)=manyX op) (hlk:ks.length=(knownL op x).length) (hf:fairX op x=true):(valO op x.n ks xs).B 400:=by
 unfold valO
 cases hcm:cmpX op with
 |true=>exact(pickV_g (x:=x) hxs hks hcm hl hlk).2
 |false=>exact reckE_B (reckE_g (md:=1) (s:=⟨0,0⟩) rfl (fun z hz _=>hxs z hz) (fun z hz _=>hks z hz) hop hcm hl hlk hf)
theorem alone_r (op:Int) (x:Atr) (l:List Ag) (out:List Int) (which at':Int) (cr:Pure Tryz.prog 9 [.int .i64 1,sA l] [.t (.bool false)]):Pure Tryz.prog 6 [prT op x l out,.int .i64 which,.int .i64 at'] [.t (.bool true)]:=by
 have cs:=same26_ok
 obtain⟨a1,a2,a3,a4,a5,a6,a7,a8,ak,al⟩:=x
 simp only[sA]at cr
 unfold prT
 refine Pure.I Tryz.func6 [6] ?_
 simp-implicitDefEqProofs+decide only[go_sem,sI,sA]
 refine CallG.pure _ Tryz.call9 cr (by simp only[List.all_cons,List.all_nil,noPtr,noPtrL,noPtr_sI,noPtr_sS,noPtrL_I,noPtrL_Sc,noPtrL_Ag,noPtrL_Vx,Bool.and_self]) (by first|rfl|(simp only[go_sem];done)|(simp only[go_sem];rfl)) ?_
 apply run_sound 200
 refine Sm ?_
 refine CallG.P _ Tryz.call38 (cs) ?_
 refine Sm ?_
 exact endF.V1 6 (.bool true)
noncomputable def okA (op:Int) (x:Atr) (l:List Ag) (out:List Int) (which at':Int):Prop:=fitsX op x l out=true∧0≤which∧which<l.length∧0≤at'∧(∀a,l[which.toNat]?=some a→at'<a.v.length)∧out.length≤20
set_option maxHeartbeats 2000000 in
theorem alone_n (op:Int) (x:Atr) (l:List Ag) (out:List Int) (which at':Int) (hl:l.length≤6) (hd:∀a∈l,a.d.length≤20∧a.v.length≤100) (cr:Pure Tryz.prog 9 [.int .i64 1,sA l] [.t (.bool true)]) (h:¬okA op x l out which at'):
  Pure Tryz.prog 6 [prT op x l out,.int .i64 which,.int .i64 at'] [.t (.bool true)]:=by
 have cs:=same26_ok
 have cf:=lfits_ok op x l out hl hd
 unfold okA at h
 generalize fitsX op x l out=F at cf h
 obtain⟨a1,a2,a3,a4,a5,a6,a7,a8,ak,al⟩:=x
 simp only[sA]at cr
 simp only[sA,sI,prT]at cf
 unfold prT
 refine Pure.I Tryz.func6 [6] ?_
 simp-implicitDefEqProofs+decide only[go_sem,sI,sA]
 refine CallG.pure _ Tryz.call9 cr (by simp only[List.all_cons,List.all_nil,noPtr,noPtrL,noPtr_sI,noPtr_sS,noPtrL_I,noPtrL_Sc,noPtrL_Ag,noPtrL_Vx,Bool.and_self]) (by first|rfl|(simp only[go_sem];done)|(simp only[go_sem];rfl)) ?_
 apply run_sound 200
 refine Sm ?_
 refine CallG.pure _ Tryz.call37 cf (by simp only[List.all_cons,List.all_nil,noPtr,noPtrL,noPtr_sI,noPtr_sS,noPtrL_I,noPtrL_Sc,noPtrL_Ag,noPtrL_Vx,Bool.and_self]) (by first|rfl|(simp only[go_sem];done)|(simp only[go_sem];rfl)) ?_
 apply run_sound 200
 cases F with
 | false =>
   refine Sm ?_
   refine CallG.P _ Tryz.call38 (cs) ?_
   refine Sm ?_
   exact endF.V1 6 (.bool true)
 |true=>
 by_cases h1:which<0
 ·have d1:decide (which<0)=true:=decide_eq_true h1
  simp-implicitDefEqProofs+decide only[go_sem,d1]
  refine CallG.P _ Tryz.call38 (cs) ?_
  refine Sm ?_
  exact endF.V1 6 (.bool true)
 have d1:decide (which<0)=false:=decide_eq_false h1
 by_cases h2:(l.length:Int)≤which
 ·have d2:decide ((l.length:Int)≤which)=true:=decide_eq_true h2
  simp-implicitDefEqProofs+decide only[go_sem,d1,d2,List.length_map]
  refine CallG.P _ Tryz.call38 (cs) ?_
  refine Sm ?_
  exact endF.V1 6 (.bool true)
 have d2:decide ((l.length:Int)≤which)=false:=decide_eq_false h2
 by_cases h3:at'<0
 ·have d3:decide (at'<0)=true:=decide_eq_true h3
  simp-implicitDefEqProofs+decide only[go_sem,d1,d2,d3,List.length_map]
  refine CallG.P _ Tryz.call38 (cs) ?_
  refine Sm ?_
  exact endF.V1 6 (.bool true)
 have d3:decide (at'<0)=false:=decide_eq_false h3
 obtain⟨w,rfl⟩:=Int.eq_ofNat_of_zero_le (show 0≤which by omega)
 obtain⟨⟨d,v⟩,ha⟩:=getI (show w<l.length by omega)
 rw[Int.toNat_natCast,ha]at h
 have d2':decide (l.length≤w)=false:=decide_eq_false (by omega)
 by_cases h4:(v.length:Int)≤at'
 ·have d4:decide ((v.length:Int)≤at')=true:=decide_eq_true h4
  simp-implicitDefEqProofs+decide only[go_sem,d1,d2,d2',d3,d4,List.length_map,ha,Ag.T,sI,sS]
  refine CallG.P _ Tryz.call38 (cs) ?_
  refine Sm ?_
  exact endF.V1 6 (.bool true)
 have d4:decide ((v.length:Int)≤at')=false:=decide_eq_false h4
 by_cases h5:20<out.length
 ·have d5:decide ((20:Int)<(out.length:Int))=true:=decide_eq_true (by omega)
  simp-implicitDefEqProofs+decide only[go_sem,d1,d2,d2',d3,d4,d5,List.length_map,ha,Ag.T,sI,sS]
  refine CallG.P _ Tryz.call38 (cs) ?_
  refine Sm ?_
  exact endF.V1 6 (.bool true)
 exact absurd ⟨rfl,by omega,by omega,by omega,fun a e=>by obtain rfl:=Option.some.inj e;dsimp only;omega,by omega⟩ h
theorem vxs_all (A:List Vx):((A.map Vx.T).all fun x=>x.cells.length==5)=true:=by
 rw[List.all_eq_true]
 intro x hx
 obtain⟨s,_,rfl⟩:=List.mem_map.1 hx
 rfl
theorem op_all (A:List Op1):((A.map Op1.T).all fun x=>x.cells.length==2)=true:=by
 rw[List.all_eq_true]
 intro x hx
 obtain⟨s,_,rfl⟩:=List.mem_map.1 hx
 rfl
set_option maxHeartbeats 8000000 in
theorem alone_yes (op:Int) (x:Atr) (A:List Op1) (out:List Int) (w at':Nat) (hl:A.length≤6) (hd:∀a∈A,a.d.length≤20∧a.v.length≤100) (hv:∀a∈A,∀z∈a.v,z.md=1∧z.B 9)
  (hxp:IOk x.p) (hxq:IOk x.q) (hxr:IOk x.r) (hxs:IOk x.s) (cr:Pure Tryz.prog 9 [.int .i64 1,.slice (A.map Op1.T)] [.t (.bool true)]) (h:okA op x (A.map Op1.ag) out w at'):
  Pure Tryz.prog 6 [prT op x (A.map Op1.ag) out,.int .i64 w,.int .i64 at'] [.t (.bool true)]:=by
 have cs:=same26_ok
 have hb0:∀l,Lab.pool l=false→(fun _=>none:Heap) l=none:=fun _ _=>rfl
 obtain⟨h1,_,h3,_,h5,h6⟩:=h
 have cf:=lfits_ok op x (A.map Op1.ag) out (by rw[List.length_map];exact hl) (fun a ha=>by
   obtain⟨b,hb,rfl⟩:=List.mem_map.1 ha
   have:=hd b hb
   exact⟨this.1,by rw[show b.ag.v=b.v.map Vx.sc from rfl,List.length_map];exact this.2⟩)
 rw[h1]at cf
 unfold fitsX at h1
 rw[Bool.and_eq_true,Bool.and_eq_true,Bool.and_eq_true,decide_eq_true_eq,decide_eq_true_eq,List.length_map]at h1
 obtain⟨hAl,hfx,hne,hfit⟩:=h1
 rw[List.length_map]at h3
 have hop:1≤op∧op≤26:=by
  by_cases h:1≤op∧op≤26
  ·exact h
  ·refine absurd hAl ?_
   have:manyX op=0:=by unfold manyX;rw[if_pos (by omega)]
   omega
 have hcn:=cnt_nn out
 obtain⟨N,hN⟩:=Int.eq_ofNat_of_zero_le hcn.1
 have hin:=fitsL_in hN hfit
 have hfit1:∀i,i<N→∀a∈A,OpIn out (i:Nat) a:=fun i hi a ha=>by
  rcases hin with h|h
  ·omega
  ·exact(h a ha).2 i hi
 obtain⟨⟨d,v⟩,ha⟩:=getI (show w<A.length by omega)
 have hm:=List.mem_of_getElem? ha
 have hat:at'<v.length:=by
  have:=h5 (Op1.ag ⟨d,v⟩) (by rw[Int.toNat_natCast,List.getElem?_map,ha];rfl)
  rw[show(Op1.ag ⟨d,v⟩).v=v.map Vx.sc from rfl,List.length_map]at this
  omega
 obtain⟨z,hz⟩:∃z:Vx,Vx.d 4613937818241073152=z:=⟨_,rfl⟩
 have hzB:z.md=1∧z.B 9:=by subst hz;exact⟨rfl,show(4613937818241073152:Nat)<18446744073709551616 by decide⟩
 obtain⟨K,hK⟩:∃K,readyE 1 ⟨0,0⟩ (knownL op x) (knownL op x).length=K:=⟨_,rfl⟩
 have n1:=bankNewG_ok (fun _=>none) 0 1 (.inr rfl) hb0 rfl
 obtain⟨H1,hH1⟩:∃H1:Heap,upd (fun _=>none) (.obj 0) (some (bankG 1 .nil 0 false))=H1:=⟨_,rfl⟩
 rw[hH1]at n1
 have hb1:∀l,Lab.pool l=false→H1 l=none:=by rw[←hH1];exact upd_hb hb0
 have hl1:∀e j,H1 (.loc e j)=none:=fun e j=>hb1 _ rfl
 have n2:=bankNewG_ok H1 1 1 (.inr rfl) hb1 (by rw[←hH1,upd_ne _ _ _ _ (fun e=>by cases e)])
 obtain⟨H2,hH2⟩:∃H2:Heap,upd H1 (.obj 1) (some (bankG 1 .nil 0 false))=H2:=⟨_,rfl⟩
 rw[hH2]at n2
 have hb2:∀l,Lab.pool l=false→H2 l=none:=by rw[←hH2];exact upd_hb hb1
 have hl2:∀e j,H2 (.loc e j)=none:=fun e j=>hb2 _ rfl
 have f2:∀j f,H2 (.fld j f)=none:=fun j f=>by rw[←hH2,upd_ne _ _ _ _ (fun e=>by cases e),←hH1,upd_ne _ _ _ _ (fun e=>by cases e)]
 have o20:H2 (.obj 0)=some (obG 0 1 ⟨0,[],false⟩):=by rw[←hH2,upd_ne _ _ _ _ (fun e=>by cases e),←hH1,upd_same];rfl
 have o21:H2 (.obj 1)=some (obG 1 1 ⟨0,[],false⟩):=by rw[←hH2,upd_same];rfl
 have fr2:∀j,2≤j→H2 (.obj j)=none∧∀f,H2 (.fld j f)=none:=fun j hj=>⟨by rw[←hH2,upd_ne _ _ _ _ (fun e=>by have:=Lab.obj.inj e;omega),←hH1,upd_ne _ _ _ _ (fun e=>by have:=Lab.obj.inj e;omega)],fun f=>f2 j f⟩
 obtain⟨H3,M3,P1,d1,g1⟩:=do1_ok H2 2 0 ⟨0,[],false⟩ op x out A N ⟨hb2,o20,f2 0 4⟩ (by decide) fr2 hop hAl hN (by omega) (by omega) hfit1 hv (by decide) (by decide) hfx hxp hxq hxr hxs K hK
 have hb3:=g1.hb
 have hl3:∀e j,H3 (.loc e j)=none:=fun e j=>hb3 _ rfl
 have low1:=g1.low 1 (by decide) (by decide)
 obtain⟨H4,M4,P2,d2,g2⟩:=do1_ok H3 M3 1 ⟨0,[],false⟩ op x out (altA A w ⟨d,v⟩ at' z) N ⟨hb3,low1.1.trans o21,(low1.2 4).trans (f2 1 4)⟩ (by have:=g1.up;omega) g1.fresh hop (by rw[altA_len];exact hAl) hN (by omega) (by omega) (fun i hi=>altA_in hm (hfit1 i hi)) (altA_v hm hzB hv) (by decide) (by decide) hfx hxp hxq hxr hxs K hK
 have hb4:=g2.hb
 have hl4:∀e j,H4 (.loc e j)=none:=fun e j=>hb4 _ rfl
 obtain⟨mc0,k0,t0,o40⟩:∃mc k t,H4 (.obj 0)=some (bankE 1 mc k t K.s.e):=by
  obtain⟨mc,k,t,e⟩:=g1.ob
  exact⟨mc,k,t,(g2.low 0 (by have:=g1.up;omega) (by decide)).1.trans e⟩
 obtain⟨mc1,k1,t1,o41⟩:=g2.ob
 have ce0:=errE_ok H4 M4 0 k0 1 K.s.e mc0 t0 hb4 o40
 have ce1:=errE_ok H4 M4 1 k1 1 K.s.e mc1 t1 hb4 o41
 have hval:∀i,i<N→(srcN d out i).toNat≠at'→valO op x.n K.l (xsAt (altA A w ⟨d,v⟩ at' z) out i)=valO op x.n K.l (xsAt A out i):=fun i _ hs=>by rw[altA_xs ha hs]
 have hlk:K.l.length=(knownL op x).length:=by rw[←hK];exact readyE_len _ _ _ _
 have hkg:=(readyL_g (.inr rfl) (s:=⟨0,0⟩) (knownL op x) (known_in op x hxp hxq hxr hxs) _ (Nat.le_refl _)).2.1
 rw[hK]at hkg
 have hvB:K.s.e=0→∀i,i<N→(valO op x.n K.l (xsAt A out i)).B 400:=fun he i hi=>valO_B (xsAt_g (hfit1 i hi) hv) (fun z hz=>hkg z hz he) hop (by unfold xsAt;rw[List.length_map];exact hAl) hlk hfx
 have hsrc:srcL d out=sourcesD d out N:=by
  rcases hin with h|h
  ·subst h;exact srcL_0 hN
  ·exact srcL_fit hN (h _ hm).1
 have cS:=rSrc_ok d out (by have:=(hd _ hm).1;dsimp only at this;omega)
 rw[hsrc]at cS
 generalize K.s.e=e at*
 obtain⟨V,hV⟩:∃V,(if e=0 then (List.range N).map fun j=>valO op x.n K.l (xsAt A out j) else [])=V:=⟨_,rfl⟩
 obtain⟨W,hW⟩:∃V,(if e=0 then (List.range N).map fun j=>valO op x.n K.l (xsAt (altA A w ⟨d,v⟩ at' z) out j) else [])=V:=⟨_,rfl⟩
 rw[hV]at d1
 rw[hW]at d2
 obtain⟨a1,a2,a3,a4,a5,a6,a7,a8,ak,al⟩:=x
 simp only[prT,sA,sI,Op1_map]at cf
 simp only[Atr.T,I,sI,sX]at d1 d2 cS
 unfold prT
 simp only[sA,sI,Op1_map]
 have hE:(altA A w ⟨d,v⟩ at' z).map Op1.T=List.take A.length ((A.map Op1.T).set w (.agg [.slice (d.map I),.slice (List.take v.length ((v.map Vx.T).set at' (.agg [.bool false,.slice [],.slice [],.int .u64 4613937818241073152,.int .i64 0])))])):=by
  rw[List.take_of_length_le (by simp),List.take_of_length_le (by simp),altA,List.map_set]
  unfold Op1.T argX sX sI
  dsimp only
  rw[List.map_set,←hz]
  rfl
 rw[hE]at d2
 refine Pure.drop (h':=H4) (m':=M4) ?_ rfl
 refine Ret.intro Tryz.func6 rfl (rt:=[6]) rfl (by simp[Tryz.ntmps6]) (by decide) (sites:=fun _=>false) hb4 (Keeps.none _) ?_
 apply run_sound 200
 refine Sm ?_
 refine CallG.pure _ Tryz.call9 cr (by simp only[List.all_cons,List.all_nil,noPtr,noPtrL,noPtr_sI,noPtr_sS,noPtrL_I,noPtrL_Op,noPtrL_Sc,noPtrL_Ag,noPtrL_Vx,Bool.and_self]) (by first|rfl|(simp only[go_sem];done)|(simp only[go_sem];rfl)) ?_
 apply run_sound 200
 refine Sm ?_
 refine CallG.pure _ Tryz.call37 cf (by simp only[List.all_cons,List.all_nil,noPtr,noPtrL,noPtr_sI,noPtr_sS,noPtrL_I,noPtrL_Op,noPtrL_Sc,noPtrL_Ag,noPtrL_Vx,Bool.and_self]) (by first|rfl|(simp only[go_sem];done)|(simp only[go_sem];rfl)) ?_
 apply run_sound 200
 have hA5:=vxs_all v
 have hA2:=op_all A
 have e1:decide ((w:Int)<0)=false:=decide_eq_false (by omega)
 have e2:decide ((A.length:Int)≤(w:Int))=false:=decide_eq_false (by omega)
 have e2':decide (A.length≤w)=false:=decide_eq_false (by omega)
 have e3:decide ((at':Int)<0)=false:=decide_eq_false (by omega)
 have e4:decide ((v.length:Int)≤(at':Int))=false:=decide_eq_false (by omega)
 have e4':decide (v.length≤at')=false:=decide_eq_false (by omega)
 have e5:decide ((20:Int)<(out.length:Int))=false:=decide_eq_false (by omega)
 simp-implicitDefEqProofs+decide only[go_sem,e1,e2,e2',e3,e4,e4',e5,List.length_map,ha,Op1.T,argX,sI,sX]
 refine CallG.pool _ Tryz.call11 n1 hb0 (by rintro (_|_|_|_|_) hp<;>first|(cases hp;done)|simp-implicitDefEqProofs+decide only[go_sem]) ?_
 apply run_sound 200
 simp-implicitDefEqProofs+decide only[go_sem,hl1]
 refine CallG.pool _ Tryz.call11 n2 hb1 (by rintro (_|_|_|_|_) hp<;>first|(cases hp;done)|simp-implicitDefEqProofs+decide only[go_sem,hl1]) ?_
 apply run_sound 200
 simp-implicitDefEqProofs+decide only[go_sem,hl1,hl2]
 have hB1:(v.length<big)=True:=eq_true (by have:=(hd _ hm).2;dsimp only at this;unfold big;omega)
 have hB2:(A.length<big)=True:=eq_true (by unfold big;omega)
 have hw':(w<A.length)=True:=eq_true (by omega)
 have hat':(at'<v.length)=True:=eq_true hat
 obtain⟨y,hy⟩:=getI hat
 refine CallG.pool _ Tryz.call39 d1 hb2 (by rintro (_|_|_|_|_) hp<;>first|(cases hp;done)|simp-implicitDefEqProofs+decide only[go_sem,hl1,hl2]) ?_
 refine Goes.wk (show Wk _ _ ⟨ofL [(1,.t (.int .i64 w)),(2,.t (.int .i64 at')),(3,.bp (.loc 3 0) 0),(7,.t (.ptr 0)),(8,.t (.ptr 1)),(71,.tup [.t (.slice (V.map Vx.T)),.t (.slice (P1.map I))])],
   ofH H3 [(.loc 3 0,.box [.t (.int .i64 op),.t (.int .i64 a1),.t (.int .i64 a2),.t (.int .i64 a3),.t (.int .i64 a4),.t (.int .i64 a5),.t (.int .i64 a6),.t (.int .i64 a7),.t (.int .i64 a8),.t (.bool ak),.t (.slice (al.map I)),.t (.slice (A.map Op1.T)),.t (.slice (out.map I))])],M3⟩ from Wk.boxes _ _ hb3 rfl rfl ?_ ?_ ?_ ?_) ?_
 ·simp-implicitDefEqProofs+decide only[go_sem,hl1,hl2,hl3]<;>first|rfl|exact⟨rfl,rfl⟩
 ·exact(by rintro (_|_|_|_|_) hp<;>first|(cases hp;done)|simp-implicitDefEqProofs+decide only[go_sem,hl1,hl2,hl3])
 ·simp-implicitDefEqProofs+decide only[go_sem]<;>first|rfl|skip
 ·simp-implicitDefEqProofs+decide only[go_sem]
 apply run_sound 200
 simp-implicitDefEqProofs+decide only[go_sem,hl3,ha,Op1.T,argX,sI,sX,hA5,hB1,hA2,hB2,hy,hat',hw',Vx_T]
 refine CallG.pool _ Tryz.call39 d2 hb3 (by rintro (_|_|_|_|_) hp<;>first|(cases hp;done)|simp-implicitDefEqProofs+decide only[go_sem,hl3]) ?_
 refine Goes.wk (show Wk _ _ ⟨ofL [(1,.t (.int .i64 w)),(2,.t (.int .i64 at')),(3,.bp (.loc 3 0) 0),(7,.t (.ptr 0)),(8,.t (.ptr 1)),(9,.t (.slice (V.map Vx.T))),(110,.tup [.t (.slice (W.map Vx.T)),.t (.slice (P2.map I))])],
   ofH H4 [(.loc 3 0,.box [.t (.int .i64 op),.t (.int .i64 a1),.t (.int .i64 a2),.t (.int .i64 a3),.t (.int .i64 a4),.t (.int .i64 a5),.t (.int .i64 a6),.t (.int .i64 a7),.t (.int .i64 a8),.t (.bool ak),.t (.slice (al.map I)),.t (.slice (A.map Op1.T)),.t (.slice (out.map I))])],M4⟩ from Wk.boxes _ _ hb4 rfl rfl ?_ ?_ ?_ ?_) ?_
 ·simp-implicitDefEqProofs+decide only[go_sem,hl3]<;>first|rfl|exact⟨rfl,rfl⟩
 ·exact(by rintro (_|_|_|_|_) hp<;>first|(cases hp;done)|simp-implicitDefEqProofs+decide only[go_sem,hl3,hl4])
 ·simp-implicitDefEqProofs+decide only[go_sem]<;>first|rfl|skip
 ·simp-implicitDefEqProofs+decide only[go_sem]
 apply run_sound 200
 simp-implicitDefEqProofs+decide only[go_sem,hl4]
 have hb:=hb4
 refine Goes.dP ?_
 simp-implicitDefEqProofs+decide only[go_sem,hl4,ofH,ha,Op1.T,argX,sI,sX]
 refine CallD.PS _ Tryz.call40 cS ?_
 simp-implicitDefEqProofs+decide only[go_sem,hl4,ofH]
 refine⟨.mk (by kernel_rfl),?_⟩
 apply run_sound 200
 simp-implicitDefEqProofs+decide only[go_sem,hl4]
 refine CallG.pool _ Tryz.call17 ce0 hb4 (by rintro (_|_|_|_|_) hp<;>first|(cases hp;done)|simp-implicitDefEqProofs+decide only[go_sem,hl4]) ?_
 apply run_sound 200
 simp-implicitDefEqProofs+decide only[go_sem,hl4]
 by_cases he:e=0
 case neg=>
  have de:decide (e≠0)=true:=decide_eq_true he
  simp-implicitDefEqProofs+decide only[go_sem,de,hl4]
  refine CallG.pool _ Tryz.call17 ce0 hb4 (by rintro (_|_|_|_|_) hp<;>first|(cases hp;done)|simp-implicitDefEqProofs+decide only[go_sem,hl4]) ?_
  apply run_sound 200
  simp-implicitDefEqProofs+decide only[go_sem,hl4]
  refine CallG.pool _ Tryz.call17 ce1 hb4 (by rintro (_|_|_|_|_) hp<;>first|(cases hp;done)|simp-implicitDefEqProofs+decide only[go_sem,hl4]) ?_
  apply run_sound 200
  simp-implicitDefEqProofs+decide only[go_sem,hl4]
  refine CallG.P _ Tryz.call38 (cs) ?_
  simp-implicitDefEqProofs+decide only[go_sem,hl4]
  exact endF.vals [(6,.bool true)] (.inr rfl) (vals_t (by first|rfl|(simp-implicitDefEqProofs+decide only[go_sem];done)|(simp-implicitDefEqProofs+decide only[go_sem];rfl)) rfl vals_nil) (by rintro (_|_|_|_|_) hp<;>first|(cases hp;done)|simp-implicitDefEqProofs+decide only[go_sem,hl4]) rfl
 have de:decide (e≠0)=false:=decide_eq_false (fun h=>h he)
 rw[if_pos he]at hV hW
 have hVl:V.length=N:=by rw[←hV];simp
 have hWl:W.length=N:=by rw[←hW];simp
 have hSl:=sourcesD_length d out N
 have hSg:=fun i (hi:i<N)=>sourcesD_get (f:=d) (t:=out) (n:=N) (k:=i) hi
 have hVg:∀i,i<N→V[i]?=some (valO op a1 K.l (xsAt A out i)):=fun i hi=>by rw[←hV];simp[hi]
 have hWg:∀i,i<N→W[i]?=some (valO op a1 K.l (xsAt (altA A w ⟨d,v⟩ at' z) out i)):=fun i hi=>by rw[←hW];simp[hi]
 generalize sourcesD d out N=S at*
 have dn:decide ((N:Int)≠(N:Int))=false:=decide_eq_false (fun h=>h rfl)
 simp-implicitDefEqProofs+decide only[go_sem,de,hl4]
 refine CallG.pool _ Tryz.call17 ce1 hb4 (by rintro (_|_|_|_|_) hp<;>first|(cases hp;done)|simp-implicitDefEqProofs+decide only[go_sem,hl4]) ?_
 apply run_sound 200
 simp-implicitDefEqProofs+decide only[go_sem,de,hl4,hVl,hWl,hSl,dn,List.length_map]
 refine Goes.loop (X:=Nat) (fun i=>⟨ofL [(2,.t (.int .i64 at')),(9,.t (.slice (V.map Vx.T))),(13,.t (.slice (W.map Vx.T))),(15,.t (.slice (S.map I))),(151,.t (.int .i64 N)),(152,.t (.int .i64 i))],ofH H4 [],M4⟩) (fun i=>i≤N) (fun i=>N-i) 0 ?_ (by omega) ?_
 ·refine Wk.boxes _ _ hb4 rfl rfl ?_ (by rintro (_|_|_|_|_) hp<;>first|(cases hp;done)|simp-implicitDefEqProofs+decide only[go_sem,hl4]) ?_ ?_
  ·simp-implicitDefEqProofs+decide only[go_sem,hl4]<;>first|rfl|exact⟨rfl,rfl⟩
  ·simp-implicitDefEqProofs+decide only[go_sem]<;>first|rfl|skip
  ·simp-implicitDefEqProofs+decide only[go_sem]<;>first|rfl|skip
 rintro i hi J hJ
 apply run_sound 200
 simp-implicitDefEqProofs+decide only[go_sem,ofH]
 apply selP_dec<;>intro hc
 ·have hiN:i<N:=by omega
  have hw1:=wS (show i<1000000000000 by omega)
  have hs:=hSg i hiN
  have hv1:=hVg i hiN
  have hv2:=hWg i hiN
  have hsv:=hval i hiN
  have hB:=hvB he i hiN
  have hs0:=(srcN_in (hfit1 i hiN _ hm).1 (i:Int)).1
  dsimp only at hs0 hB hsv
  obtain⟨q,hq⟩:=Int.eq_ofNat_of_zero_le hs0
  rw[hq]at hs hsv
  rw[Int.toNat_natCast]at hsv
  simp-implicitDefEqProofs+decide only[go_sem,ofH]
  refine Goes.dP ?_
  by_cases hqa:q=at'
  ·have dq:decide ((q:Int)≠(at':Int))=false:=decide_eq_false (fun h=>h (by omega))
   simp-implicitDefEqProofs+decide only[go_sem,hl4,ofH,hs,I,dq]
   refine⟨.mk (by kernel_rfl),?_⟩
   apply run_sound 200
   simp-implicitDefEqProofs+decide only[go_sem,hl4,hw1]
   refine hJ (i+1) _ (by omega) (by omega) ?_
   refine Wk.boxes _ _ hb4 rfl rfl ?_ (by rintro (_|_|_|_|_) hp<;>first|(cases hp;done)|simp-implicitDefEqProofs+decide only[go_sem,hl4,ofH]) ?_ ?_
   ·simp-implicitDefEqProofs+decide only[go_sem,hl4]<;>first|rfl|exact⟨rfl,rfl⟩
   ·simp-implicitDefEqProofs+decide only[go_sem,hw1]<;>first|rfl|skip
   ·simp-implicitDefEqProofs+decide only[go_sem]<;>first|rfl|skip
  ·have dq:decide ((q:Int)≠(at':Int))=true:=decide_eq_true (by omega)
   rw[hsv hqa]at hv2
   have cme:=rSameX2_ok _ hB (by decide)
   generalize valO op a1 K.l (xsAt A out i)=y1 at*
   simp only[Vx_T]at cme
   simp-implicitDefEqProofs+decide only[go_sem,hl4,ofH,hs,I,dq,hv1,hv2,Vx_T]
   refine CallD.P _ Tryz.call27 cme ?_
   simp-implicitDefEqProofs+decide only[go_sem,hl4,ofH]
   refine⟨.mk (by kernel_rfl),?_⟩
   apply run_sound 200
   simp-implicitDefEqProofs+decide only[go_sem,hl4,hw1]
   refine hJ (i+1) _ (by omega) (by omega) ?_
   refine Wk.boxes _ _ hb4 rfl rfl ?_ (by rintro (_|_|_|_|_) hp<;>first|(cases hp;done)|simp-implicitDefEqProofs+decide only[go_sem,hl4,ofH]) ?_ ?_
   ·simp-implicitDefEqProofs+decide only[go_sem,hl4]<;>first|rfl|exact⟨rfl,rfl⟩
   ·simp-implicitDefEqProofs+decide only[go_sem,hw1]<;>first|rfl|skip
   ·simp-implicitDefEqProofs+decide only[go_sem]<;>first|rfl|skip
 ·simp-implicitDefEqProofs+decide only[go_sem,hl4]
  refine CallG.P _ Tryz.call38 (cs) ?_
  simp-implicitDefEqProofs+decide only[go_sem,hl4]
  exact endF.vals [(6,.bool true)] (.inr rfl) (vals_t (by first|rfl|(simp-implicitDefEqProofs+decide only[go_sem];done)|(simp-implicitDefEqProofs+decide only[go_sem];rfl)) rfl vals_nil) (by rintro (_|_|_|_|_) hp<;>first|(cases hp;done)|simp-implicitDefEqProofs+decide only[go_sem,hl4]) rfl
theorem ops_of:∀{l:List Ag},(∀a∈l,∀s∈a.v,ScW s∧s.b<18446744073709551616)→(∀a∈l,a.v.all (rightX 1)=true)→(∀a∈l,wideB 9 a.v=false)→∃A:List Op1,l=A.map Op1.ag∧∀a∈A,∀z∈a.v,z.md=1∧z.B 9
 |[],_,_,_=>⟨[],rfl,fun a ha=>by cases ha⟩
 | ⟨d, v⟩ :: r, h1, h2, h3 => by
   obtain⟨A,hA,hq⟩:=ops_of (l:=r) (fun a ha=>h1 a (.tail _ ha)) (fun a ha=>h2 a (.tail _ ha)) (fun a ha=>h3 a (.tail _ ha))
   obtain⟨xs,hxs,hxq⟩:=rightNumX (.inr rfl) (a:=⟨d,v⟩) (fun s hs=>(h1 _ (.head _) s hs).1) (fun s hs=>(h1 _ (.head _) s hs).2) (h2 _ (.head _)) (h3 _ (.head _))
   dsimp only at hxs
   subst hxs
   refine⟨⟨d,xs⟩::A,by rw[hA];rfl,fun a ha=> ?_⟩
   rcases List.mem_cons.1 ha with rfl|ha
   ·exact hxq
   ·exact hq a ha
theorem alone_ok (op:Int) (x:Atr) (l:List Ag) (out:List Int) (which at':Int) (hll:l.length<9000000000000000000) (hw:∀a∈l,∀s∈a.v,ScW s∧s.b<18446744073709551616) (hxp:IOk x.p) (hxq:IOk x.q) (hxr:IOk x.r) (hxs:IOk x.s):
  Pure Tryz.prog 6 [prT op x l out,.int .i64 which,.int .i64 at'] [.t (.bool true)]:=by
 have cr:=argsRightX_ok 1 (.inr rfl) l hll (fun hb a ha s hs=>⟨argsSOK (fun a ha s hs=>(hw a ha s hs).1) hb a ha s hs,(hw a ha s hs).2⟩)
 obtain⟨b,hb⟩:∃b,(!argsB l&&l.all fun a=>a.v.all (rightX 1))=b:=⟨_,rfl⟩
 rw[hb]at cr
 cases b with
 |false=>exact alone_r op x l out which at' cr
 | true =>
   rw[Bool.and_eq_true]at hb
   obtain⟨hb1,hb2⟩:=hb
   have hb1:argsB l=false:=by simpa using hb1
   obtain⟨hl6,hsh⟩:=short_of hb1
   by_cases hk:okA op x l out which at'
   case neg=>exact alone_n op x l out which at' hl6 (fun a ha=>⟨(hsh a ha).1,(hsh a ha).2.1⟩) cr hk
   obtain⟨A,rfl,hA⟩:=ops_of hw (fun a ha=>List.all_eq_true.1 hb2 a ha) (fun a ha=>(hsh a ha).2.2)
   obtain⟨w,rfl⟩:=Int.eq_ofNat_of_zero_le hk.2.1
   obtain⟨n,rfl⟩:=Int.eq_ofNat_of_zero_le hk.2.2.2.1
   rw[sA,Op1_map]at cr
   rw[List.length_map]at hl6
   exact alone_yes op x A out w n hl6 (fun a ha=>by
     have:=hsh a.ag (List.mem_map.2 ⟨a,ha,rfl⟩)
     exact⟨this.1,by have h:=this.2.1;rw[show a.ag.v=a.v.map Vx.sc from rfl,List.length_map]at h;exact h⟩) hA hxp hxq hxr hxs cr hk
end Go.Fm
