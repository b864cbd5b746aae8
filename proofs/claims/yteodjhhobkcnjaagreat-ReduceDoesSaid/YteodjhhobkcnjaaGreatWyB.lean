/- Sums and bests, by the reference. -/
import Derived.Test.YteodjhhobkcnjaaGreatWyA
import Derived.Test.YteodjhhobkcnjaaGreatByA
import Derived.Test.YteodjhhobkcnjaaGreatLyA
import Derived.Test.YteodjhhobkcnjaaGreatFyC
set_option linter.unusedVariables false
set_option linter.unusedSimpArgs false
namespace Go.Fm
open Go.Proofs
set_option maxRecDepth 100000
attribute [local irreducible] tiOf

theorem rSumG_ok (h:Heap) (m id k:Nat) (md:Int) (mc:AV) (tie:Bool) (x:Vx) (l:List Vx) (hb:∀l,Lab.pool l=false→h l=none) (hk:h (.obj id)=some (bankR md mc k tie)) (hkb:k<100000000) (hll:l.length≤64) (hx:x.md=md∧x.B 9) (hl:AllX md 9 l):
  Ret Tryz.prog 29 [.ptr id,sX (x::l)] h m [.t (sumX x l).T] (upd h (.obj id) (some (bankR md mc (k+l.length) tie))) m:=by
 have hloc:∀d j,h (.loc d j)=none:=fun d j=>hb _ rfl
 have hu0:upd h (.obj id) (some (bankR md mc (k+0) tie))=h:=by
  funext l
  by_cases e:l=.obj id
  ·subst e;rw[upd_same,hk];rfl
  ·rw[upd_ne _ _ _ _ e]
 have hg0:((x::l).map Vx.T)[0]?=some x.T:=rfl
 have hgi:∀i:Nat,((x::l).map Vx.T)[i+1]?=(l.map Vx.T)[i]?:=fun i=>rfl
 have hml:((x::l).map Vx.T).length=l.length+1:=by simp
 unfold sX
 generalize (x::l).map Vx.T=xs at*
 refine Ret.introC Tryz.func29 rfl (rv:=[.c 4 68]) rfl (by simp[Tryz.ntmps29]) (by decide) (sites:=fun _=>false) (upd_hb hb) bank_keeps ?_
 simp only[Vx_T]at hg0
 apply run_sound 200
 simp-implicitDefEqProofs+decide only[go_sem,hloc,hml,hg0]
 refine Goes.loop (X:=Nat) (fun i=>⟨ofL [(0,.t (.ptr id)),(1,.t (.slice xs)),(4,.bp (.loc 4 0) 0),(5,.bp (.loc 5 0) 0),(6,.t (.int .i64 (i+1:Nat)))],
   ofH (upd h (.obj id) (some (bankR md mc (k+i) tie))) [(.loc 4 0,.box [.t (.bool false),.nil,.nil,.t (.int .u64 0),.t (.int .i64 0)]),(.loc 5 0,.box (sCX 1 (sumX x (l.take i))))],m⟩) (fun i=>i≤l.length) (fun i=>l.length-i) 0 ?_ (by omega) ?_
 ·have e0:sumX x (l.take 0)=x:=rfl
  dsimp only
  rw[hu0,e0]
  refine Wk.boxes _ _ hb rfl rfl ?_ (by rintro (_|_|_|_|_) hp<;>first|(cases hp;done)|simp-implicitDefEqProofs+decide only[go_sem,hloc]) ?_ ?_
  ·simp-implicitDefEqProofs+decide only[go_sem,hloc,ofH,sCX_succ]<;>first|rfl|exact⟨rfl,rfl⟩|skip
  ·simp-implicitDefEqProofs+decide only[go_sem,sX]<;>rfl
  ·simp-implicitDefEqProofs+decide only[go_sem,sX]
 rintro i hi J hJ
 apply run_sound 200
 simp-implicitDefEqProofs+decide only[go_sem,hml]
 refine selP_dec (fun hc=> ?_) (fun hc=> ?_)
 ·obtain⟨y,hy⟩:=getI (show i<l.length by omega)
  have hw:IntKind.wrap .i64 (((i+1:Nat):Int)+1)=((i+1+1:Nat):Int):=wS (show i+1<1000000000000 by omega)
  have hsn:=sumX_snoc (x:=x) hy
  have hq:=sumX_ok hx hl i
  have hyb:=hl y (List.mem_of_getElem? hy)
  have hyT:xs[i+1]?=some y.T:=by rw[hgi,List.getElem?_map,hy];rfl
  have ca:=rdoAdd_ok (upd h (.obj id) (some (bankR md mc (k+i) tie))) m id (k+i) md mc tie (sumX x (l.take i)) y (upd_hb hb) (upd_same _ _ _) (by omega) hq.1 hyb.1 (hq.2.1.mono (by have:=Nat.mul_le_mul_right (9+1) (show i+1≤65 by omega);omega)) (hyb.2.mono (by decide)) (hq.2.2.mono (by decide)) ((Z_of_B hyb.2).mono (by decide))
  rw[upd_upd,←hsn]at ca
  generalize sumX x (l.take i)=s at*
  obtain⟨s',hs'⟩:∃s',sumX x (l.take (i+1))=s':=⟨_,rfl⟩
  rw[hs']at ca
  simp only[Vx_T]at ca hyT
  have hclean:=sCX_clean 1 s
  have hb0:=hb
  have hb:=upd_hb (id:=id) (o:=some (bankR md mc (k+i) tie)) hb0
  refine Sm ?_
  refine Goes.drawP mixed (Calm.of (by repeat first|exact Clean.und|refine Clean.upd ?_ rfl|refine Clean.upd ?_ (by simp only[cleanA,cleanL,])) (by repeat first|exact HCalm.none|exact HCalm.hb hb|exact HCalm.hb (bank_hb hb)|refine HCalm.row ?_|refine HCalm.box ?_ (by first|rfl|(simp only[cleanA,cleanL,];done)|assumption))) ?_
  simp-implicitDefEqProofs+decide only[go_sem,hyT,hloc,ofH,sCX_succ]
  refine CallD.pool _ [(.obj id,bankR md mc (k+i+1) tie)] Tryz.call60 ca rfl (upd_hb hb0) (by rintro (_|_|_|_|_) hp<;>first|(cases hp;done)|simp-implicitDefEqProofs+decide only[go_sem,hloc]) (fun l _=>(congrFun (upd_upd _ _ _ _) l).symm) rfl ?_
  refine Sm ?_
  refine⟨.mk (by kernel_rfl),?_⟩
  apply run_sound 200
  simp-implicitDefEqProofs+decide only[go_sem,hloc,hw]
  refine hJ (i+1) _ (by omega) (by omega) (Wk.boxes _ _ (upd_hb hb0) rfl rfl ?_ (by rintro (_|_|_|_|_) hp<;>first|(cases hp;done)|simp-implicitDefEqProofs+decide only[go_sem,hloc,Nat.add_assoc]) ?_ ?_)
  ·simp-implicitDefEqProofs+decide only[go_sem,ofH,hloc,hs',sCX_succ]<;>first|rfl|exact⟨rfl,rfl⟩|skip
  ·simp-implicitDefEqProofs+decide only[go_sem,sX]
  ·simp-implicitDefEqProofs+decide only[go_sem,sX]
 ·obtain rfl:i=l.length:=by omega
  rw[List.take_length]
  simp only[Vx_T]
  simp-implicitDefEqProofs+decide only[go_sem,ofH,sCX_succ]
  exact endC.oneV (.inr rfl) (by first|(simp-implicitDefEqProofs+decide only[go_sem,valC,hloc];done)|(simp-implicitDefEqProofs+decide only[go_sem,valC,hloc];rfl)) (by first|rfl|(simp-implicitDefEqProofs+decide only[go_sem,hloc];done)|(simp-implicitDefEqProofs+decide only[go_sem,hloc];rfl)) (by rintro (_|_|_|_|_) hp<;>first|(cases hp;done)|simp-implicitDefEqProofs+decide only[go_sem,hloc]) rfl

set_option maxHeartbeats 2000000 in
theorem rBestG_ok (h:Heap) (m id:Nat) (md op:Int) (mn:Bool) (s:Bs) (xs:List Vx) (B:BkM h id 3 (obR id md s) s.met) (hop:decide (op=30)=mn) (hml:s.met.length<50000) (h1:1≤xs.length) (h64:xs.length≤64) (hx:AllX md 9 xs):
  Ret Tryz.prog 79 [.ptr id,.int .i64 op,sX xs] h m [.t (.int .i64 (bestF mn xs s (xs.length-1)).pick)]
   (bkU h id 3 (obR id md (bestF mn xs s (xs.length-1)).b) (bestF mn xs s (xs.length-1)).b.met) m:=by
 have hloc:∀d j,h (.loc d j)=none:=fun d j=>B.hb _ rfl
 have hu0:=bkU_self B
 refine Ret.intro Tryz.func79 rfl (rt:=[6]) rfl (by simp[Tryz.ntmps79]) (by decide) (sites:=fun _=>false) (bkU_hb B.hb) (bkU_keeps B) ?_
 apply run_sound 200
 simp-implicitDefEqProofs+decide only[go_sem,hloc,sX]
 refine Goes.loop (X:=Nat) (fun n=>⟨ofL [(0,.t (.ptr id)),(1,.t (.int .i64 op)),(2,.t (sX xs)),(7,.t (.int .i64 (bestF mn xs s n).pick)),(8,.t (.int .i64 (n+1:Nat)))],
   ofH (bkU h id 3 (obR id md (bestF mn xs s n).b) (bestF mn xs s n).b.met) [],m⟩) (fun n=>n+1≤xs.length) (fun n=>xs.length-n) 0 ?_ (by omega) ?_
 ·have e1:(bestF mn xs s 0)=⟨0,s⟩:=rfl
  rw[e1]
  dsimp only
  rw[hu0]
  refine Wk.boxes _ _ B.hb rfl rfl ?_ (by rintro (_|_|_|_|_) hp<;>first|(cases hp;done)|simp-implicitDefEqProofs+decide only[go_sem,hloc]) ?_ ?_
  ·simp-implicitDefEqProofs+decide only[go_sem,hloc,ofH]<;>first|rfl|exact⟨rfl,rfl⟩|skip
  ·simp-implicitDefEqProofs+decide only[go_sem,sX]<;>rfl
  ·simp-implicitDefEqProofs+decide only[go_sem,sX]
 rintro n hn J hJ
 have hp:=bestF_pick mn xs s n
 have hmt:=bestF_met mn xs s n
 have hst:bestF mn xs s (n+1)=bestN mn xs (bestF mn xs s n) n:=rfl
 obtain⟨⟨p,tb⟩,hs⟩:∃s',bestF mn xs s n=s':=⟨_,rfl⟩
 rw[hs]at hp hmt hst⊢
 dsimp only at hp hmt⊢
 apply run_sound 200
 simp-implicitDefEqProofs+decide only[go_sem,sX,List.length_map]
 refine selP_dec (fun hc=> ?_) (fun hc=> ?_)
 ·have hxa:=getD_X (xs:=xs) (i:=n+1) (by omega)
  have hxp:=getD_X (xs:=xs) (i:=p) (by omega)
  have qa:=hx _ (List.mem_of_getElem? hxa)
  have qp:=hx _ (List.mem_of_getElem? hxp)
  have hb:=bkU_hb (id:=id) (f:=3) (o:=obR id md tb) (met:=tb.met) B.hb
  have hw:IntKind.wrap .i64 (((n+1:Nat):Int)+1)=((n+1+1:Nat):Int):=wS (show n+1<1000000000000 by omega)
  unfold bestN at hst
  dsimp only at hst
  cases mn with
  | true =>
    have cl:=lessR_ok _ m id md tb (xs.getD (n+1) (.q 0)) (xs.getD p (.q 0)) (bkU_M B.hb) (by omega) qa.1 qp.1 (qa.2.mono (by decide)) (qp.2.mono (by decide)) ((Z_of_B qa.2).mono (by decide)) ((Z_of_B qp.2).mono (by decide))
    rw[bkU_U]at cl
    have hst:bestF true xs s (n+1)=⟨if lessV (xs.getD (n+1) (.q 0)) (xs.getD p (.q 0))=true then n+1 else p,lessS tb (xs.getD (n+1) (.q 0)) (xs.getD p (.q 0))⟩:=hst
    obtain⟨x1,hx1⟩:∃x,xs.getD (n+1) (.q 0)=x:=⟨_,rfl⟩
    obtain⟨x2,hx2⟩:∃x,xs.getD p (.q 0)=x:=⟨_,rfl⟩
    rw[hx1,hx2]at cl hst
    obtain⟨o,ho⟩:=mtR_snoc tb.met (lessV x1 x2)
    have hwr:=fun l=>bkU_writes (h:=h) (id:=id) (f:=3) (o:=obR id md tb) (o':=obR id md (lessS tb x1 x2)) (met:=tb.met) ho l
    have hms:(lessS tb x1 x2).met=tb.met++[lessV x1 x2]:=rfl
    rw[←hms]at hwr
    obtain⟨b,hbb⟩:∃b,lessV x1 x2=b:=⟨_,rfl⟩
    rw[hbb]at cl hst
    obtain⟨s',hs'⟩:∃s',lessS tb x1 x2=s':=⟨_,rfl⟩
    rw[hs']at cl hst hwr
    rw[hx1]at hxa
    rw[hx2]at hxp
    simp only[Vx_T]at cl
    simp-implicitDefEqProofs+decide only[go_sem,hop]
    refine Goes.drawP mixed (Calm.of (by repeat first|exact Clean.und|refine Clean.upd ?_ rfl|refine Clean.upd ?_ (by simp only[cleanA,cleanL,])) (by repeat first|exact HCalm.none|exact HCalm.hb hb|exact HCalm.hb (bank_hb hb)|refine HCalm.row ?_|refine HCalm.box ?_ (by first|rfl|(simp only[cleanA,cleanL,];done)|assumption))) ?_
    simp-implicitDefEqProofs+decide only[go_sem,hxa,hxp,Vx_T]
    refine CallD.make _ [(.obj id,obR id md s'),(.fld id 3,o)] 0 Tryz.call133 cl rfl hb (by rintro (_|_|_|_|_) hp<;>first|(cases hp;done)|simp-implicitDefEqProofs+decide only[go_sem]) (fun l _=>hwr l) rfl (.inr rfl) ?_
    refine Sm ?_
    refine⟨.mk (by kernel_rfl),?_⟩
    apply run_sound 200
    cases b with
    | true =>
      simp only[if_true]at hst
      simp-implicitDefEqProofs+decide only[go_sem,hw,ofH]
      refine hJ (n+1) _ (by omega) (by omega) (Wk.boxes _ _ (bkU_hb B.hb) rfl rfl ?_ (fun l hp=> ?_) ?_ ?_)
      ·simp-implicitDefEqProofs+decide only[go_sem,ofH,hloc]<;>first|rfl|exact⟨rfl,rfl⟩|skip
      ·cases l<;>first|(cases hp;done)|simp-implicitDefEqProofs+decide only[go_sem,hst,hwr,ofH]
      ·simp-implicitDefEqProofs+decide only[go_sem,sX,hst]<;>rfl
      ·simp-implicitDefEqProofs+decide only[go_sem,sX]
    | false =>
      simp only[Bool.false_eq_true,if_false]at hst
      simp-implicitDefEqProofs+decide only[go_sem,hw,ofH]
      refine hJ (n+1) _ (by omega) (by omega) (Wk.boxes _ _ (bkU_hb B.hb) rfl rfl ?_ (fun l hp=> ?_) ?_ ?_)
      ·simp-implicitDefEqProofs+decide only[go_sem,ofH,hloc]<;>first|rfl|exact⟨rfl,rfl⟩|skip
      ·cases l<;>first|(cases hp;done)|simp-implicitDefEqProofs+decide only[go_sem,hst,hwr,ofH]
      ·simp-implicitDefEqProofs+decide only[go_sem,sX,hst]<;>rfl
      ·simp-implicitDefEqProofs+decide only[go_sem,sX]
  | false =>
    have cl:=lessR_ok _ m id md tb (xs.getD p (.q 0)) (xs.getD (n+1) (.q 0)) (bkU_M B.hb) (by omega) qp.1 qa.1 (qp.2.mono (by decide)) (qa.2.mono (by decide)) ((Z_of_B qp.2).mono (by decide)) ((Z_of_B qa.2).mono (by decide))
    rw[bkU_U]at cl
    have hst:bestF false xs s (n+1)=⟨if lessV (xs.getD p (.q 0)) (xs.getD (n+1) (.q 0))=true then n+1 else p,lessS tb (xs.getD p (.q 0)) (xs.getD (n+1) (.q 0))⟩:=hst
    obtain⟨x2,hx2⟩:∃x,xs.getD (n+1) (.q 0)=x:=⟨_,rfl⟩
    obtain⟨x1,hx1⟩:∃x,xs.getD p (.q 0)=x:=⟨_,rfl⟩
    rw[hx1,hx2]at cl hst
    obtain⟨o,ho⟩:=mtR_snoc tb.met (lessV x1 x2)
    have hwr:=fun l=>bkU_writes (h:=h) (id:=id) (f:=3) (o:=obR id md tb) (o':=obR id md (lessS tb x1 x2)) (met:=tb.met) ho l
    have hms:(lessS tb x1 x2).met=tb.met++[lessV x1 x2]:=rfl
    rw[←hms]at hwr
    obtain⟨b,hbb⟩:∃b,lessV x1 x2=b:=⟨_,rfl⟩
    rw[hbb]at cl hst
    obtain⟨s',hs'⟩:∃s',lessS tb x1 x2=s':=⟨_,rfl⟩
    rw[hs']at cl hst hwr
    rw[hx2]at hxa
    rw[hx1]at hxp
    simp only[Vx_T]at cl
    simp-implicitDefEqProofs+decide only[go_sem,hop]
    refine Goes.drawP mixed (Calm.of (by repeat first|exact Clean.und|refine Clean.upd ?_ rfl|refine Clean.upd ?_ (by simp only[cleanA,cleanL,])) (by repeat first|exact HCalm.none|exact HCalm.hb hb|exact HCalm.hb (bank_hb hb)|refine HCalm.row ?_|refine HCalm.box ?_ (by first|rfl|(simp only[cleanA,cleanL,];done)|assumption))) ?_
    simp-implicitDefEqProofs+decide only[go_sem,hxa,hxp,Vx_T]
    refine CallD.make _ [(.obj id,obR id md s'),(.fld id 3,o)] 0 Tryz.call133 cl rfl hb (by rintro (_|_|_|_|_) hp<;>first|(cases hp;done)|simp-implicitDefEqProofs+decide only[go_sem]) (fun l _=>hwr l) rfl (.inr rfl) ?_
    refine Sm ?_
    refine⟨.mk (by kernel_rfl),?_⟩
    apply run_sound 200
    cases b with
    | true =>
      simp only[if_true]at hst
      simp-implicitDefEqProofs+decide only[go_sem,hw,ofH]
      refine hJ (n+1) _ (by omega) (by omega) (Wk.boxes _ _ (bkU_hb B.hb) rfl rfl ?_ (fun l hp=> ?_) ?_ ?_)
      ·simp-implicitDefEqProofs+decide only[go_sem,ofH,hloc]<;>first|rfl|exact⟨rfl,rfl⟩|skip
      ·cases l<;>first|(cases hp;done)|simp-implicitDefEqProofs+decide only[go_sem,hst,hwr,ofH]
      ·simp-implicitDefEqProofs+decide only[go_sem,sX,hst]<;>rfl
      ·simp-implicitDefEqProofs+decide only[go_sem,sX]
    | false =>
      simp only[Bool.false_eq_true,if_false]at hst
      simp-implicitDefEqProofs+decide only[go_sem,hw,ofH]
      refine hJ (n+1) _ (by omega) (by omega) (Wk.boxes _ _ (bkU_hb B.hb) rfl rfl ?_ (fun l hp=> ?_) ?_ ?_)
      ·simp-implicitDefEqProofs+decide only[go_sem,ofH,hloc]<;>first|rfl|exact⟨rfl,rfl⟩|skip
      ·cases l<;>first|(cases hp;done)|simp-implicitDefEqProofs+decide only[go_sem,hst,hwr,ofH]
      ·simp-implicitDefEqProofs+decide only[go_sem,sX,hst]<;>rfl
      ·simp-implicitDefEqProofs+decide only[go_sem,sX]
 ·obtain rfl:n=xs.length-1:=by omega
  rw[hs]
  simp-implicitDefEqProofs+decide only[go_sem,ofH]
  exact endF.oneH (.inr rfl) (by simp-implicitDefEqProofs+decide only[go_sem]) rfl (by rintro (_|_|_|_|_) hp<;>first|(cases hp;done)|simp-implicitDefEqProofs+decide only[go_sem,hloc]) rfl

theorem Zi_mono {v:Vx} {a b:Nat} (h:v.Zi a) (hab:a≤b):v.Zi b:=by
 cases v with
 |q r=>exact ZB.mono h hab
 |d x=>trivial
end Go.Fm
/- Reductions, by the reference. -/
namespace Go.Fm
open Go.Proofs
set_option maxRecDepth 100000
attribute [local irreducible] tiOf

set_option maxHeartbeats 4000000 in
theorem rdoG_ok (h:Heap) (m id:Nat) (md op:Int) (hmd:md=0∨md=1) (x:Atr) (d:List Int) (v:List Vx) (s:Bs) (L:List (List Int)) (g0:List Int) (Lr:List (List Int)) (hL:groupsL (marksI d.length (axesI op x)) d=L) (hLr:L=g0::Lr) (B:BkM h id 3 (obR id md s) s.met) (hop:27≤op∧op≤31)
  (hml:s.met.length<10000) (hkb:s.k<1000000) (hd:d.length<1000000000) (hl:x.list.length<9000000000000000000) (h0:(redE op x d).2=0) (hv:(v.length:Int)=cnt d) (hvq:AllX md 9 v):
  Ret Tryz.prog 26 [.ptr id,.int .i64 op,x.T,argX d v] h m [.t (sX (doX op md (numN md g0.length) v L s L.length).vals),.t (sI (doX op md (numN md g0.length) v L s L.length).which)]
   (bkU h id 3 (obR id md (doX op md (numN md g0.length) v L s L.length).b) (doX op md (numN md g0.length) v L s L.length).b.met) m:=by
 have hb:=B.hb
 have hb0:=hb
 have hloc:∀d j,h (.loc d j)=none:=fun d j=>hb _ rfl
 obtain⟨_,hc,_,_⟩:=red0 h0
 have hG:=grp_of hc (axesI op x)
 have c1:=rGroups_ok op x d hd hl h0
 have GG:=GL_of hG
 have hcd:cnt d=prodL d:=by unfold cnt;rw[if_pos hc]
 have hN:=(chk0 hc).2.2
 rw[show(prodL d).toNat=v.length by omega]at GG
 rw[hL]at c1 GG
 have hL1:=GG.ne
 have hL64:=GG.len
 have hg0:=GG.each g0 (by rw[hLr];exact .head _)
 have cm:=rnum_ok h m id s.k md (mtC id 3 s.met) s.tie g0.length 1 hmd hb B.o (by decide) (by omega) (by omega) (by decide) (by decide)
 have hL0:L[0]?=some g0:=by rw[hLr];rfl
 have hmok:=numN_ok hmd (show 1≤(g0.length:Int) by omega) (by omega)
 obtain⟨many,hmany⟩:∃t,numN md g0.length=t:=⟨_,rfl⟩
 rw[hmany]at hmok⊢
 unfold numN at hmany
 rw[hmany]at cm
 clear hLr hL
 have hlL:(L.map sI).length=L.length:=by simp
 obtain⟨a1,a2,a3,a4,a5,a6,a7,a8,ak,al⟩:=x
 have hu0:=bkU_self B
 refine Ret.intro Tryz.func26 rfl (rt:=[8,9]) rfl (by simp[Tryz.ntmps26]) (by decide) (sites:=fun _=>false) (bkU_hb hb) (bkU_keeps B) ?_
 unfold argX
 simp only[Atr.T,sI,I,sL]at c1
 apply run_sound 200
 simp-implicitDefEqProofs+decide only[go_sem,hloc,Atr.T,I,sI,sX]
 refine CallG.pureS _ Tryz.call30 (c1) (by simp only[List.all_cons,List.all_nil,noPtr,noPtrL,noPtr_sW,noPtr_sI,noPtr_sV,noPtrL_U,noPtrL_I,noPtrL_vT,I,List.map_cons,List.map_nil,Bool.and_true,Bool.and_self]) (by first|rfl|(simp only[go_sem];done)|(simp only[go_sem];rfl)) ?_
 apply run_sound 200
 simp-implicitDefEqProofs+decide only[go_sem,hloc,sL,hlL]
 by_cases h28:op=28
 ·have d28:decide (op=28)=true:=decide_eq_true h28
  simp only[Vx_T]at cm
  simp-implicitDefEqProofs+decide only[go_sem,hloc,d28,hL0,sI,List.length_map]
  refine CallG.pool _ Tryz.call32 cm hb (by rintro (_|_|_|_|_) hp<;>first|(cases hp;done)|simp-implicitDefEqProofs+decide only[go_sem,hloc]) ?_
  apply run_sound 200
  obtain⟨c,hcc⟩:∃c:Nat,1=c:=⟨_,rfl⟩
  have hsc:sCX c many=[.t (.bool many.neg),.t (sW many.p),.t (sW many.qq),.t (.int .u64 many.bits),.t (.int .i64 0)]:=by rw[←hcc];exact sCX_succ 0 many
  simp-implicitDefEqProofs+decide only[go_sem,hloc]
  refine Goes.wk (Wk.nilRow (d:=12) (lab:=.loc 101 0) (size:=5) (by simp-implicitDefEqProofs+decide only[go_sem]) (by simp-implicitDefEqProofs+decide only[go_sem,hloc]) rfl (by decide)) ?_
  refine Goes.wk (Wk.nilRow (d:=13) (lab:=.loc 102 0) (size:=1) (by simp-implicitDefEqProofs+decide only[go_sem]) (by simp-implicitDefEqProofs+decide only[go_sem,hloc]) rfl (by decide)) ?_
  refine Goes.loop (X:=Nat) (fun i=>⟨ofL [(0,.t (.ptr id)),(1,.t (.int .i64 op)),(7,.bp (.loc 7 0) 0),(10,.t (sL L)),(11,.bp (.loc 11 0) 0),(12,.sl (.loc 101 0) i 0 i),(13,.sl (.loc 102 0) i 0 i),(34,.t (.int .i64 L.length)),(35,.t (.int .i64 i))],
    ofH (bkU h id 3 (obR id md (doX op md many v L s i).b) (doX op md many v L s i).b.met) [(.loc 7 0,.box [.t (sI d),.t (sX v)]),(.loc 11 0,.box (sCX c many)),(.loc 101 0,.arr 5 ((doX op md many v L s i).vals.map Vx.T) i 0),(.loc 102 0,.arr 1 ((doX op md many v L s i).which.map I) i 0)],m⟩) (fun i=>i≤L.length) (fun i=>L.length-i) 0 ?_ (by omega) ?_
  ·have e1:doX op md many v L s 0=⟨[],[],s⟩:=rfl
   rw[e1]
   dsimp only
   rw[hu0]
   refine Wk.boxes _ _ hb rfl (by rw[hsc];rfl) ?_ (by rintro (_|_|_|_|_) hp<;>first|(cases hp;done)|simp-implicitDefEqProofs+decide only[go_sem,hloc]) ?_ ?_
   ·simp-implicitDefEqProofs+decide only[go_sem,hloc,ofH,sI,sX,List.map_nil,hsc]<;>first|rfl|exact⟨rfl,rfl⟩|exact⟨rfl,rfl,rfl⟩|skip
   ·simp-implicitDefEqProofs+decide only[go_sem,sX,sL]<;>rfl
   ·simp-implicitDefEqProofs+decide only[go_sem,sX]
  rintro i hi J hJ
  have hdl:=doX_len op md many v L s i
  have hdm:=doX_b (op:=op) (md:=md) (many:=many) (v:=v) (s:=s) GG i
  have hst:doX op md many v L s (i+1)=⟨(doX op md many v L s i).vals++[(grpV op md many (pickX v (L.getD i [])) (doX op md many v L s i).b).v],(doX op md many v L s i).which++[((grpV op md many (pickX v (L.getD i [])) (doX op md many v L s i).b).p:Int)],(grpV op md many (pickX v (L.getD i [])) (doX op md many v L s i).b).b⟩:=rfl
  obtain⟨⟨vs,wh,sb⟩,hs⟩:∃t,doX op md many v L s i=t:=⟨_,rfl⟩
  rw[hs]at hdl hdm hst⊢
  dsimp only at hdl hdm hst⊢
  apply run_sound 200
  simp-implicitDefEqProofs+decide only[go_sem,sL]
  refine selP_dec (fun hc1=> ?_) (fun hc1=> ?_)
  rotate_left
  ·obtain rfl:i=L.length:=by omega
   rw[hs]
   simp-implicitDefEqProofs+decide only[go_sem,ofH]
   exact endF.row2 (.inr rfl) (by simp-implicitDefEqProofs+decide only[go_sem];rfl) (by simp-implicitDefEqProofs+decide only[go_sem];rfl) (by rw[List.length_map,hdl.1]) rfl (by simp-implicitDefEqProofs+decide only[go_sem];rfl) (by simp-implicitDefEqProofs+decide only[go_sem];rfl) (by rw[List.length_map,hdl.2]) rfl (by rintro (_|_|_|_|_) hp<;>first|(cases hp;done)|simp-implicitDefEqProofs+decide only[go_sem,hloc]) rfl
  obtain⟨g,hg⟩:=getI (show i<L.length by omega)
  have hgd:L.getD i []=g:=by rw[List.getD_eq_getElem?_getD,hg];rfl
  obtain⟨g1,g64,gz⟩:=GG.each g (List.mem_of_getElem? hg)
  rw[hgd]at hst
  have hb2:=bkU_hb (id:=id) (f:=3) (o:=obR id md sb) (met:=sb.met) hb
  have hlu:∀d j,bkU h id 3 (obR id md sb) sb.met (.loc d j)=none:=fun d j=>hb2 _ rfl
  have hwi:=wS (show i<1000000000000 by omega)
  simp-implicitDefEqProofs+decide only[go_sem,hg,sI]
  refine Goes.wk (Wk.nilRow (d:=15) (lab:=.loc 103 0) (size:=5) (by simp-implicitDefEqProofs+decide only[go_sem]) (by simp-implicitDefEqProofs+decide only[go_sem,hlu,ofH]) rfl (by decide)) ?_
  refine Goes.loop (X:=Nat) (fun j=>⟨ofL [(0,.t (.ptr id)),(1,.t (.int .i64 op)),(7,.bp (.loc 7 0) 0),(10,.t (sL L)),(11,.bp (.loc 11 0) 0),(12,.sl (.loc 101 0) i 0 i),(13,.sl (.loc 102 0) i 0 i),(14,.t (.int .i64 i)),(15,.sl (.loc 103 0) j 0 j),(34,.t (.int .i64 L.length)),(35,.t (.int .i64 i)),(42,.t (.int .i64 g.length)),(43,.t (.int .i64 j))],
    ofH (bkU h id 3 (obR id md sb) sb.met) [(.loc 7 0,.box [.t (sI d),.t (sX v)]),(.loc 11 0,.box (sCX c many)),(.loc 101 0,.arr 5 (vs.map Vx.T) i 0),(.loc 102 0,.arr 1 (wh.map I) i 0),(.loc 103 0,.arr 5 ((pickX v (g.take j)).map Vx.T) j 0)],m⟩) (fun j=>j≤g.length) (fun j=>g.length-j) 0 ?_ (by omega) ?_
  ·refine Wk.boxes _ _ hb2 rfl (by rw[hsc];rfl) ?_ (by rintro (_|_|_|_|_) hp<;>first|(cases hp;done)|simp-implicitDefEqProofs+decide only[go_sem,hlu]) ?_ ?_
   ·simp-implicitDefEqProofs+decide only[go_sem,hlu,ofH,sI,sX,hsc]<;>first|rfl|exact⟨rfl,rfl⟩|skip
   ·simp-implicitDefEqProofs+decide only[go_sem,sX,sL,sI,List.length_map]<;>rfl
   ·simp-implicitDefEqProofs+decide only[go_sem,sX]
  rintro j hj J2 hJ2
  apply run_sound 200
  refine SmJ ?_
  refine selP_dec (fun hc2=> ?_) (fun hc2=> ?_)
  ·obtain⟨z,hz⟩:=getI (show j<g.length by omega)
   obtain⟨n,rfl⟩:∃n:Nat,z=(n:Int):=⟨z.toNat,by have:=gz z (List.mem_of_getElem? hz);omega⟩
   have hnv:=gz _ (List.mem_of_getElem? hz)
   obtain⟨y,hy⟩:=getI (show n<v.length by omega)
   have hwj:=wS (show j<1000000000000 by omega)
   have hnb:j+1<big:=by unfold big;omega
   have hpl:((pickX v (g.take j)).map Vx.T).length=j:=by rw[List.length_map,pickX_length,List.length_take];omega
   have hsn:=pickX_snoc hz hy
   rw[Vx_T]at hsn
   refine Sm ?_
   have hb:=hb2
   have hclean:=sCX_clean c many
   refine Goes.drawP mixed (Calm.of (by repeat first|exact Clean.und|refine Clean.upd ?_ rfl|refine Clean.upd ?_ (by simp only[cleanA,cleanL,])) (by repeat first|exact HCalm.none|exact HCalm.hb hb|exact HCalm.hb (bank_hb hb)|refine HCalm.row ?_|refine HCalm.box ?_ (by first|rfl|(simp only[cleanA,cleanL,];done)|assumption))) ?_
   simp-implicitDefEqProofs+decide only[go_sem,hg,hz,I,ofH,sX,sL,sI,hy,Vx_T,hlu,hpl,hnb,hsn,hwj,Int.toNat_natCast]
   refine⟨.mk (by kernel_rfl),?_⟩
   apply run_sound 200
   simp-implicitDefEqProofs+decide only[go_sem,hlu,hpl,hnb,hsn,hwj]
   refine hJ2 (j+1) _ (by omega) (by omega) (Wk.boxes _ _ hb2 rfl (by rw[hsc];rfl) ?_ (by rintro (_|_|_|_|_) hp<;>first|(cases hp;done)|simp-implicitDefEqProofs+decide only[go_sem,hlu]) ?_ ?_)
   ·simp-implicitDefEqProofs+decide only[go_sem,hlu,ofH,sI,sX,hsc]<;>first|rfl|exact⟨rfl,rfl⟩|skip
   ·simp-implicitDefEqProofs+decide only[go_sem,sX,sL,sI]<;>rfl
   ·simp-implicitDefEqProofs+decide only[go_sem,sX]
  obtain rfl:j=g.length:=by omega
  rw[List.take_length]
  have hpl:=pickX_length v g
  have hxq:=pickX_mem hvq gz
  have hgo:=grpV_ok (op:=op) (s:=sb) hmd hxq (by omega) (by omega) ⟨hmok.1,hmok.2.1,hmok.2.2.1⟩
  have htk:List.take g.length ((pickX v g).map Vx.T)=(pickX v g).map Vx.T:=List.take_of_length_le (by rw[List.length_map,hpl];exact Nat.le_refl _)
  have hnb:i+1<big:=by unfold big;omega
  obtain⟨⟨y,pk,sb'⟩,hgr⟩:∃t,grpV op md many (pickX v g) sb=t:=⟨_,rfl⟩
  rw[hgr]at hst hgo
  dsimp only at hst hgo
  have hlu':∀d j,bkU h id 3 (obR id md sb') sb'.met (.loc d j)=none:=fun d j=>bkU_hb hb _ rfl
  have him:i*64≤4096:=Nat.mul_le_mul_right 64 (show i≤64 by omega)
  have hik:i*65≤4160:=Nat.mul_le_mul_right 65 (show i≤64 by omega)
  unfold grpV at hgr
  subst h28
  rw[if_neg (by decide),if_pos rfl]at hgr
  obtain⟨y0,rest,hyr⟩:∃y0 rest,pickX v g=y0::rest:=by
   cases hp:pickX v g with
   |nil=>rw[hp]at hpl;simp at hpl;omega
   |cons a l=>exact⟨a,l,rfl⟩
  have hrl:rest.length+1=g.length:=by rw[←hpl,hyr];rfl
  have cb:=rSumG_ok (bkU h id 3 (obR id md sb) sb.met) m id sb.k md _ sb.tie y0 rest hb2 (bkU_M hb).o (by omega) (by omega) (hxq y0 (by rw[hyr];exact .head _)) (fun r hr=>hxq r (by rw[hyr];exact .tail _ hr))
  rw[bkU_up,←hyr]at cb
  rw[hyr,List.headD_cons,List.tail_cons]at hgr
  injection hgr with hy hpk hsb
  have hsx:=sumX_ok (x:=y0) (l:=rest) (md:=md) (B:=9) (hxq y0 (by rw[hyr];exact .head _)) (fun r hr=>hxq r (by rw[hyr];exact .tail _ hr)) rest.length
  rw[List.take_length]at hsx
  have hmB:(rest.length+1)*(9+1)≤40000:=by omega
  have cd:=rdoDiv_ok (bkU h id 3 (bankR md (mtC id 3 sb.met) (sb.k+rest.length) sb.tie) sb.met) m id (sb.k+rest.length) md (mtC id 3 sb.met) sb.tie (sumX y0 rest) many (bkU_hb hb) (bkU_M hb).o (by omega) hsx.1 hmok.1 (hsx.2.1.mono hmB) (hmok.2.1.mono (by decide)) (hsx.2.2.mono (by decide)) (Zi_mono hmok.2.2.2 (by decide)) hmok.2.2.1
  rw[bkU_up,hy]at cd
  have e5:obR id md sb'=bankR md (mtC id 3 sb.met) (sb.k+rest.length+1) sb.tie:=by rw[←hsb];rfl
  have e6:sb'.met=sb.met:=by rw[←hsb]
  rw[←e5,←e6]at cd
  have e4:wh.map I++[.int .i64 0]=(wh++[(pk:Int)]).map I:=by rw[←hpk,List.map_append];rfl
  generalize sumX y0 rest=y1 at*
  have hHH:∀l,bkU h id 3 (obR id md sb') sb'.met l=upd (bkU h id 3 (obR id md sb) sb.met) (.obj id) (some (obR id md sb')) l:=fun l=>by rw[e6,bkU_up]
  have hW1:=fun l=>(congrFun (bkU_up (h:=h) (id:=id) (f:=3) (o:=obR id md sb) (met:=sb.met) (o':=bankR md (mtC id 3 sb.met) (sb.k+rest.length) sb.tie)) l).symm
  have hW2:=fun l=>(congrFun (bkU_up (h:=h) (id:=id) (f:=3) (o:=bankR md (mtC id 3 sb.met) (sb.k+rest.length) sb.tie) (met:=sb.met) (o':=obR id md sb')) l).symm
  rw[e6]at cd hlu'
  obtain⟨o1,ho1⟩:∃o1,bankR md (mtC id 3 sb.met) (sb.k+rest.length) sb.tie=o1:=⟨_,rfl⟩
  rw[ho1]at cb cd hW1 hW2
  simp only[sX,Vx_T]at cb cd
  have hb:=hb2
  have hclean:=sCX_clean c many
  simp-implicitDefEqProofs+decide only[go_sem,hlu,ofH,htk]
  refine Goes.drawP mixed (Calm.of (by repeat first|exact Clean.und|refine Clean.upd ?_ rfl|refine Clean.upd ?_ (by simp only[cleanA,cleanL,])) (by repeat first|exact HCalm.none|exact HCalm.hb hb|exact HCalm.hb (bank_hb hb)|refine HCalm.row ?_|refine HCalm.box ?_ (by first|rfl|(simp only[cleanA,cleanL,];done)|assumption))) ?_
  simp-implicitDefEqProofs+decide only[go_sem,hlu,ofH,htk]
  refine CallD.make _ [(.obj id,o1)] 0 Tryz.call29 cb rfl hb2 (by rintro (_|_|_|_|_) hp<;>first|(cases hp;done)|simp-implicitDefEqProofs+decide only[go_sem,hlu]) (fun l _=>hW1 l) rfl (.inr rfl) ?_
  simp-implicitDefEqProofs+decide only[go_sem,hlu,hsc]
  refine CallD.make _ [(.obj id,obR id md sb')] 0 Tryz.call60 cd rfl (bkU_hb hb0) (by rintro (_|_|_|_|_) hp<;>first|(cases hp;done)|simp-implicitDefEqProofs+decide only[go_sem,hlu,hW1]) (fun l _=>hW2 l) rfl (.inr rfl) ?_
  refine Sm ?_
  refine⟨.mk (by kernel_rfl),?_⟩
  apply run_sound 200
  have e1:(vs.map Vx.T).length=i:=by rw[List.length_map,hdl.1]
  have e2:(wh.map I).length=i:=by rw[List.length_map,hdl.2]
  have e3:vs.map Vx.T++[.agg [.bool y.neg,sW y.p,sW y.qq,.int .u64 y.bits,.int .i64 0]]=(vs++[y]).map Vx.T:=by rw[List.map_append,←Vx_T];rfl
  obtain⟨vs',hvs'⟩:∃l,vs++[y]=l:=⟨_,rfl⟩
  obtain⟨wh',hwh'⟩:∃l,wh++[(pk:Int)]=l:=⟨_,rfl⟩
  rw[hvs']at e3 hst
  rw[hwh']at e4 hst
  simp-implicitDefEqProofs+decide only[go_sem,hlu,hlu',hdl.1,hdl.2,e1,e2,e3,e4,hnb,hwi,if_true]
  refine hJ (i+1) _ (by omega) (by omega) (Wk.boxes _ _ (bkU_hb hb0) rfl (by rw[hsc];rfl) ?_ (by rintro (_|_|_|_|_) hp<;>first|(cases hp;done)|simp-implicitDefEqProofs+decide only[go_sem,hst,hHH]) ?_ ?_)
  ·simp-implicitDefEqProofs+decide only[go_sem,hlu,hlu',ofH,sI,sX,hst,hsc]<;>first|rfl|exact⟨rfl,rfl⟩|skip
  ·simp-implicitDefEqProofs+decide only[go_sem,sX,sL,sI]<;>rfl
  ·simp-implicitDefEqProofs+decide only[go_sem,sX]
 ·have d28:decide (op=28)=false:=decide_eq_false h28
  obtain⟨c,hcc⟩:∃c:Nat,0=c:=⟨_,rfl⟩
  have hsc:sCX c many=[.t (.bool false),.nil,.nil,.t (.int .u64 0),.t (.int .i64 0)]:=by rw[←hcc];exact sCX_zero many
  simp-implicitDefEqProofs+decide only[go_sem,hloc,d28]
  refine Goes.wk (Wk.nilRow (d:=12) (lab:=.loc 101 0) (size:=5) (by simp-implicitDefEqProofs+decide only[go_sem]) (by simp-implicitDefEqProofs+decide only[go_sem,hloc]) rfl (by decide)) ?_
  refine Goes.wk (Wk.nilRow (d:=13) (lab:=.loc 102 0) (size:=1) (by simp-implicitDefEqProofs+decide only[go_sem]) (by simp-implicitDefEqProofs+decide only[go_sem,hloc]) rfl (by decide)) ?_
  refine Goes.loop (X:=Nat) (fun i=>⟨ofL [(0,.t (.ptr id)),(1,.t (.int .i64 op)),(7,.bp (.loc 7 0) 0),(10,.t (sL L)),(11,.bp (.loc 11 0) 0),(12,.sl (.loc 101 0) i 0 i),(13,.sl (.loc 102 0) i 0 i),(34,.t (.int .i64 L.length)),(35,.t (.int .i64 i))],
    ofH (bkU h id 3 (obR id md (doX op md many v L s i).b) (doX op md many v L s i).b.met) [(.loc 7 0,.box [.t (sI d),.t (sX v)]),(.loc 11 0,.box (sCX c many)),(.loc 101 0,.arr 5 ((doX op md many v L s i).vals.map Vx.T) i 0),(.loc 102 0,.arr 1 ((doX op md many v L s i).which.map I) i 0)],m⟩) (fun i=>i≤L.length) (fun i=>L.length-i) 0 ?_ (by omega) ?_
  ·have e1:doX op md many v L s 0=⟨[],[],s⟩:=rfl
   rw[e1]
   dsimp only
   rw[hu0]
   refine Wk.boxes _ _ hb rfl (by rw[hsc];rfl) ?_ (by rintro (_|_|_|_|_) hp<;>first|(cases hp;done)|simp-implicitDefEqProofs+decide only[go_sem,hloc]) ?_ ?_
   ·simp-implicitDefEqProofs+decide only[go_sem,hloc,ofH,sI,sX,List.map_nil,hsc]<;>first|rfl|exact⟨rfl,rfl⟩|exact⟨rfl,rfl,rfl⟩|skip
   ·simp-implicitDefEqProofs+decide only[go_sem,sX,sL]<;>rfl
   ·simp-implicitDefEqProofs+decide only[go_sem,sX]
  rintro i hi J hJ
  have hdl:=doX_len op md many v L s i
  have hdm:=doX_b (op:=op) (md:=md) (many:=many) (v:=v) (s:=s) GG i
  have hst:doX op md many v L s (i+1)=⟨(doX op md many v L s i).vals++[(grpV op md many (pickX v (L.getD i [])) (doX op md many v L s i).b).v],(doX op md many v L s i).which++[((grpV op md many (pickX v (L.getD i [])) (doX op md many v L s i).b).p:Int)],(grpV op md many (pickX v (L.getD i [])) (doX op md many v L s i).b).b⟩:=rfl
  obtain⟨⟨vs,wh,sb⟩,hs⟩:∃t,doX op md many v L s i=t:=⟨_,rfl⟩
  rw[hs]at hdl hdm hst⊢
  dsimp only at hdl hdm hst⊢
  apply run_sound 200
  simp-implicitDefEqProofs+decide only[go_sem,sL]
  refine selP_dec (fun hc1=> ?_) (fun hc1=> ?_)
  rotate_left
  ·obtain rfl:i=L.length:=by omega
   rw[hs]
   simp-implicitDefEqProofs+decide only[go_sem,ofH]
   exact endF.row2 (.inr rfl) (by simp-implicitDefEqProofs+decide only[go_sem];rfl) (by simp-implicitDefEqProofs+decide only[go_sem];rfl) (by rw[List.length_map,hdl.1]) rfl (by simp-implicitDefEqProofs+decide only[go_sem];rfl) (by simp-implicitDefEqProofs+decide only[go_sem];rfl) (by rw[List.length_map,hdl.2]) rfl (by rintro (_|_|_|_|_) hp<;>first|(cases hp;done)|simp-implicitDefEqProofs+decide only[go_sem,hloc]) rfl
  obtain⟨g,hg⟩:=getI (show i<L.length by omega)
  have hgd:L.getD i []=g:=by rw[List.getD_eq_getElem?_getD,hg];rfl
  obtain⟨g1,g64,gz⟩:=GG.each g (List.mem_of_getElem? hg)
  rw[hgd]at hst
  have hb2:=bkU_hb (id:=id) (f:=3) (o:=obR id md sb) (met:=sb.met) hb
  have hlu:∀d j,bkU h id 3 (obR id md sb) sb.met (.loc d j)=none:=fun d j=>hb2 _ rfl
  have hwi:=wS (show i<1000000000000 by omega)
  simp-implicitDefEqProofs+decide only[go_sem,hg,sI]
  refine Goes.wk (Wk.nilRow (d:=15) (lab:=.loc 103 0) (size:=5) (by simp-implicitDefEqProofs+decide only[go_sem]) (by simp-implicitDefEqProofs+decide only[go_sem,hlu,ofH]) rfl (by decide)) ?_
  refine Goes.loop (X:=Nat) (fun j=>⟨ofL [(0,.t (.ptr id)),(1,.t (.int .i64 op)),(7,.bp (.loc 7 0) 0),(10,.t (sL L)),(11,.bp (.loc 11 0) 0),(12,.sl (.loc 101 0) i 0 i),(13,.sl (.loc 102 0) i 0 i),(14,.t (.int .i64 i)),(15,.sl (.loc 103 0) j 0 j),(34,.t (.int .i64 L.length)),(35,.t (.int .i64 i)),(42,.t (.int .i64 g.length)),(43,.t (.int .i64 j))],
    ofH (bkU h id 3 (obR id md sb) sb.met) [(.loc 7 0,.box [.t (sI d),.t (sX v)]),(.loc 11 0,.box (sCX c many)),(.loc 101 0,.arr 5 (vs.map Vx.T) i 0),(.loc 102 0,.arr 1 (wh.map I) i 0),(.loc 103 0,.arr 5 ((pickX v (g.take j)).map Vx.T) j 0)],m⟩) (fun j=>j≤g.length) (fun j=>g.length-j) 0 ?_ (by omega) ?_
  ·refine Wk.boxes _ _ hb2 rfl (by rw[hsc];rfl) ?_ (by rintro (_|_|_|_|_) hp<;>first|(cases hp;done)|simp-implicitDefEqProofs+decide only[go_sem,hlu]) ?_ ?_
   ·simp-implicitDefEqProofs+decide only[go_sem,hlu,ofH,sI,sX,hsc]<;>first|rfl|exact⟨rfl,rfl⟩|skip
   ·simp-implicitDefEqProofs+decide only[go_sem,sX,sL,sI,List.length_map]<;>rfl
   ·simp-implicitDefEqProofs+decide only[go_sem,sX]
  rintro j hj J2 hJ2
  apply run_sound 200
  refine SmJ ?_
  refine selP_dec (fun hc2=> ?_) (fun hc2=> ?_)
  ·obtain⟨z,hz⟩:=getI (show j<g.length by omega)
   obtain⟨n,rfl⟩:∃n:Nat,z=(n:Int):=⟨z.toNat,by have:=gz z (List.mem_of_getElem? hz);omega⟩
   have hnv:=gz _ (List.mem_of_getElem? hz)
   obtain⟨y,hy⟩:=getI (show n<v.length by omega)
   have hwj:=wS (show j<1000000000000 by omega)
   have hnb:j+1<big:=by unfold big;omega
   have hpl:((pickX v (g.take j)).map Vx.T).length=j:=by rw[List.length_map,pickX_length,List.length_take];omega
   have hsn:=pickX_snoc hz hy
   rw[Vx_T]at hsn
   refine Sm ?_
   have hb:=hb2
   have hclean:=sCX_clean c many
   refine Goes.drawP mixed (Calm.of (by repeat first|exact Clean.und|refine Clean.upd ?_ rfl|refine Clean.upd ?_ (by simp only[cleanA,cleanL,])) (by repeat first|exact HCalm.none|exact HCalm.hb hb|exact HCalm.hb (bank_hb hb)|refine HCalm.row ?_|refine HCalm.box ?_ (by first|rfl|(simp only[cleanA,cleanL,];done)|assumption))) ?_
   simp-implicitDefEqProofs+decide only[go_sem,hg,hz,I,ofH,sX,sL,sI,hy,Vx_T,hlu,hpl,hnb,hsn,hwj,Int.toNat_natCast]
   refine⟨.mk (by kernel_rfl),?_⟩
   apply run_sound 200
   simp-implicitDefEqProofs+decide only[go_sem,hlu,hpl,hnb,hsn,hwj]
   refine hJ2 (j+1) _ (by omega) (by omega) (Wk.boxes _ _ hb2 rfl (by rw[hsc];rfl) ?_ (by rintro (_|_|_|_|_) hp<;>first|(cases hp;done)|simp-implicitDefEqProofs+decide only[go_sem,hlu]) ?_ ?_)
   ·simp-implicitDefEqProofs+decide only[go_sem,hlu,ofH,sI,sX,hsc]<;>first|rfl|exact⟨rfl,rfl⟩|skip
   ·simp-implicitDefEqProofs+decide only[go_sem,sX,sL,sI]<;>rfl
   ·simp-implicitDefEqProofs+decide only[go_sem,sX]
  obtain rfl:j=g.length:=by omega
  rw[List.take_length]
  have hpl:=pickX_length v g
  have hxq:=pickX_mem hvq gz
  have hgo:=grpV_ok (op:=op) (s:=sb) hmd hxq (by omega) (by omega) ⟨hmok.1,hmok.2.1,hmok.2.2.1⟩
  have htk:List.take g.length ((pickX v g).map Vx.T)=(pickX v g).map Vx.T:=List.take_of_length_le (by rw[List.length_map,hpl];exact Nat.le_refl _)
  have hnb:i+1<big:=by unfold big;omega
  obtain⟨⟨y,pk,sb'⟩,hgr⟩:∃t,grpV op md many (pickX v g) sb=t:=⟨_,rfl⟩
  rw[hgr]at hst hgo
  dsimp only at hst hgo
  have hlu':∀d j,bkU h id 3 (obR id md sb') sb'.met (.loc d j)=none:=fun d j=>bkU_hb hb _ rfl
  have him:i*64≤4096:=Nat.mul_le_mul_right 64 (show i≤64 by omega)
  have hik:i*65≤4160:=Nat.mul_le_mul_right 65 (show i≤64 by omega)
  unfold grpV at hgr
  by_cases h27:op=27
  ·subst h27
   rw[if_pos rfl]at hgr
   obtain⟨y0,rest,hyr⟩:∃y0 rest,pickX v g=y0::rest:=by
    cases hp:pickX v g with
    |nil=>rw[hp]at hpl;simp at hpl;omega
    |cons a l=>exact⟨a,l,rfl⟩
   have hrl:rest.length+1=g.length:=by rw[←hpl,hyr];rfl
   have cb:=rSumG_ok (bkU h id 3 (obR id md sb) sb.met) m id sb.k md _ sb.tie y0 rest hb2 (bkU_M hb).o (by omega) (by omega) (hxq y0 (by rw[hyr];exact .head _)) (fun r hr=>hxq r (by rw[hyr];exact .tail _ hr))
   rw[bkU_up,←hyr]at cb
   rw[hyr,List.headD_cons,List.tail_cons]at hgr
   injection hgr with hy hpk hsb
   have e5:obR id md sb'=bankR md (mtC id 3 sb.met) (sb.k+rest.length) sb.tie:=by rw[←hsb];rfl
   have e6:sb'.met=sb.met:=by rw[←hsb]
   have e7:bkU h id 3 (bankR md (mtC id 3 sb.met) (sb.k+rest.length) sb.tie) sb.met=bkU h id 3 (obR id md sb') sb'.met:=by rw[e5,e6]
   rw[e7,hy]at cb
   have e4:wh.map I++[.int .i64 0]=(wh++[(pk:Int)]).map I:=by rw[←hpk,List.map_append];rfl
   simp only[sX,Vx_T]at cb
   simp-implicitDefEqProofs+decide only[go_sem,hlu,ofH,htk]
   refine CallG.pool _ Tryz.call29 cb hb2 (by rintro (_|_|_|_|_) hp<;>first|(cases hp;done)|simp-implicitDefEqProofs+decide only[go_sem,hlu]) ?_
   apply run_sound 200
   have e1:(vs.map Vx.T).length=i:=by rw[List.length_map,hdl.1]
   have e2:(wh.map I).length=i:=by rw[List.length_map,hdl.2]
   have e3:vs.map Vx.T++[.agg [.bool y.neg,sW y.p,sW y.qq,.int .u64 y.bits,.int .i64 0]]=(vs++[y]).map Vx.T:=by rw[List.map_append,←Vx_T];rfl
   obtain⟨vs',hvs'⟩:∃l,vs++[y]=l:=⟨_,rfl⟩
   obtain⟨wh',hwh'⟩:∃l,wh++[(pk:Int)]=l:=⟨_,rfl⟩
   rw[hvs']at e3 hst
   rw[hwh']at e4 hst
   simp-implicitDefEqProofs+decide only[go_sem,hlu,hlu',hdl.1,hdl.2,e1,e2,e3,e4,hnb,hwi,if_true]
   refine hJ (i+1) _ (by omega) (by omega) (Wk.boxes _ _ (bkU_hb hb0) rfl (by rw[hsc];rfl) ?_ (by rintro (_|_|_|_|_) hp<;>first|(cases hp;done)|simp-implicitDefEqProofs+decide only[go_sem,hst]) ?_ ?_)
   ·simp-implicitDefEqProofs+decide only[go_sem,hlu,hlu',ofH,sI,sX,hst,hsc]<;>first|rfl|exact⟨rfl,rfl⟩|skip
   ·simp-implicitDefEqProofs+decide only[go_sem,sX,sL,sI]<;>rfl
   ·simp-implicitDefEqProofs+decide only[go_sem,sX]
  ·have d27:decide (op=27)=false:=decide_eq_false h27
   rw[if_neg h27,if_neg h28]at hgr
   have hbp:=bestF_pick (decide (op=30)) (pickX v g) sb ((pickX v g).length-1)
   have cb:=rBestG_ok (bkU h id 3 (obR id md sb) sb.met) m id md op _ sb (pickX v g) (bkU_M hb) rfl (by omega) (by omega) (by omega) hxq
   rw[bkU_U]at cb
   unfold bestL at hgr
   obtain⟨⟨pk',tb⟩,hbs⟩:∃t,bestF (decide (op=30)) (pickX v g) sb ((pickX v g).length-1)=t:=⟨_,rfl⟩
   rw[hbs]at cb hgr hbp
   dsimp only at cb hgr hbp
   have e4:wh.map I++[.int .i64 (pk':Int)]=(wh++[(pk':Int)]).map I:=by rw[List.map_append];rfl
   have hyp:=getD_X (xs:=pickX v g) (i:=pk') (by omega)
   have hpg:(pk'<g.length)=True:=eq_true (by omega)
   by_cases h31:op=31
   ·subst h31
    rw[if_pos rfl]at hgr
    injection hgr with hy hpk hsb
    have hpk:=hpk.symm
    subst hpk
    subst hsb
    have cn:=rnum_ok (bkU h id 3 (obR id md tb) tb.met) m id tb.k md (mtC id 3 tb.met) tb.tie pk 1 hmd (bkU_hb hb) (bkU_M hb).o (by decide) (by omega) (by omega) (by decide) (by decide)
    unfold numN at hy
    rw[hy]at cn
    generalize (pickX v g).getD pk (.q 0)=yb at hyp
    simp only[sX,Vx_T]at cb cn
    simp-implicitDefEqProofs+decide only[go_sem,hlu,ofH,htk]
    refine CallG.pool _ Tryz.call79 cb hb2 (by rintro (_|_|_|_|_) hp<;>first|(cases hp;done)|simp-implicitDefEqProofs+decide only[go_sem,hlu]) ?_
    apply run_sound 200
    simp-implicitDefEqProofs+decide only[go_sem,hlu,hlu',hpg,if_true,hyp,Vx_T,ofH]
    refine CallG.pool _ Tryz.call32 cn (bkU_hb hb) (by rintro (_|_|_|_|_) hp<;>first|(cases hp;done)|simp-implicitDefEqProofs+decide only[go_sem,hlu,hlu']) ?_
    apply run_sound 200
    have e1:(vs.map Vx.T).length=i:=by rw[List.length_map,hdl.1]
    have e2:(wh.map I).length=i:=by rw[List.length_map,hdl.2]
    have e3:vs.map Vx.T++[.agg [.bool y.neg,sW y.p,sW y.qq,.int .u64 y.bits,.int .i64 0]]=(vs++[y]).map Vx.T:=by rw[List.map_append,←Vx_T];rfl
    obtain⟨vs',hvs'⟩:∃l,vs++[y]=l:=⟨_,rfl⟩
    obtain⟨wh',hwh'⟩:∃l,wh++[(pk:Int)]=l:=⟨_,rfl⟩
    rw[hvs']at e3 hst
    rw[hwh']at e4 hst
    simp-implicitDefEqProofs+decide only[go_sem,hlu,hlu',hdl.1,hdl.2,e1,e2,e3,e4,hnb,hwi,if_true]
    refine hJ (i+1) _ (by omega) (by omega) (Wk.boxes _ _ (bkU_hb hb0) rfl (by rw[hsc];rfl) ?_ (by rintro (_|_|_|_|_) hp<;>first|(cases hp;done)|simp-implicitDefEqProofs+decide only[go_sem,hst]) ?_ ?_)
    ·simp-implicitDefEqProofs+decide only[go_sem,hlu,hlu',ofH,sI,sX,hst,hsc]<;>first|rfl|exact⟨rfl,rfl⟩|skip
    ·simp-implicitDefEqProofs+decide only[go_sem,sX,sL,sI]<;>rfl
    ·simp-implicitDefEqProofs+decide only[go_sem,sX]
   ·have d31:decide (op=31)=false:=decide_eq_false h31
    rw[if_neg h31]at hgr
    injection hgr with hy hpk hsb
    have hpk:=hpk.symm
    subst hpk
    subst hsb
    rw[hy]at hyp
    simp only[sX,Vx_T]at cb
    simp-implicitDefEqProofs+decide only[go_sem,hlu,ofH,d27,d28,d31,htk]
    refine CallG.pool _ Tryz.call79 cb hb2 (by rintro (_|_|_|_|_) hp<;>first|(cases hp;done)|simp-implicitDefEqProofs+decide only[go_sem,hlu]) ?_
    apply run_sound 200
    simp-implicitDefEqProofs+decide only[go_sem,hlu,hlu',hpg,if_true,hyp,Vx_T,ofH,d31]
    have e1:(vs.map Vx.T).length=i:=by rw[List.length_map,hdl.1]
    have e2:(wh.map I).length=i:=by rw[List.length_map,hdl.2]
    have e3:vs.map Vx.T++[.agg [.bool y.neg,sW y.p,sW y.qq,.int .u64 y.bits,.int .i64 0]]=(vs++[y]).map Vx.T:=by rw[List.map_append,←Vx_T];rfl
    obtain⟨vs',hvs'⟩:∃l,vs++[y]=l:=⟨_,rfl⟩
    obtain⟨wh',hwh'⟩:∃l,wh++[(pk:Int)]=l:=⟨_,rfl⟩
    rw[hvs']at e3 hst
    rw[hwh']at e4 hst
    simp-implicitDefEqProofs+decide only[go_sem,hlu,hlu',hdl.1,hdl.2,e1,e2,e3,e4,hnb,hwi,if_true]
    refine hJ (i+1) _ (by omega) (by omega) (Wk.boxes _ _ (bkU_hb hb0) rfl (by rw[hsc];rfl) ?_ (by rintro (_|_|_|_|_) hp<;>first|(cases hp;done)|simp-implicitDefEqProofs+decide only[go_sem,hst]) ?_ ?_)
    ·simp-implicitDefEqProofs+decide only[go_sem,hlu,hlu',ofH,sI,sX,hst,hsc]<;>first|rfl|exact⟨rfl,rfl⟩|skip
    ·simp-implicitDefEqProofs+decide only[go_sem,sX,sL,sI]<;>rfl
    ·simp-implicitDefEqProofs+decide only[go_sem,sX]
end Go.Fm
/- The law on reductions: its own check, and reductions that may not be. -/
namespace Go.Fm
open Go.Proofs
set_option maxRecDepth 100000
attribute [local irreducible] tiOf

theorem metG_ok (h:Heap) (m id:Nat) (md:Int) (s:Bs) (B:BkM h id 4 (obG id md s) s.met) (hml:s.met.length<100000):
  Ret Tryz.prog 35 [.ptr id] h m [.t (sB s.met)] h m:=by
 have hb:=B.hb
 have hl:∀d j,h (.loc d j)=none:=fun d j=>hb _ rfl
 have ho:=B.o
 have hf:=B.f
 unfold obG bankG at ho
 obtain⟨k,met,tie⟩:=s
 dsimp only at*
 unfold sB
 refine Ret.intro Tryz.func35 rfl (rt:=[2]) rfl (by simp[Tryz.ntmps35]) (by decide) (sites:=fun _=>false) hb (Keeps.refl _) ?_
 apply run_sound 200
 cases met with
 | nil =>
   simp only[mtC,mtR]at ho hf
   simp-implicitDefEqProofs+decide only[go_sem,ho,hl]
   exact endF.row1 (.inr rfl) (by simp-implicitDefEqProofs+decide only[go_sem];rfl) (by simp-implicitDefEqProofs+decide only[go_sem];rfl) rfl (by rintro (_|_|_|_|_) hp<;>first|(cases hp;done)|simp-implicitDefEqProofs+decide only[go_sem,hl]) rfl
 | cons a l =>
   have e4:((a::l).map T.bool).length=l.length+1:=by simp
   have htk:List.take (l.length+1) ((a::l).map T.bool)=(a::l).map T.bool:=List.take_of_length_le (by simp)
   have hnb:l.length+1<big:=by unfold big;simp at hml;omega
   simp only[mtC,mtR]at ho hf
   simp-implicitDefEqProofs+decide only[go_sem,ho,hf,hl,e4,htk,hnb]
   exact endF.row1 (.inr rfl) (by simp-implicitDefEqProofs+decide only[go_sem];rfl) (by simp-implicitDefEqProofs+decide only[go_sem];rfl) (by simp) (by rintro (_|_|_|_|_) hp<;>first|(cases hp;done)|simp-implicitDefEqProofs+decide only[go_sem,hl]) rfl
theorem tieG_ok (h:Heap) (m id k:Nat) (md:Int) (mc:AV) (tie:Bool) (hb:∀l,Lab.pool l=false→h l=none) (hk:h (.obj id)=some (bankG md mc k tie)):
  Ret Tryz.prog 36 [.ptr id] h m [.t (.bool tie)] h m:=by
 have hl:∀d j,h (.loc d j)=none:=fun d j=>hb _ rfl
 unfold bankG at hk
 refine Ret.intro Tryz.func36 rfl (rt:=[2]) rfl (by simp[Tryz.ntmps36]) (by decide) (sites:=fun _=>false) hb (Keeps.refl _) ?_
 apply run_sound 200
 simp-implicitDefEqProofs+decide only[go_sem,hk,hl]
 exact endF.oneH (.inr rfl) (by simp-implicitDefEqProofs+decide only[go_sem,hk,hl]) rfl (fun _ _=>rfl) rfl
theorem doNo_ok (h:Heap) (m id k:Nat) (op md:Int) (x:Atr) (d:List Int) (v:List Sc) (hb:∀l,Lab.pool l=false→h l=none) (hd:d.length<1000000000) (hl:x.list.length<9000000000000000000) (h0:(redE op x d).2≠0∨(v.length:Int)≠cnt d) (hvl:v.length<1000000000):
  Ret Tryz.prog 23 [.ptr id,.int .i64 op,x.T,Ag.T ⟨d,v⟩] h m [.t (.slice []),.t (.slice [])] h m:=by
 have hloc:∀d j,h (.loc d j)=none:=fun d j=>hb _ rfl
 by_cases he:(redE op x d).2=0
 ·have hv:(v.length:Int)≠cnt d:=h0.resolve_left (fun g=>g he)
  obtain⟨_,hc,_,_⟩:=red0 he
  have hG:=grp_of hc (axesI op x)
  have c1:=redGroups_ok op x d hd hl he
  have GG:=GL_of hG
  have c2:=count_ok d hd
  generalize groupsL (marksI d.length (axesI op x)) d=L at*
  have hL1:=GG.ne
  have hL64:=GG.len
  have dz:decide ((L.length:Int)=0)=false:=decide_eq_false (by omega)
  have dv:decide ((v.length:Int)≠cnt d)=true:=decide_eq_true hv
  have hlL:(L.map sI).length=L.length:=by simp
  obtain⟨a1,a2,a3,a4,a5,a6,a7,a8,ak,al⟩:=x
  refine Ret.intro Tryz.func23 rfl (rt:=[8,9]) rfl (by simp[Tryz.ntmps23]) (by decide) (sites:=fun _=>false) hb (Keeps.refl _) ?_
  unfold Ag.T
  simp only[Atr.T,sI,I,sL]at c1 c2
  apply run_sound 200
  simp-implicitDefEqProofs+decide only[go_sem,hloc,Atr.T,I,sI,sS]
  refine CallG.pureS _ Tryz.call73 (c1) (by simp only[List.all_cons,List.all_nil,noPtr,noPtrL,noPtr_sW,noPtr_sI,noPtr_sV,noPtrL_U,noPtrL_I,noPtrL_vT,I,List.map_cons,List.map_nil,Bool.and_true,Bool.and_self]) (by first|rfl|(simp only[go_sem];done)|(simp only[go_sem];rfl)) ?_
  apply run_sound 200
  simp-implicitDefEqProofs+decide only[go_sem,hloc,sL,hlL]
  refine Goes.drawP mixed (Calm.of (by repeat first|exact Clean.und|refine Clean.upd ?_ rfl|refine Clean.upd ?_ (by simp only[cleanA,cleanL,])) (by repeat first|exact HCalm.none|exact HCalm.hb hb|exact HCalm.hb (bank_hb hb)|refine HCalm.row ?_|refine HCalm.box ?_ (by first|rfl|(simp only[cleanA,cleanL,];done)|assumption))) ?_
  simp-implicitDefEqProofs+decide only[go_sem,hloc,sL,hlL,dz,List.length_map]
  refine CallD.P _ Tryz.call54 c2 ?_
  simp-implicitDefEqProofs+decide only[go_sem,hloc,dv]
  refine⟨.mk (by kernel_rfl),?_⟩
  apply run_sound 200
  refine Sm ?_
  exact endF.vals [(8,.slice []),(9,.slice [])] (.inr rfl) (vals_n (by simp-implicitDefEqProofs+decide only[go_sem]) (vals_n (by simp-implicitDefEqProofs+decide only[go_sem]) vals_nil)) (by rintro (_|_|_|_|_) hp<;>first|(cases hp;done)|simp-implicitDefEqProofs+decide only[go_sem,hloc]) rfl
 ·have c1:=redGroups_no op x d hd hl he
  obtain⟨a1,a2,a3,a4,a5,a6,a7,a8,ak,al⟩:=x
  refine Ret.intro Tryz.func23 rfl (rt:=[8,9]) rfl (by simp[Tryz.ntmps23]) (by decide) (sites:=fun _=>false) hb (Keeps.refl _) ?_
  unfold Ag.T
  simp only[Atr.T,sI,I]at c1
  apply run_sound 200
  simp-implicitDefEqProofs+decide only[go_sem,hloc,Atr.T,I,sI,sS]
  refine CallG.pureS _ Tryz.call73 (c1) (by simp only[List.all_cons,List.all_nil,noPtr,noPtrL,noPtr_sW,noPtr_sI,noPtr_sV,noPtrL_U,noPtrL_I,noPtrL_vT,I,List.map_cons,List.map_nil,Bool.and_true,Bool.and_self]) (by first|rfl|(simp only[go_sem];done)|(simp only[go_sem];rfl)) ?_
  apply run_sound 200
  simp-implicitDefEqProofs+decide only[go_sem,hloc]
  refine Goes.drawN mixed ?_
  simp-implicitDefEqProofs+decide only[go_sem,hloc]
  refine⟨.mk (by kernel_rfl),?_⟩
  apply run_sound 200
  refine Sm ?_
  exact endF.vals [(8,.slice []),(9,.slice [])] (.inr rfl) (vals_n (by simp-implicitDefEqProofs+decide only[go_sem]) (vals_n (by simp-implicitDefEqProofs+decide only[go_sem]) vals_nil)) (by rintro (_|_|_|_|_) hp<;>first|(cases hp;done)|simp-implicitDefEqProofs+decide only[go_sem,hloc]) rfl
theorem val27_ok (n:Nat) (h:n<18446744073709551616):Pure Tryz.prog 72 [.int .u64 n] [.t (vT (n:Rat))]:=by
 have c:=rVal_ok n h
 rw[vT_eq]
 rw[qT]at c
 have e1:sW [n]=T.slice [T.int .u64 (n:Int)]:=rfl
 have e2:sW [1]=T.slice [T.int .u64 1]:=rfl
 rw[e1,e2]at c
 refine Pure.J Tryz.func72 [.c 2 _] ?_
 refine Sm ?_
 refine CallG.PS _ Tryz.call105 (c) ?_
 refine Sm ?_
 exact endC.one (.inr rfl) (by first|rfl|(simp-implicitDefEqProofs+decide only[go_sem,valC,sW];done)|(simp-implicitDefEqProofs+decide only[go_sem,valC,sW];rfl)) (by first|rfl|(simp-implicitDefEqProofs+decide only[go_sem,sW];done)|(simp-implicitDefEqProofs+decide only[go_sem,sW];rfl)) (fun l hp=>by cases l<;>first|rfl|cases hp) rfl
def at27:Atr:=⟨0,0,0,0,0,0,0,0,false,[0]⟩
def at29:Atr:=⟨0,0,0,0,0,0,0,0,false,[]⟩
theorem axP_one {r:Nat} (h:0<r):axP r [0] 1:=fun j a hj ha=>by
 obtain rfl:j=0:=by omega
 cases ha
 exact⟨⟨Int.le_refl _,by omega⟩,by simp⟩
theorem red27:(redE 27 at27 [2,2]).2=0:=by
 unfold redE dropE
 rw[if_pos (by decide),if_neg (fun h=>h (by decide)),if_pos (show axP [(2:Int),2].length (axesI 27 at27) (axesI 27 at27).length from axP_one (by decide))]
theorem red29:(redE 29 at29 [3]).2=0:=by
 unfold redE dropE
 rw[if_pos (by decide),if_neg (fun h=>h (by decide)),if_pos (show axP [(3:Int)].length (axesI 29 at29) (axesI 29 at29).length from axP_one (by decide))]
theorem grp27:groupsL (marksI [(2:Int),2].length (axesI 27 at27)) [2,2]=[[0,2],[1,3]]:=by decide+kernel
theorem grp29:groupsL (marksI [(3:Int)].length (axesI 29 at29)) [3]=[[0,1,2]]:=by decide+kernel
def nX (l:List Nat):List Vx:=l.map fun(n:Nat)=>Vx.q (n:Rat)
theorem sum27 (many:Vx) (s:Bs):(doX 27 0 many (nX [1,2,3,4]) [[0,2],[1,3]] s 2).vals=nX [4,6]:=by
 have e1:((1:Nat):Rat)+((3:Nat):Rat)=((4:Nat):Rat):=by decide+kernel
 have e2:((2:Nat):Rat)+((4:Nat):Rat)=((6:Nat):Rat):=by decide+kernel
 show [Vx.q (((1:Nat):Rat)+((3:Nat):Rat)),Vx.q (((2:Nat):Rat)+((4:Nat):Rat))]=[Vx.q ((4:Nat):Rat),Vx.q ((6:Nat):Rat)]
 rw[e1,e2]
theorem sum27w (many:Vx) (s:Bs):(doX 27 0 many (nX [1,2,3,4]) [[0,2],[1,3]] s 2).which=[0,0]:=rfl
theorem pick29 (s:Bs):(bestL 29 (nX [3,5,5]) s).pick=1:=by
 have e1:decide (((3:Nat):Rat)<((5:Nat):Rat))=true:=by decide+kernel
 have e2:decide (((5:Nat):Rat)<((5:Nat):Rat))=false:=by decide+kernel
 have h1:(bestF false (nX [3,5,5]) s 1).pick=1:=by
  show(if decide (((3:Nat):Rat)<((5:Nat):Rat))=true then 1 else 0)=1
  rw[e1];rfl
 show(bestN false (nX [3,5,5]) (bestF false (nX [3,5,5]) s 1) 1).pick=1
 unfold bestN
 rw[h1]
 show(if decide (((5:Nat):Rat)<((5:Nat):Rat))=true then 2 else 1)=1
 rw[e2];rfl
theorem do29 (many:Vx) (s:Bs):(doX 29 0 many (nX [3,5,5]) [[0,1,2]] s 1).vals=nX [5]∧(doX 29 0 many (nX [3,5,5]) [[0,1,2]] s 1).which=[1]:=by
 have h:=pick29 s
 have hg:grpV 29 0 many (nX [3,5,5]) s=⟨.q ((5:Nat):Rat),1,(bestL 29 (nX [3,5,5]) s).b⟩:=by
  unfold grpV
  rw[if_neg (by decide),if_neg (by decide),if_neg (by decide),h]
  rfl
 constructor
 ·show [(grpV 29 0 many (nX [3,5,5]) s).v]=_
  rw[hg];rfl
 ·show [((grpV 29 0 many (nX [3,5,5]) s).p:Int)]=_
  rw[hg];rfl
theorem nX_ok (l:List Nat) (hl:∀n∈l,n<18446744073709551616):AllX 0 9 (nX l):=fun r hr=>by
 obtain⟨n,hn,rfl⟩:=List.mem_map.1 hr
 exact⟨rfl,QB.mono (QB_nat n (hl n hn)) (by decide)⟩
set_option maxHeartbeats 4000000 in
theorem same27_ok:Pure Tryz.prog 22 [] [.t (.bool true)]:=by
 have v1:=val27_ok 1 (by decide)
 have v2:=val27_ok 2 (by decide)
 have v3:=val27_ok 3 (by decide)
 have v4:=val27_ok 4 (by decide)
 have v5:=val27_ok 5 (by decide)
 have v6:=val27_ok 6 (by decide)
 have hb0:∀l,Lab.pool l=false→(fun _=>none:Heap) l=none:=fun _ _=>rfl
 have cn:=bankNewG_ok (fun _=>none) 0 0 (.inl rfl) hb0 rfl
 have B1:BkM (upd (fun _=>none) (.obj 0) (some (bankG 0 .nil 0 false))) 0 4 (obG 0 0 ⟨0,[],false⟩) []:=⟨upd_hb hb0,upd_same _ _ _,rfl⟩
 have d1:=doG_ok _ 1 0 0 27 (.inl rfl) at27 [2,2] (nX [1,2,3,4]) ⟨0,[],false⟩ _ [0,2] [[1,3]] grp27 rfl B1 (by decide) (by decide) (by decide) (by decide) (by decide) red27 (by decide) (nX_ok _ (by decide))
 have e2:[[(0:Int),2],[1,3]].length=2:=rfl
 have g1:=doX_b (op:=27) (md:=0) (many:=numN 0 ([(0:Int),2].length:Nat)) (v:=nX [1,2,3,4]) (s:=⟨0,[],false⟩) (GL_of (grp_of (d:=[2,2]) (by decide) (axesI 27 at27))) 2
 rw[grp27]at g1
 rw[e2,sum27,sum27w]at d1
 obtain⟨s1,hs1⟩:∃s1,(doX 27 0 (numN 0 ([(0:Int),2].length:Nat)) (nX [1,2,3,4]) [[0,2],[1,3]] ⟨0,[],false⟩ 2).b=s1:=⟨_,rfl⟩
 rw[hs1]at d1 g1
 dsimp only at g1
 simp only[List.length_nil]at g1
 have d2:=doG_ok _ 1 0 0 29 (.inl rfl) at29 [3] (nX [3,5,5]) s1 _ [0,1,2] [] grp29 rfl (bkU_M (h:=upd (fun _=>none) (.obj 0) (some (bankG 0 .nil 0 false))) (upd_hb hb0)) (by decide) (by omega) (by omega) (by decide) (by decide) red29 (by decide) (nX_ok _ (by decide))
 have e3:[[(0:Int),1,2]].length=1:=rfl
 rw[e3,(do29 _ _).1,(do29 _ _).2,bkU_U]at d2
 obtain⟨s2,hs2⟩:∃s2,(doX 29 0 (numN 0 ([(0:Int),1,2].length:Nat)) (nX [3,5,5]) [[0,1,2]] s1 1).b=s2:=⟨_,rfl⟩
 rw[hs2]at d2
 have ca:=rAllX_ok (nX [4,6]) (by decide) (by decide) (nX_ok _ (by decide))
 have cb:=rAllX_ok (nX [5]) (by decide) (by decide) (nX_ok _ (by decide))
 simp only[sX,nX,sI,argX,List.map_cons,List.map_nil,I,Atr.T,at27,Vx_q]at d1 ca
 simp only[sX,nX,sI,argX,List.map_cons,List.map_nil,I,Atr.T,at29,Vx_q]at d2 cb
 clear hs1 hs2 g1
 generalize ((1:Nat):Rat)=r1 at*
 generalize ((2:Nat):Rat)=r2 at*
 generalize ((3:Nat):Rat)=r3 at*
 generalize ((4:Nat):Rat)=r4 at*
 generalize ((5:Nat):Rat)=r5 at*
 generalize ((6:Nat):Rat)=r6 at*
 simp only[vT_eq]at v1 v2 v3 v4 v5 v6 d1 d2 ca cb
 refine Pure.drop (h':=bkU (upd (fun _=>none) (.obj 0) (some (bankG 0 .nil 0 false))) 0 4 (obG 0 0 s2) s2.met) (m':=1) ?_ rfl
 refine Ret.intro Tryz.func22 rfl (rt:=[0]) rfl (by simp[Tryz.ntmps22]) (by decide) (sites:=fun _=>false) (bkU_hb (upd_hb hb0)) (Keeps.none _) ?_
 have hu:∀s:Bs,∀d j,bkU (upd (fun _=>none) (.obj 0) (some (bankG 0 .nil 0 false))) 0 4 (obG 0 0 s) s.met (.loc d j)=none:=fun s d j=>bkU_hb (upd_hb hb0) _ rfl
 apply run_sound 200
 refine Sm ?_
 refine CallG.pool _ Tryz.call11 cn hb0 (by rintro (_|_|_|_|_) hp<;>first|(cases hp;done)|simp-implicitDefEqProofs+decide only[go_sem]) ?_
 apply run_sound 200
 refine Sm ?_
 refine CallG.PS _ Tryz.call72 (v1) ?_
 refine Sm ?_
 refine CallG.PS _ Tryz.call72 (v2) ?_
 refine Sm ?_
 refine CallG.PS _ Tryz.call72 (v3) ?_
 refine Sm ?_
 refine CallG.PS _ Tryz.call72 (v4) ?_
 refine Sm ?_
 refine CallG.pool _ Tryz.call23 d1 (upd_hb hb0) (by rintro (_|_|_|_|_) hp<;>first|(cases hp;done)|simp-implicitDefEqProofs+decide only[go_sem]) ?_
 apply run_sound 200
 simp-implicitDefEqProofs+decide only[go_sem,hu]
 refine CallG.PS _ Tryz.call72 (v3) ?_
 simp-implicitDefEqProofs+decide only[go_sem,hu]
 refine CallG.PS _ Tryz.call72 (v5) ?_
 simp-implicitDefEqProofs+decide only[go_sem,hu]
 refine CallG.PS _ Tryz.call72 (v5) ?_
 simp-implicitDefEqProofs+decide only[go_sem,hu]
 refine CallG.pool _ Tryz.call23 d2 (bkU_hb (upd_hb hb0)) (by rintro (_|_|_|_|_) hp<;>first|(cases hp;done)|simp-implicitDefEqProofs+decide only[go_sem,hu]) ?_
 apply run_sound 200
 simp-implicitDefEqProofs+decide only[go_sem,hu]
 refine CallG.PS _ Tryz.call72 (v4) ?_
 simp-implicitDefEqProofs+decide only[go_sem,hu]
 refine CallG.PS _ Tryz.call72 (v6) ?_
 simp-implicitDefEqProofs+decide only[go_sem,hu]
 refine CallG.pure _ Tryz.call14 (ca) (by simp only[List.all_cons,List.all_nil,noPtr,noPtrL,noPtr_sW,noPtr_sI,noPtr_sV,noPtrL_U,noPtrL_I,noPtrL_vT,I,List.map_cons,List.map_nil,Bool.and_true,Bool.and_self]) (by first|rfl|(simp only[go_sem];done)|(simp only[go_sem];rfl)) ?_
 apply run_sound 200
 simp-implicitDefEqProofs+decide only[go_sem,hu]
 refine CallG.PS _ Tryz.call72 (v5) ?_
 simp-implicitDefEqProofs+decide only[go_sem,hu]
 refine CallG.pure _ Tryz.call14 (cb) (by simp only[List.all_cons,List.all_nil,noPtr,noPtrL,noPtr_sW,noPtr_sI,noPtr_sV,noPtrL_U,noPtrL_I,noPtrL_vT,I,List.map_cons,List.map_nil,Bool.and_true,Bool.and_self]) (by first|rfl|(simp only[go_sem];done)|(simp only[go_sem];rfl)) ?_
 apply run_sound 200
 simp-implicitDefEqProofs+decide only[go_sem,hu]
 exact endF.vals [(0,.bool true)] (.inr rfl) (vals_t (by first|rfl|(simp-implicitDefEqProofs+decide only[go_sem];done)|(simp-implicitDefEqProofs+decide only[go_sem];rfl)) rfl vals_nil) (by rintro (_|_|_|_|_) hp<;>first|(cases hp;done)|simp-implicitDefEqProofs+decide only[go_sem,hu]) rfl
end Go.Fm
/- The law ReduceDoes: what may not be, and both sides. -/
namespace Go.Fm
open Go.Proofs
set_option maxRecDepth 100000
attribute [local irreducible] tiOf

theorem noPtrL_Ag (l:List Ag):noPtrL (l.map Ag.T)=true:=by have:=noPtr_sA l;simpa only[sA,noPtr] using this
def prT (op:Int) (x:Atr) (l:List Ag) (out:List Int):T:=.agg [.int .i64 op,.int .i64 x.n,.int .i64 x.a,.int .i64 x.b,.int .i64 x.c,.int .i64 x.p,.int .i64 x.q,.int .i64 x.r,.int .i64 x.s,.bool x.keep,sI x.list,sA l,sI out]
theorem reduceDoes_r (md op o:Int) (x:Atr) (l:List Ag) (out:List Int) (cr:Pure Tryz.prog 9 [.int .i64 md,sA l] [.t (.bool false)]):Pure Tryz.prog 5 [.int .i64 md,.int .i64 op,prT o x l out] [.t (.bool true)]:=by
 have cs:=same27_ok
 obtain⟨a1,a2,a3,a4,a5,a6,a7,a8,ak,al⟩:=x
 simp only[sA]at cr
 unfold prT
 refine Pure.I Tryz.func5 [6] ?_
 simp-implicitDefEqProofs+decide only[go_sem,sI,sA]
 refine CallG.pure _ Tryz.call9 cr (by simp only[List.all_cons,List.all_nil,noPtr,noPtrL,noPtr_sI,noPtr_sS,noPtrL_I,noPtrL_Sc,noPtrL_Ag,noPtrL_Vx,Bool.and_self]) (by first|rfl|(simp only[go_sem];done)|(simp only[go_sem];rfl)) ?_
 apply run_sound 200
 refine Sm ?_
 refine CallG.P _ Tryz.call22 (cs) ?_
 refine Sm ?_
 exact endF.V1 6 (.bool true)
theorem reduceDoes_n (md op o:Int) (x:Atr) (l:List Ag) (out:List Int) (cr:Pure Tryz.prog 9 [.int .i64 md,sA l] [.t (.bool true)]) (h:l.length≠1∨20<x.list.length):Pure Tryz.prog 5 [.int .i64 md,.int .i64 op,prT o x l out] [.t (.bool true)]:=by
 have cs:=same27_ok
 obtain⟨a1,a2,a3,a4,a5,a6,a7,a8,ak,al⟩:=x
 simp only[sA]at cr
 dsimp only at h
 unfold prT
 refine Pure.I Tryz.func5 [6] ?_
 simp-implicitDefEqProofs+decide only[go_sem,sI,sA]
 refine CallG.pure _ Tryz.call9 cr (by simp only[List.all_cons,List.all_nil,noPtr,noPtrL,noPtr_sI,noPtr_sS,noPtrL_I,noPtrL_Sc,noPtrL_Ag,noPtrL_Vx,Bool.and_self]) (by first|rfl|(simp only[go_sem];done)|(simp only[go_sem];rfl)) ?_
 apply run_sound 200
 by_cases h1:l.length=1
 ·have d1:decide ((l.length:Int)≠1)=false:=decide_eq_false (by omega)
  have d2:decide ((20:Int)<(al.length:Int))=true:=decide_eq_true (by omega)
  simp-implicitDefEqProofs+decide only[go_sem,List.length_map,d1,d2]
  refine CallG.P _ Tryz.call22 (cs) ?_
  refine Sm ?_
  exact endF.V1 6 (.bool true)
 ·have d1:decide ((l.length:Int)≠1)=true:=decide_eq_true (by omega)
  simp-implicitDefEqProofs+decide only[go_sem,List.length_map,d1]
  refine CallG.P _ Tryz.call22 (cs) ?_
  refine Sm ?_
  exact endF.V1 6 (.bool true)
theorem reduceDoes_no (md op o:Int) (hmd:md=0∨md=1) (x:Atr) (a:Ag) (out:List Int) (cr:Pure Tryz.prog 9 [.int .i64 md,sA [a]] [.t (.bool true)]) (hxl:x.list.length≤20) (hd:a.d.length<1000000000) (hvl:a.v.length<1000000000)
  (h0:(redE op x a.d).2≠0∨(a.v.length:Int)≠cnt a.d):Pure Tryz.prog 5 [.int .i64 md,.int .i64 op,prT o x [a] out] [.t (.bool true)]:=by
 have cs:=same27_ok
 have hb0:∀l,Lab.pool l=false→(fun _=>none:Heap) l=none:=fun _ _=>rfl
 have n1:=bankNewG_ok (fun _=>none) 0 md hmd hb0 rfl
 obtain⟨d,v⟩:=a
 dsimp only at hd hvl h0
 have d1:=doNo_ok (upd (fun _=>none) (.obj 0) (some (bankG md .nil 0 false))) 1 0 0 op md x d v (upd_hb hb0) hd (by omega) h0 hvl
 have cD:=rRedDims_ok op x d hd (by omega)
 have cC:=rCount_ok d hd
 obtain⟨rD,hrD⟩:∃r,redE op x d=r:=⟨_,rfl⟩
 rw[hrD]at cD h0
 obtain⟨rd,re⟩:=rD
 dsimp only at cD h0
 obtain⟨a1,a2,a3,a4,a5,a6,a7,a8,ak,al⟩:=x
 dsimp only at hxl
 have dl:decide ((20:Int)<(al.length:Int))=false:=decide_eq_false (by omega)
 simp only[sA,Ag.T,sI,sS,Atr.T,I,List.map_cons,List.map_nil]at cr d1 cD cC
 unfold prT
 refine Pure.drop (h':=upd (fun _=>none) (.obj 0) (some (bankG md .nil 0 false))) (m':=1) ?_ rfl
 refine Ret.intro Tryz.func5 rfl (rt:=[6]) rfl (by simp[Tryz.ntmps5]) (by decide) (sites:=fun d=>d==13||d==17) (upd_hb hb0) (Keeps.none _) ?_
 apply run_sound 200
 simp-implicitDefEqProofs+decide only[go_sem,sI,sA,sS,Ag.T,List.map_cons,List.map_nil]
 refine CallG.pure _ Tryz.call9 cr (by simp only[List.all_cons,List.all_nil,noPtr,noPtrL,noPtr_sI,noPtr_sS,noPtrL_I,noPtrL_Sc,noPtrL_Ag,noPtrL_Vx,Bool.and_self]) (by first|rfl|(simp only[go_sem];done)|(simp only[go_sem];rfl)) ?_
 apply run_sound 200
 simp-implicitDefEqProofs+decide only[go_sem,dl,List.length_map]
 refine CallG.pool _ Tryz.call11 n1 hb0 (by rintro (_|_|_|_|_) hp<;>first|(cases hp;done)|simp-implicitDefEqProofs+decide only[go_sem]) ?_
 apply run_sound 200
 refine Sm ?_
 refine CallG.pool _ Tryz.call23 d1 (upd_hb hb0) (by rintro (_|_|_|_|_) hp<;>first|(cases hp;done)|simp-implicitDefEqProofs+decide only[go_sem]) ?_
 apply run_sound 200
 refine Sm ?_
 refine CallG.pureS _ Tryz.call24 (cD) (by simp only[List.all_cons,List.all_nil,noPtr,noPtrL,noPtr_sW,noPtr_sI,noPtr_sV,noPtrL_U,noPtrL_I,noPtrL_vT,I,List.map_cons,List.map_nil,Bool.and_true,Bool.and_self]) (by first|rfl|(simp only[go_sem];done)|(simp only[go_sem];rfl)) ?_
 apply run_sound 200
 refine Sm ?_
 have hb:=upd_hb (id:=0) (o:=some (bankG md .nil 0 false)) hb0
 refine Goes.wk (show Wk _ _ ⟨ofL [(7,.bp (.loc 7 0) 0),(9,.t (.slice [])),(10,.t (.slice [])),(12,.t (.int .i64 re))],ofH (upd (fun _=>none) (.obj 0) (some (bankG md .nil 0 false))) [(.loc 7 0,.box [.t (sI d),.t (sS v)])],1⟩ from Wk.boxes _ _ hb rfl rfl ?_ ?_ ?_ ?_) ?_
 ·simp-implicitDefEqProofs+decide only[go_sem,sI,sS]<;>first|rfl|exact⟨rfl,rfl⟩
 ·exact(by rintro (_|_|_|_|_) hp<;>first|(cases hp;done)|simp-implicitDefEqProofs+decide only[go_sem])
 ·simp-implicitDefEqProofs+decide only[go_sem]<;>first|rfl|skip
 ·simp-implicitDefEqProofs+decide only[go_sem]
 refine Goes.drawP mixed (Calm.of (by repeat first|exact Clean.und|refine Clean.upd ?_ rfl|refine Clean.upd ?_ (by simp only[cleanA,cleanL,])) (by repeat first|exact HCalm.none|exact HCalm.hb hb|exact HCalm.hb (bank_hb hb)|refine HCalm.row ?_|refine HCalm.box ?_ (by first|rfl|(simp only[cleanA,cleanL,];done)|assumption))) ?_
 by_cases he:re=0
 ·have de:decide (re≠0)=false:=decide_eq_false (fun g=>g he)
  have hv:(v.length:Int)≠cnt d:=h0.resolve_left (fun g=>g he)
  have dv:decide ((v.length:Int)≠cnt d)=true:=decide_eq_true hv
  simp-implicitDefEqProofs+decide only[go_sem,de,sI,sS,List.length_map]
  refine CallD.P _ Tryz.call25 cC ?_
  simp-implicitDefEqProofs+decide only[go_sem,dv,List.length_map]
  refine⟨.mk (by kernel_rfl),?_⟩
  apply run_sound 200
  refine Sm ?_
  refine CallG.P _ Tryz.call22 (cs) ?_
  refine Sm ?_
  exact endF.vals [(6,.bool true)] (.inr rfl) (vals_t (by first|rfl|(simp-implicitDefEqProofs+decide only[go_sem];done)|(simp-implicitDefEqProofs+decide only[go_sem];rfl)) rfl vals_nil) (by rintro (_|_|_|_|_) hp<;>first|(cases hp;done)|simp-implicitDefEqProofs+decide only[go_sem]) rfl
 ·have de:decide (re≠0)=true:=decide_eq_true he
  simp-implicitDefEqProofs+decide only[go_sem,de,sI,sS,List.length_map]
  refine⟨.mk (by kernel_rfl),?_⟩
  apply run_sound 200
  refine Sm ?_
  refine CallG.P _ Tryz.call22 (cs) ?_
  refine Sm ?_
  exact endF.vals [(6,.bool true)] (.inr rfl) (vals_t (by first|rfl|(simp-implicitDefEqProofs+decide only[go_sem];done)|(simp-implicitDefEqProofs+decide only[go_sem];rfl)) rfl vals_nil) (by rintro (_|_|_|_|_) hp<;>first|(cases hp;done)|simp-implicitDefEqProofs+decide only[go_sem]) rfl
theorem rSameX_ok (v:Vx) {n:Nat} (hv:v.B n) (hn:n<1000000000):Pure Tryz.prog 27 [v.T,v.T] [.t (.bool true)]:=by
 have c:=rSameV_ok v.sc v.sc (ScB_Vx hv hn) (ScB_Vx hv hn)
 rw[decide_eq_true rfl]at c
 exact c
end Go.Fm
/- The law ReduceDoes: both sides say the same. -/
namespace Go.Fm
open Go.Proofs
set_option maxRecDepth 100000
attribute [local irreducible] tiOf

set_option maxHeartbeats 8000000 in
theorem reduceDoes_yes (md op o:Int) (hmd:md=0∨md=1) (x:Atr) (d:List Int) (xs:List Vx) (out:List Int) (cr:Pure Tryz.prog 9 [.int .i64 md,.slice [argX d xs]] [.t (.bool true)]) (hxl:x.list.length≤20) (hd:d.length<1000000000)
  (h0:(redE op x d).2=0) (hv:(xs.length:Int)=cnt d) (hvq:AllX md 9 xs):Pure Tryz.prog 5 [.int .i64 md,.int .i64 op,prT o x [⟨d,xs.map Vx.sc⟩] out] [.t (.bool true)]:=by
 have cs:=same27_ok
 have hb0:∀l,Lab.pool l=false→(fun _=>none:Heap) l=none:=fun _ _=>rfl
 obtain⟨hrb,hc,_,_⟩:=red0 h0
 have hop:27≤op∧op≤31:=by
  unfold redB at hrb
  simpa using hrb
 have hG:=grp_of hc (axesI op x)
 have GG:=GL_of hG
 have hcd:cnt d=prodL d:=by unfold cnt;rw[if_pos hc]
 have hN:=(chk0 hc).2.2
 rw[show(prodL d).toNat=xs.length by omega]at GG
 have cG:=rGroups_ok op x d hd (by omega) h0
 have cD:=rRedDims_ok op x d hd (by omega)
 have cC:=rCount_ok d hd
 have n1:=bankNewG_ok (fun _=>none) 0 md hmd hb0 rfl
 have B1:BkM (upd (fun _=>none) (.obj 0) (some (bankG md .nil 0 false))) 0 4 (obG 0 md ⟨0,[],false⟩) []:=⟨upd_hb hb0,upd_same _ _ _,rfl⟩
 obtain⟨L,hL⟩:∃L,groupsL (marksI d.length (axesI op x)) d=L:=⟨_,rfl⟩
 rw[hL]at GG cG
 obtain⟨g0,Lr,hLr⟩:∃g0 Lr,L=g0::Lr:=by
  have:=GG.ne
  cases L with
  |nil=>simp at this
  |cons a l=>exact⟨a,l,rfl⟩
 have hg0:=GG.each g0 (by rw[hLr];exact .head _)
 have hL64:=GG.len
 have d1:=doG_ok _ 1 0 md op hmd x d xs ⟨0,[],false⟩ L g0 Lr hL hLr B1 hop (by decide) (by decide) hd (by omega) h0 hv hvq
 have hF1:∀l,Lab.pool l=true→l≠.obj 0→l≠.fld 0 4→∀(o:Obj) (mt:List Bool),bkU (upd (fun _=>none) (.obj 0) (some (bankG md .nil 0 false))) 0 4 o mt l=none:=fun l _ h1 h2 o mt=>by
  unfold bkU
  rw[upd_ne _ _ _ _ h2,upd_ne _ _ _ _ h1,upd_ne _ _ _ _ h1]
 have hmok:=numN_ok hmd (show 1≤(g0.length:Int) by omega) (by omega)
 have hbb:=doX_b (op:=op) (md:=md) (many:=numN md g0.length) (v:=xs) (s:=⟨0,[],false⟩) GG L.length
 have hvs:=doX_ok (op:=op) (s:=⟨0,[],false⟩) hmd hvq GG ⟨hmok.1,hmok.2.1,hmok.2.2.1⟩ L.length (Nat.le_refl _)
 have hvl:=doX_len op md (numN md g0.length) xs L ⟨0,[],false⟩ L.length
 have d2':=fun(H:Heap) (hb:∀l,Lab.pool l=false→H l=none) (hf:H (.fld 1 3)=none)=>rdoG_ok (upd H (.obj 1) (some (bankR md .nil 0 false))) 2 1 md op hmd x d xs ⟨0,[],false⟩ L g0 Lr hL hLr ⟨upd_hb hb,upd_same _ _ _,by rw[upd_ne _ _ _ _ (fun e=>by cases e)];exact hf⟩ hop (by decide) (by decide) hd (by omega) h0 hv hvq
 obtain⟨⟨vs,wh,sF⟩,hF⟩:∃t,doX op md (numN md g0.length) xs L ⟨0,[],false⟩ L.length=t:=⟨_,rfl⟩
 rw[hF]at d1 hbb hvs hvl
 simp only[hF]at d2'
 dsimp only at d1 hbb hvs hvl d2'
 have hmF:sF.met.length<100000:=by
  have:=Nat.mul_le_mul_right 64 hL64
  simp only[List.length_nil]at hbb
  omega
 obtain⟨x0,rest,hx0⟩:∃x0 rest,xs=x0::rest:=by
  cases xs with
  |nil=>simp at hv;omega
  |cons a l=>exact⟨a,l,rfl⟩
 have hx0q:=hvq x0 (by rw[hx0];exact .head _)
 have hrq:AllX md 9 rest:=fun r hr=>hvq r (by rw[hx0];exact .tail _ hr)
 have hrl:rest.length≤64:=by
  have:xs.length=rest.length+1:=by rw[hx0];rfl
  omega
 have hsx:=sumX_ok (x:=x0) (l:=rest) hx0q hrq rest.length
 rw[List.take_length]at hsx
 -- the heap behind the program's reduction
 obtain⟨H2,hH2⟩:∃H2:Heap,bkU (upd (fun _=>none) (.obj 0) (some (bankG md .nil 0 false))) 0 4 (obG 0 md sF) sF.met=H2:=⟨_,rfl⟩
 have BB:BkM H2 0 4 (obG 0 md sF) sF.met:=by rw[←hH2];exact bkU_M (upd_hb hb0)
 have f21:H2 (.obj 1)=none:=by rw[←hH2];exact hF1 _ rfl (fun e=>by cases e) (fun e=>by cases e) _ _
 have f22:H2 (.obj 2)=none:=by rw[←hH2];exact hF1 _ rfl (fun e=>by cases e) (fun e=>by cases e) _ _
 have f23:H2 (.obj 3)=none:=by rw[←hH2];exact hF1 _ rfl (fun e=>by cases e) (fun e=>by cases e) _ _
 have f2f:H2 (.fld 1 3)=none:=by rw[←hH2];exact hF1 _ rfl (fun e=>by cases e) (fun e=>by cases e) _ _
 rw[hH2]at d1
 have d2:=d2' H2 BB.hb f2f
 clear d2' hF1
 have hb3:∀l,Lab.pool l=false→upd H2 (.obj 1) (some (bankR md .nil 0 false)) l=none:=upd_hb BB.hb
 obtain⟨H4,hH4⟩:∃H4:Heap,bkU (upd H2 (.obj 1) (some (bankR md .nil 0 false))) 1 3 (obR 1 md sF) sF.met=H4:=⟨_,rfl⟩
 have BR:BkM H4 1 3 (obR 1 md sF) sF.met:=by rw[←hH4];exact bkU_M hb3
 have hF4:∀l,l≠.obj 1→l≠.fld 1 3→H4 l=H2 l:=fun l h1 h2=>by
  rw[←hH4];unfold bkU
  rw[upd_ne _ _ _ _ h2,upd_ne _ _ _ _ h1,upd_ne _ _ _ _ h1]
 have BG:BkM H4 0 4 (obG 0 md sF) sF.met:=⟨BR.hb,by rw[hF4 _ (fun e=>by cases e) (fun e=>by cases e)];exact BB.o,by rw[hF4 _ (fun e=>by cases e) (fun e=>by cases e)];exact BB.f⟩
 have f42:H4 (.obj 2)=none:=by rw[hF4 _ (fun e=>by cases e) (fun e=>by cases e)];exact f22
 have f43:H4 (.obj 3)=none:=by rw[hF4 _ (fun e=>by cases e) (fun e=>by cases e)];exact f23
 rw[hH4]at d2
 clear hH4 hF4
 have n2:=bankNewG_ok H4 2 md hmd BR.hb f42
 have hb5:∀l,Lab.pool l=false→upd H4 (.obj 2) (some (bankG md .nil 0 false)) l=none:=upd_hb BR.hb
 obtain⟨H6,hH6⟩:∃H6:Heap,upd (upd H4 (.obj 2) (some (bankG md .nil 0 false))) (.obj 3) (some (bankR md .nil 0 false))=H6:=⟨_,rfl⟩
 have hb6:∀l,Lab.pool l=false→H6 l=none:=by rw[←hH6];exact upd_hb hb5
 have k62:H6 (.obj 2)=some (bankG md .nil 0 false):=by rw[←hH6,upd_ne _ _ _ _ (fun e=>by cases e),upd_same]
 have k63:H6 (.obj 3)=some (bankR md .nil 0 false):=by rw[←hH6,upd_same]
 have k60:H6 (.obj 0)=some (obG 0 md sF):=by rw[←hH6,upd_ne _ _ _ _ (fun e=>by cases e),upd_ne _ _ _ _ (fun e=>by cases e)];exact BG.o
 have k604:H6 (.fld 0 4)=mtR sF.met:=by rw[←hH6,upd_ne _ _ _ _ (fun e=>by cases e),upd_ne _ _ _ _ (fun e=>by cases e)];exact BG.f
 have k61:H6 (.obj 1)=some (obR 1 md sF):=by rw[←hH6,upd_ne _ _ _ _ (fun e=>by cases e),upd_ne _ _ _ _ (fun e=>by cases e)];exact BR.o
 have k613:H6 (.fld 1 3)=mtR sF.met:=by rw[←hH6,upd_ne _ _ _ _ (fun e=>by cases e),upd_ne _ _ _ _ (fun e=>by cases e)];exact BR.f
 have s1:=sumG_ok H6 4 2 0 md .nil false x0 rest hb6 k62 (by decide) hrl hx0q hrq
 rw[←hx0]at s1
 obtain⟨k,hk⟩:∃k,0+rest.length=k:=⟨_,rfl⟩
 have hb7:∀l,Lab.pool l=false→upd H6 (.obj 2) (some (bankG md .nil k false)) l=none:=upd_hb hb6
 have s2:=rSumG_ok (upd H6 (.obj 2) (some (bankG md .nil k false))) 4 3 0 md .nil false x0 rest hb7 (by rw[upd_ne _ _ _ _ (fun e=>by cases e)];exact k63) (by decide) hrl hx0q hrq
 rw[←hx0]at s2
 rw[hk]at s1 s2
 obtain⟨H8,hH8⟩:∃H8:Heap,upd (upd H6 (.obj 2) (some (bankG md .nil k false))) (.obj 3) (some (bankR md .nil k false))=H8:=⟨_,rfl⟩
 have hb8:∀l,Lab.pool l=false→H8 l=none:=by rw[←hH8];exact upd_hb hb7
 have k82:H8 (.obj 2)=some (bankG md .nil k false):=by rw[←hH8,upd_ne _ _ _ _ (fun e=>by cases e),upd_same]
 have k83:H8 (.obj 3)=some (bankR md .nil k false):=by rw[←hH8,upd_same]
 have hF8:∀l,l≠.obj 2→l≠.obj 3→H8 l=H6 l:=fun l h1 h2=>by rw[←hH8,upd_ne _ _ _ _ h2,upd_ne _ _ _ _ h1]
 have k81:H8 (.obj 1)=some (obR 1 md sF):=(hF8 _ (fun e=>by cases e) (fun e=>by cases e)).trans k61
 have k813:H8 (.fld 1 3)=mtR sF.met:=(hF8 _ (fun e=>by cases e) (fun e=>by cases e)).trans k613
 have B8:BkM H8 0 4 (obG 0 md sF) sF.met:=⟨hb8,(hF8 _ (fun e=>by cases e) (fun e=>by cases e)).trans k60,(hF8 _ (fun e=>by cases e) (fun e=>by cases e)).trans k604⟩
 have sm1:=rSameX_ok (sumX x0 rest) hsx.2.1 (by have:=Nat.mul_le_mul_right (9+1) (show rest.length+1≤65 by omega);omega)
 generalize sumX x0 rest=sv at*
 have co:=opsG_ok H8 4 2 k md .nil false hb8 k82
 have cm:=manyG_ok H8 4 2 k md hmd .nil false g0 Lr hb8 k82 (by omega) (by rw[hLr]at hL64;simp at hL64;omega)
 rw[←hLr]at cm
 have cn:=rnum_ok H8 4 3 k md .nil false g0.length 1 hmd hb8 k83 (by decide) (by omega) (by omega) (by decide) (by decide)
 have sm2:=rSameX_ok (numN md g0.length) hmok.2.1 (by decide)
 obtain⟨mv,hmv⟩:∃t,numN md g0.length=t:=⟨_,rfl⟩
 rw[hmv]at cm sm2
 unfold numN at hmv
 rw[hmv]at cn
 have cm0:=many0_ok H8 4 2 hb8
 have sm3:=rSameX_ok (Vx.d 0) (n:=2) (show(0:Nat)<18446744073709551616 by decide) (by decide)
 have cs0:=sum0_ok H8 4 2 k md hmd .nil false hb8 k82
 have cn0:=rnum_ok H8 4 3 k md .nil false 0 1 hmd hb8 k83 (by decide) (by decide) (by decide) (by decide) (by decide)
 have sm4:=rSameX_ok (numV md (((0:Int):Rat)/((1:Int):Rat))) (n:=2) (numV_B (QB_div (by decide) (by decide) (by decide))) (by decide)
 generalize numV md (((0:Int):Rat)/((1:Int):Rat))=zv at*
 have cbo:=bools_ok sF.met sF.met (by omega)
 rw[decide_eq_true rfl]at cbo
 have ca:=rAllX_ok vs (by decide) (by omega) hvs
 have ci:=ints_ok wh wh (by omega)
 rw[decide_eq_true rfl]at ci
 have hL0:L[0]?=some g0:=by rw[hLr];rfl
 have hl2:∀e j,H2 (.loc e j)=none:=fun e j=>BB.hb _ rfl
 have hl4:∀e j,H4 (.loc e j)=none:=fun e j=>BR.hb _ rfl
 have hl6:∀e j,H6 (.loc e j)=none:=fun e j=>hb6 _ rfl
 have hl8:∀e j,H8 (.loc e j)=none:=fun e j=>hb8 _ rfl
 clear hF8 hF hL hLr hmv hbb GG hG hmok hsx hvs hvq hx0q hrq B1
 obtain⟨rD,hrD⟩:∃r,redE op x d=r:=⟨_,rfl⟩
 rw[hrD]at cD h0
 obtain⟨rd,re⟩:=rD
 dsimp only at cD h0
 subst h0
 obtain⟨a1,a2,a3,a4,a5,a6,a7,a8,ak,al⟩:=x
 dsimp only at hxl
 have dl:decide ((20:Int)<(al.length:Int))=false:=decide_eq_false (by omega)
 have dv:decide ((xs.length:Int)≠cnt d)=false:=decide_eq_false (by omega)
 simp only[argX,sI,sX,Atr.T,I,sL,Vx_T]at cr d1 d2 cD cC cG s1 s2 sm1 sm2 sm3 sm4 cm cn cm0 cs0 cn0 ca ci
 have eT:sA [⟨d,xs.map Vx.sc⟩]=.slice [.agg [sI d,sX xs]]:=congrArg (fun t=>T.slice [t]) (Ag_sc d xs)
 unfold prT
 rw[eT]
 obtain⟨HF,hHF⟩:∃HF:Heap,HF=(match sF.met with|[]=>H8|a::l=>upd (upd H8 (.fld 1 3) (some (.arr 1 ((a::l).map T.bool) l.length ((a::l).map T.bool).length))) (.obj 1) (some (.box [.t (.int .i64 md),.t (.int .i64 0),.t (.int .i64 sF.k),.t (.slice ((a::l).map T.bool)),.t (.bool sF.tie)]))):=⟨_,rfl⟩
 have hbF:∀l,Lab.pool l=false→HF l=none:=fun lab hp=>by
  rw[hHF]
  cases hmet:sF.met with
  |nil=>exact hb8 lab hp
  | cons a l =>
    show upd (upd H8 _ _) _ _ lab=none
    rw[upd_ne _ _ _ _ (fun e=>by subst e;cases hp),upd_ne _ _ _ _ (fun e=>by subst e;cases hp)]
    exact hb8 lab hp
 refine Pure.drop (h':=HF) (m':=4) ?_ rfl
 refine Ret.intro Tryz.func5 rfl (rt:=[6]) rfl (by simp[Tryz.ntmps5]) (by decide) (sites:=fun d=>d==13||d==17) hbF (Keeps.none _) ?_
 apply run_sound 200
 simp-implicitDefEqProofs+decide only[go_sem,sI,I]
 refine CallG.pure _ Tryz.call9 cr (by simp only[List.all_cons,List.all_nil,noPtr,noPtrL,noPtrL_I,noPtrL_Vx,noPtr_sX,Bool.and_self]) (by first|rfl|(simp only[go_sem];done)|(simp only[go_sem];rfl)) ?_
 apply run_sound 200
 simp-implicitDefEqProofs+decide only[go_sem,dl,List.length_map]
 refine CallG.pool _ Tryz.call11 n1 hb0 (by rintro (_|_|_|_|_) hp<;>first|(cases hp;done)|simp-implicitDefEqProofs+decide only[go_sem]) ?_
 apply run_sound 200
 refine Sm ?_
 refine CallG.pool _ Tryz.call23 d1 (upd_hb hb0) (by rintro (_|_|_|_|_) hp<;>first|(cases hp;done)|simp-implicitDefEqProofs+decide only[go_sem]) ?_
 apply run_sound 200
 simp-implicitDefEqProofs+decide only[go_sem,hl2]
 refine CallG.pureS _ Tryz.call24 (cD) (by simp only[List.all_cons,List.all_nil,noPtr,noPtrL,noPtr_sW,noPtr_sI,noPtr_sV,noPtrL_U,noPtrL_I,noPtrL_vT,I,List.map_cons,List.map_nil,Bool.and_true,Bool.and_self]) (by first|rfl|(simp only[go_sem];done)|(simp only[go_sem];rfl)) ?_
 apply run_sound 200
 simp-implicitDefEqProofs+decide only[go_sem,hl2]
 have hb:=BB.hb
 refine Goes.wk (show Wk _ _ ⟨ofL [(0,.t (.int .i64 md)),(1,.t (.int .i64 op)),(5,.bp (.loc 5 0) 0),(7,.bp (.loc 7 0) 0),(8,.t (.ptr 0)),(9,.t (sX vs)),(10,.t (sI wh)),(12,.t (.int .i64 0))],
     ofH H2 [(.loc 5 0,.box [.t (.int .i64 o),.t (.int .i64 a1),.t (.int .i64 a2),.t (.int .i64 a3),.t (.int .i64 a4),.t (.int .i64 a5),.t (.int .i64 a6),.t (.int .i64 a7),.t (.int .i64 a8),.t (.bool ak),.t (sI al),.t (.slice [.agg [sI d,sX xs]]),.t (sI out)]),(.loc 7 0,.box [.t (sI d),.t (sX xs)])],1⟩ from Wk.boxes _ _ hb rfl rfl ?_ ?_ ?_ ?_) ?_
 ·simp-implicitDefEqProofs+decide only[go_sem,sI,sX,hl2,I]<;>first|rfl|exact⟨rfl,rfl⟩
 ·exact(by rintro (_|_|_|_|_) hp<;>first|(cases hp;done)|simp-implicitDefEqProofs+decide only[go_sem,hl2])
 ·simp-implicitDefEqProofs+decide only[go_sem,sX,sI,I]<;>first|rfl|skip
 ·simp-implicitDefEqProofs+decide only[go_sem]
 refine Goes.drawP mixed (Calm.of (by repeat first|exact Clean.und|refine Clean.upd ?_ rfl|refine Clean.upd ?_ (by simp only[cleanA,cleanL,])) (by repeat first|exact HCalm.none|exact HCalm.hb hb|exact HCalm.hb (bank_hb hb)|refine HCalm.row ?_|refine HCalm.box ?_ (by first|rfl|(simp only[cleanA,cleanL,];done)|assumption))) ?_
 simp-implicitDefEqProofs+decide only[go_sem,hl2,ofH,sI,sX,I,List.length_map]
 refine CallD.P _ Tryz.call25 cC ?_
 simp-implicitDefEqProofs+decide only[go_sem,dv,hl2,ofH,sI,sX,I,List.length_map]
 refine⟨.mk (by kernel_rfl),?_⟩
 apply run_sound 200
 simp-implicitDefEqProofs+decide only[go_sem,hl2,f21,ofH,sI,sX,I]
 refine CallG.pool _ Tryz.call26 d2 hb3 (by rintro (_|_|_|_|_) hp<;>first|(cases hp;done)|simp-implicitDefEqProofs+decide only[go_sem,bankR,hl2]) ?_
 apply run_sound 200
 simp-implicitDefEqProofs+decide only[go_sem,hl4]
 refine CallG.pool _ Tryz.call11 n2 BR.hb (by rintro (_|_|_|_|_) hp<;>first|(cases hp;done)|simp-implicitDefEqProofs+decide only[go_sem,hl4]) ?_
 apply run_sound 200
 simp-implicitDefEqProofs+decide only[go_sem,hl4,f43]
 refine Goes.wk (show Wk _ _ ⟨ofL [(0,.t (.int .i64 md)),(1,.t (.int .i64 op)),(5,.bp (.loc 5 0) 0),(7,.bp (.loc 7 0) 0),(8,.t (.ptr 0)),(9,.t (sX vs)),(10,.t (sI wh)),(13,.bp (.obj 1) 0),(14,.t (sX vs)),(15,.t (sI wh)),(16,.t (.ptr 2)),(17,.bp (.obj 3) 0)],
     ofH H6 [(.loc 5 0,.box [.t (.int .i64 o),.t (.int .i64 a1),.t (.int .i64 a2),.t (.int .i64 a3),.t (.int .i64 a4),.t (.int .i64 a5),.t (.int .i64 a6),.t (.int .i64 a7),.t (.int .i64 a8),.t (.bool ak),.t (sI al),.t (.slice [.agg [sI d,sX xs]]),.t (sI out)]),(.loc 7 0,.box [.t (sI d),.t (sX xs)])],4⟩ from Wk.boxes _ _ hb6 rfl rfl ?_ ?_ ?_ ?_) ?_
 ·simp-implicitDefEqProofs+decide only[go_sem,sI,sX,hl4,I]<;>first|rfl|exact⟨rfl,rfl⟩
 ·rw[←hH6];exact(by rintro (_|_|_|_|_) hp<;>first|(cases hp;done)|simp-implicitDefEqProofs+decide only[go_sem,hl4,bankR])
 ·simp-implicitDefEqProofs+decide only[go_sem,sX,sI,I]<;>first|rfl|skip
 ·simp-implicitDefEqProofs+decide only[go_sem]
 clear d1 d2 cr n1 n2 cD cC
 have hb:=hb6
 refine Goes.drawP mixed (Calm.of (by repeat first|exact Clean.und|refine Clean.upd ?_ rfl|refine Clean.upd ?_ (by simp only[cleanA,cleanL,])) (by repeat first|exact HCalm.none|exact HCalm.hb hb|exact HCalm.hb (bank_hb hb)|refine HCalm.row ?_|refine HCalm.box ?_ (by first|rfl|(simp only[cleanA,cleanL,];done)|assumption))) ?_
 simp-implicitDefEqProofs+decide only[go_sem,hl6,ofH,sX]
 refine CallD.make _ [(.obj 2,bankG md .nil k false)] 0 Tryz.call28 s1 rfl hb6 (by rintro (_|_|_|_|_) hp<;>first|(cases hp;done)|simp-implicitDefEqProofs+decide only[go_sem,hl6]) (fun l _=>rfl) rfl (.inr rfl) ?_
 simp-implicitDefEqProofs+decide only[go_sem,hl6,ofH,sX]
 refine CallD.make _ [(.obj 3,bankR md .nil k false)] 0 Tryz.call29 s2 rfl hb7 (by rintro (_|_|_|_|_) hp<;>first|(cases hp;done)|simp-implicitDefEqProofs+decide only[go_sem,hl6]) (fun l _=>rfl) rfl (.inr rfl) ?_
 refine Sm ?_
 refine CallD.P _ Tryz.call27 sm1 ?_
 refine Sm ?_
 refine CallD.look _ Tryz.call16 co rfl hb8 (by rw[←hH8];exact(by rintro (_|_|_|_|_) hp<;>first|(cases hp;done)|simp-implicitDefEqProofs+decide only[go_sem,hl6])) ?_
 simp-implicitDefEqProofs+decide only[go_sem,bankR,hl6]
 refine⟨.mk (by kernel_rfl),?_⟩
 apply run_sound 200
 have dk:decide ((k:Int)≠(k:Int))=false:=decide_eq_false (fun h=>h rfl)
 simp-implicitDefEqProofs+decide only[go_sem,dk,hl6,ofH,sI,I]
 refine CallG.pureS _ Tryz.call30 (cG) (by simp only[List.all_cons,List.all_nil,noPtr,noPtrL,noPtr_sW,noPtr_sI,noPtr_sV,noPtrL_U,noPtrL_I,noPtrL_vT,I,List.map_cons,List.map_nil,Bool.and_true,Bool.and_self]) (by first|rfl|(simp only[go_sem];done)|(simp only[go_sem];rfl)) ?_
 apply run_sound 200
 simp-implicitDefEqProofs+decide only[go_sem,hl6]
 refine Goes.wk (show Wk _ _ ⟨ofL [(8,.t (.ptr 0)),(9,.t (sX vs)),(10,.t (sI wh)),(13,.bp (.obj 1) 0),(14,.t (sX vs)),(15,.t (sI wh)),(16,.t (.ptr 2)),(17,.bp (.obj 3) 0),(18,.t (sL L))],ofH H8 [],4⟩ from Wk.boxes _ _ hb8 rfl rfl ?_ ?_ ?_ ?_) ?_
 ·simp-implicitDefEqProofs+decide only[go_sem]<;>first|rfl|skip
 ·rw[←hH8];exact(by rintro (_|_|_|_|_) hp<;>first|(cases hp;done)|simp-implicitDefEqProofs+decide only[go_sem,hl6,bankR])
 ·simp-implicitDefEqProofs+decide only[go_sem,sX,sI,I,sL]<;>first|rfl|skip
 ·simp-implicitDefEqProofs+decide only[go_sem]
 clear s1 s2 sm1 co cG
 have hb:=hb8
 refine Goes.drawP mixed (Calm.of (by repeat first|exact Clean.und|refine Clean.upd ?_ rfl|refine Clean.upd ?_ (by simp only[cleanA,cleanL,])) (by repeat first|exact HCalm.none|exact HCalm.hb hb|exact HCalm.hb (bank_hb hb)|refine HCalm.row ?_|refine HCalm.box ?_ (by first|rfl|(simp only[cleanA,cleanL,];done)|assumption))) ?_
 simp-implicitDefEqProofs+decide only[go_sem,hl8,ofH,sL]
 refine CallD.look _ Tryz.call31 cm rfl hb8 (by rintro (_|_|_|_|_) hp<;>first|(cases hp;done)|simp-implicitDefEqProofs+decide only[go_sem,hl8]) ?_
 simp-implicitDefEqProofs+decide only[go_sem,hL0,sI,List.length_map]
 refine CallD.look _ Tryz.call32 cn rfl hb8 (by rintro (_|_|_|_|_) hp<;>first|(cases hp;done)|simp-implicitDefEqProofs+decide only[go_sem,hl8]) ?_
 refine Sm ?_
 refine CallD.P _ Tryz.call27 sm2 ?_
 refine Sm ?_
 refine CallD.look _ Tryz.call31 cm0 rfl hb8 (by rintro (_|_|_|_|_) hp<;>first|(cases hp;done)|simp-implicitDefEqProofs+decide only[go_sem,hl8]) ?_
 refine Sm ?_
 refine CallD.P _ Tryz.call27 sm3 ?_
 refine Sm ?_
 refine CallD.look _ Tryz.call28 cs0 rfl hb8 (by rintro (_|_|_|_|_) hp<;>first|(cases hp;done)|simp-implicitDefEqProofs+decide only[go_sem,hl8]) ?_
 refine Sm ?_
 refine CallD.look _ Tryz.call32 cn0 rfl hb8 (by rintro (_|_|_|_|_) hp<;>first|(cases hp;done)|simp-implicitDefEqProofs+decide only[go_sem,hl8]) ?_
 refine Sm ?_
 refine CallD.P _ Tryz.call27 sm4 ?_
 refine Sm ?_
 refine⟨.mk (by kernel_rfl),?_⟩
 apply run_sound 200
 clear cm cn sm2 cm0 sm3 cs0 cn0 sm4
 simp-implicitDefEqProofs+decide only[go_sem,hl8,ofH]
 obtain⟨kF,mF,tF⟩:=sF
 unfold obR bankR at k81
 simp only[sB]at cbo
 dsimp only at*
 cases mF with
 | nil =>
   have ce:=errG_ok H8 4 0 kF md _ tF hb8 B8.o
   have co0:=opsG_ok H8 4 0 kF md _ tF hb8 B8.o
   have ct:=tieG_ok H8 4 0 kF md _ tF hb8 B8.o
   have cmt:=metG_ok H8 4 0 md ⟨kF,[],tF⟩ B8 (show(0:Nat)<100000 by decide)
   simp only[sB,List.map_nil]at cmt cbo
   have hnp:noPtrL ([]:List T)=true:=rfl
   have hHF:H8=HF:=hHF.symm
   subst hHF
   have hb9:=hb8
   have hl9:=hl8
   have k91:H8 (.obj 1)=some (.box [.t (.int .i64 md),.t (.int .i64 0),.t (.int .i64 kF),.nil,.t (.bool tF)]):=k81
   refine Goes.drawP mixed (Calm.of (by repeat first|exact Clean.und|refine Clean.upd ?_ rfl|refine Clean.upd ?_ (by simp only[cleanA,cleanL,])) (by repeat first|exact HCalm.none|exact HCalm.hb hb|exact HCalm.hb (bank_hb hb)|refine HCalm.row ?_|refine HCalm.box ?_ (by first|rfl|(simp only[cleanA,cleanL,];done)|assumption))) ?_
   simp-implicitDefEqProofs+decide only[go_sem,hl9,ofH]
   refine CallD.look _ Tryz.call17 ce rfl hb9 (by rintro (_|_|_|_|_) hp<;>first|(cases hp;done)|simp-implicitDefEqProofs+decide only[go_sem,hl9]) ?_
   simp-implicitDefEqProofs+decide only[go_sem,k91,hl9,sX]
   refine CallD.pure _ Tryz.call14 ca (by simp only[List.all_cons,List.all_nil,noPtr,noPtrL_Vx,Bool.and_self]) (by first|rfl|(simp only[go_sem];done)|(simp only[go_sem];rfl)) ?_
   simp-implicitDefEqProofs+decide only[go_sem,sI,I]
   refine CallD.pure _ Tryz.call33 ci (by simp only[List.all_cons,List.all_nil,noPtr,noPtrL_I,Bool.and_self]) (by first|rfl|(simp only[go_sem];done)|(simp only[go_sem];rfl)) ?_
   refine Sm ?_
   refine CallD.look _ Tryz.call16 co0 rfl hb9 (by rintro (_|_|_|_|_) hp<;>first|(cases hp;done)|simp-implicitDefEqProofs+decide only[go_sem,hl9]) ?_
   simp-implicitDefEqProofs+decide only[go_sem,k91,hl9]
   refine CallD.look _ Tryz.call35 cmt rfl hb9 (by rintro (_|_|_|_|_) hp<;>first|(cases hp;done)|simp-implicitDefEqProofs+decide only[go_sem,hl9]) ?_
   simp-implicitDefEqProofs+decide only[go_sem,k91,hl9]
   refine CallD.pure _ Tryz.call34 cbo (by simp only[List.all_cons,List.all_nil,noPtr,hnp,Bool.and_self]) (by first|rfl|(simp only[go_sem];done)|(simp only[go_sem];rfl)) ?_
   refine Sm ?_
   refine CallD.look _ Tryz.call36 ct rfl hb9 (by rintro (_|_|_|_|_) hp<;>first|(cases hp;done)|simp-implicitDefEqProofs+decide only[go_sem,hl9]) ?_
   simp-implicitDefEqProofs+decide only[go_sem,k91,hl9]
   refine CallD.P _ Tryz.call22 cs ?_
   refine Sm ?_
   refine⟨.mk (by kernel_rfl),?_⟩
   apply run_sound 200
   refine Sm ?_
   exact endF.vals [(6,.bool true)] (.inr rfl) (vals_t (by first|rfl|(simp-implicitDefEqProofs+decide only[go_sem];done)|(simp-implicitDefEqProofs+decide only[go_sem];rfl)) rfl vals_nil) (by rintro (_|_|_|_|_) hp<;>first|(cases hp;done)|simp-implicitDefEqProofs+decide only[go_sem,hl9]) rfl
 | cons a l =>
   have hmT:((a::l).map T.bool).length=l.length+1:=by simp
   have hnp:=noPtrL_B (a::l)
   have cmt':=metG_ok H8 4 0 md ⟨kF,a::l,tF⟩ B8 hmF
   have k81:H8 (.obj 1)=some (.box [.t (.int .i64 md),.t (.int .i64 0),.t (.int .i64 kF),.sl (.fld 1 3) l.length 0 (l.length+1),.t (.bool tF)]):=k81
   have k813:H8 (.fld 1 3)=some (.arr 1 ((a::l).map T.bool) l.length 0):=k813
   refine Goes.wk (Wk.still (l0:=.obj 1) (lab:=.fld 1 3) (j:=3) (size:=1) (ver:=l.length) (frz:=0) (es:=(a::l).map T.bool) (cs:=[.t (.int .i64 md),.t (.int .i64 0),.t (.int .i64 kF),.sl (.fld 1 3) l.length 0 (l.length+1),.t (.bool tF)]) ?_ ?_ ?_) ?_
   ·first|exact k81|simp-implicitDefEqProofs+decide only[go_sem,k81,ofH]
   ·rw[hmT];rfl
   ·first|exact k813|simp-implicitDefEqProofs+decide only[go_sem,k813,ofH]
   obtain⟨H9,hHe⟩:∃H9,HF=H9:=⟨_,rfl⟩
   rw[hHe]at hHF⊢
   have hH9:H9=upd (upd H8 (.fld 1 3) (some (.arr 1 ((a::l).map T.bool) l.length ((a::l).map T.bool).length))) (.obj 1) (some (.box [.t (.int .i64 md),.t (.int .i64 0),.t (.int .i64 kF),.t (.slice ((a::l).map T.bool)),.t (.bool tF)])):=hHF
   clear hHF
   have hb9:∀l,Lab.pool l=false→H9 l=none:=fun l hp=>by
    rw[hH9,upd_ne _ _ _ _ (fun e=>by subst e;cases hp),upd_ne _ _ _ _ (fun e=>by subst e;cases hp)]
    exact hb8 l hp
   have hF9:∀l,l≠.obj 1→l≠.fld 1 3→H9 l=H8 l:=fun l h1 h2=>by rw[hH9,upd_ne _ _ _ _ h1,upd_ne _ _ _ _ h2]
   have B9:BkM H9 0 4 (obG 0 md ⟨kF,a::l,tF⟩) (a::l):=⟨hb9,(hF9 _ (fun e=>by cases e) (fun e=>by cases e)).trans B8.o,(hF9 _ (fun e=>by cases e) (fun e=>by cases e)).trans B8.f⟩
   have k91:H9 (.obj 1)=some (.box [.t (.int .i64 md),.t (.int .i64 0),.t (.int .i64 kF),.t (.slice ((a::l).map T.bool)),.t (.bool tF)]):=by rw[hH9,upd_same]
   refine Goes.wk (show Wk _ _ ⟨ofL [(8,.t (.ptr 0)),(9,.t (sX vs)),(10,.t (sI wh)),(13,.bp (.obj 1) 0),(14,.t (sX vs)),(15,.t (sI wh)),(16,.t (.ptr 2)),(17,.bp (.obj 3) 0),(18,.t (sL L))],ofH H9 [],4⟩ from Wk.boxes _ _ hb9 rfl rfl ?_ ?_ ?_ ?_) ?_
   ·simp-implicitDefEqProofs+decide only[go_sem]<;>first|rfl|skip
   ·exact fun l hp=>by rw[hH9];rfl
   ·simp-implicitDefEqProofs+decide only[go_sem,sX,sI,I,sL]<;>first|rfl|skip
   ·simp-implicitDefEqProofs+decide only[go_sem]
   have hb:=hb9
   have hl9:∀e j,H9 (.loc e j)=none:=fun e j=>hb9 _ rfl
   have ce:=errG_ok H9 4 0 kF md _ tF hb9 B9.o
   have co0:=opsG_ok H9 4 0 kF md _ tF hb9 B9.o
   have ct:=tieG_ok H9 4 0 kF md _ tF hb9 B9.o
   have cmt:=metG_ok H9 4 0 md ⟨kF,a::l,tF⟩ B9 hmF
   simp only[sB]at cmt
   clear hH9 hF9 cmt' hmT k813
   generalize (a::l).map T.bool=mT at*
   refine Goes.drawP mixed (Calm.of (by repeat first|exact Clean.und|refine Clean.upd ?_ rfl|refine Clean.upd ?_ (by simp only[cleanA,cleanL,])) (by repeat first|exact HCalm.none|exact HCalm.hb hb|exact HCalm.hb (bank_hb hb)|refine HCalm.row ?_|refine HCalm.box ?_ (by first|rfl|(simp only[cleanA,cleanL,];done)|assumption))) ?_
   simp-implicitDefEqProofs+decide only[go_sem,hl9,ofH]
   refine CallD.look _ Tryz.call17 ce rfl hb9 (by rintro (_|_|_|_|_) hp<;>first|(cases hp;done)|simp-implicitDefEqProofs+decide only[go_sem,hl9]) ?_
   simp-implicitDefEqProofs+decide only[go_sem,k91,hl9,sX]
   refine CallD.pure _ Tryz.call14 ca (by simp only[List.all_cons,List.all_nil,noPtr,noPtrL_Vx,Bool.and_self]) (by first|rfl|(simp only[go_sem];done)|(simp only[go_sem];rfl)) ?_
   simp-implicitDefEqProofs+decide only[go_sem,sI,I]
   refine CallD.pure _ Tryz.call33 ci (by simp only[List.all_cons,List.all_nil,noPtr,noPtrL_I,Bool.and_self]) (by first|rfl|(simp only[go_sem];done)|(simp only[go_sem];rfl)) ?_
   refine Sm ?_
   refine CallD.look _ Tryz.call16 co0 rfl hb9 (by rintro (_|_|_|_|_) hp<;>first|(cases hp;done)|simp-implicitDefEqProofs+decide only[go_sem,hl9]) ?_
   simp-implicitDefEqProofs+decide only[go_sem,k91,hl9]
   refine CallD.look _ Tryz.call35 cmt rfl hb9 (by rintro (_|_|_|_|_) hp<;>first|(cases hp;done)|simp-implicitDefEqProofs+decide only[go_sem,hl9]) ?_
   simp-implicitDefEqProofs+decide only[go_sem,k91,hl9]
   refine CallD.pure _ Tryz.call34 cbo (by simp only[List.all_cons,List.all_nil,noPtr,hnp,Bool.and_self]) (by first|rfl|(simp only[go_sem];done)|(simp only[go_sem];rfl)) ?_
   refine Sm ?_
   refine CallD.look _ Tryz.call36 ct rfl hb9 (by rintro (_|_|_|_|_) hp<;>first|(cases hp;done)|simp-implicitDefEqProofs+decide only[go_sem,hl9]) ?_
   simp-implicitDefEqProofs+decide only[go_sem,k91,hl9]
   refine CallD.P _ Tryz.call22 cs ?_
   refine Sm ?_
   refine⟨.mk (by kernel_rfl),?_⟩
   apply run_sound 200
   refine Sm ?_
   exact endF.vals [(6,.bool true)] (.inr rfl) (vals_t (by first|rfl|(simp-implicitDefEqProofs+decide only[go_sem];done)|(simp-implicitDefEqProofs+decide only[go_sem];rfl)) rfl vals_nil) (by rintro (_|_|_|_|_) hp<;>first|(cases hp;done)|simp-implicitDefEqProofs+decide only[go_sem,hl9]) rfl
end Go.Fm
/- The law ReduceDoes, whole. -/
namespace Go.Fm
open Go.Proofs
set_option maxRecDepth 100000
attribute [local irreducible] tiOf

theorem reduceDoes_ok (md op o:Int) (x:Atr) (l:List Ag) (out:List Int) (hll:l.length<9000000000000000000) (hw:∀a∈l,∀s∈a.v,ScW s∧s.b<18446744073709551616):Pure Tryz.prog 5 [.int .i64 md,.int .i64 op,prT o x l out] [.t (.bool true)]:=by
 by_cases hmd:md=0∨md=1
 case neg=>exact reduceDoes_r md op o x l out (argsRightN_ok md hmd l)
 have cr:=argsRightX_ok md hmd l hll (fun hb a ha s hs=>⟨argsSOK (fun a ha s hs=>(hw a ha s hs).1) hb a ha s hs,(hw a ha s hs).2⟩)
 obtain⟨b,hb⟩:∃b,(!argsB l&&l.all fun a=>a.v.all (rightX md))=b:=⟨_,rfl⟩
 rw[hb]at cr
 cases b with
 |false=>exact reduceDoes_r md op o x l out cr
 | true =>
   rw[Bool.and_eq_true]at hb
   obtain⟨hb1,hb2⟩:=hb
   have hb1:argsB l=false:=by simpa using hb1
   obtain⟨_,hsh⟩:=short_of hb1
   by_cases h1:l.length=1∧x.list.length≤20
   case neg=>exact reduceDoes_n md op o x l out cr (by omega)
   obtain⟨h1,h20⟩:=h1
   obtain⟨a,rfl⟩:∃a,l=[a]:=by
    match l,h1 with
    |[a],_=>exact⟨a,rfl⟩
   obtain⟨x1,x2,x3⟩:=hsh a (.head _)
   simp only[List.all_cons,List.all_nil,Bool.and_true]at hb2
   by_cases h0:(redE op x a.d).2=0∧(a.v.length:Int)=cnt a.d
   case neg=>exact reduceDoes_no md op o hmd x a out cr h20 (by omega) (by omega) (by omega)
   obtain⟨xs,hxs,hxq⟩:=rightNumX hmd (fun s hs=>(hw a (.head _) s hs).1) (fun s hs=>(hw a (.head _) s hs).2) hb2 x3
   obtain⟨d,v⟩:=a
   dsimp only at hxs x1 h0
   subst hxs
   have cr2:Pure Tryz.prog 9 [.int .i64 md,.slice [argX d xs]] [.t (.bool true)]:=by rw[←Ag_sc];exact cr
   exact reduceDoes_yes md op o hmd x d xs out cr2 h20 (by omega) h0.1 (by rw[←h0.2,List.length_map]) hxq
theorem dat_i {n:Nat} {a:T} (h:Typed Tryz.prog (n+1) 3 [a]):∃z:Int,a=.int .i64 z:=by
 obtain⟨z,_,hz⟩:=Dat.int Tryz.underlying3 (dat1 (n:=n+1) (t:=3) (a:=a) (by simp[mkT,Tryz.underlying3]) h)
 exact⟨z,hz⟩
theorem dat_attr {n:Nat} {a0 a1 a2 a3 a4 a5 a6 a7 a8 a9:T} (h:Typed Tryz.prog (n+3) 44 [a0,a1,a2,a3,a4,a5,a6,a7,a8,a9]):∃x:Atr,a0=.int .i64 x.n∧a1=.int .i64 x.a∧a2=.int .i64 x.b∧a3=.int .i64 x.c∧a4=.int .i64 x.p∧a5=.int .i64 x.q∧a6=.int .i64 x.r∧a7=.int .i64 x.s∧a8=.bool x.keep∧a9=sI x.list:=by
 simp only[Typed,Tryz.underlying44]at h
 obtain⟨_,hf⟩:=h
 simp only[List.forall_mem_cons]at hf
 obtain⟨h0,h1,h2,h3,h4,h5,h6,h7,h8,h9,_⟩:=hf
 have c1:(Tryz.prog).cellsOf 3=1:=by kernel_rfl
 have c2:(Tryz.prog).cellsOf 4=1:=by kernel_rfl
 have c3:(Tryz.prog).cellsOf 22=1:=by kernel_rfl
 rw[c1]at h0 h1 h2 h3 h4 h5 h6 h7
 rw[c2]at h8
 rw[c3]at h9
 obtain⟨z0,e0⟩:=dat_i (n:=n+1) (a:=a0) h0
 obtain⟨z1,e1⟩:=dat_i (n:=n+1) (a:=a1) h1
 obtain⟨z2,e2⟩:=dat_i (n:=n+1) (a:=a2) h2
 obtain⟨z3,e3⟩:=dat_i (n:=n+1) (a:=a3) h3
 obtain⟨z4,e4⟩:=dat_i (n:=n+1) (a:=a4) h4
 obtain⟨z5,e5⟩:=dat_i (n:=n+1) (a:=a5) h5
 obtain⟨z6,e6⟩:=dat_i (n:=n+1) (a:=a6) h6
 obtain⟨z7,e7⟩:=dat_i (n:=n+1) (a:=a7) h7
 obtain⟨k,e8⟩:=Dat.bool Tryz.underlying4 (dat1 (n:=n+2) (t:=4) (a:=a8) (by simp[mkT,Tryz.underlying4]) h8)
 obtain⟨l,_,e9⟩:=dat_ints (dat1 (n:=n+2) (t:=22) (a:=a9) (by simp[mkT,Tryz.underlying22]) h9)
 exact⟨⟨z0,z1,z2,z3,z4,z5,z6,z7,k,l⟩,e0,e1,e2,e3,e4,e5,e6,e7,e8,e9⟩
theorem dat_prim {n:Nat} {x:T} (h:Dat Tryz.prog (n+8) 55 x):∃(op:Int) (a:Atr) (l:List Ag) (out:List Int),(l.length<9000000000000000000∧∀a∈l,∀s∈a.v,ScW s∧s.b<18446744073709551616)∧x=prT op a l out:=by
 obtain⟨ts,h,rfl⟩:=h
 unfold Typed at h
 simp only[Tryz.underlying55]at h
 obtain⟨hl,hf⟩:=h
 rw[show(Tryz.prog).cellsOf 55=13 by kernel_rfl]at hl
 match ts,hl with
 | [b0, a0, a1, a2, a3, a4, a5, a6, a7, a8, a9, t1, t2], _ =>
   have h0:=hf _ (.head _)
   have h1:=hf _ (.tail _ (.head _))
   have h2:=hf _ (.tail _ (.tail _ (.head _)))
   have h3:=hf _ (.tail _ (.tail _ (.tail _ (.head _))))
   clear hf
   dsimp only at h0 h1 h2 h3
   rw[show(Tryz.prog).cellsOf 3=1 by kernel_rfl]at h0
   rw[show(Tryz.prog).cellsOf 44=10 by kernel_rfl]at h1
   rw[show(Tryz.prog).cellsOf 27=1 by kernel_rfl]at h2
   rw[show(Tryz.prog).cellsOf 22=1 by kernel_rfl]at h3
   obtain⟨op,rfl⟩:=dat_i (n:=n+6) (a:=b0) h0
   obtain⟨a,e0,e1,e2,e3,e4,e5,e6,e7,e8,e9⟩:=dat_attr (n:=n+4) (a0:=a0) (a1:=a1) (a2:=a2) (a3:=a3) (a4:=a4) (a5:=a5) (a6:=a6) (a7:=a7) (a8:=a8) (a9:=a9) h1
   obtain⟨l,hl,el⟩:=Dat.slice (f:=Ag.T) (Q:=fun a=>∀s∈a.v,ScW s∧s.b<18446744073709551616) Tryz.underlying27 (fun x hx=>dat_arg (n:=n) hx) (dat1 (n:=n+7) (t:=27) (a:=t1) (by simp[mkT,Tryz.underlying27]) h2)
   rw[show(Tryz.prog).bytesOf 25=48 by kernel_rfl]at hl
   obtain⟨out,_,eo⟩:=dat_ints (dat1 (n:=n+7) (t:=22) (a:=t2) (by simp[mkT,Tryz.underlying22]) h3)
   refine⟨op,a,l,out,⟨by have:=hl.1;unfold reachBytes at this;omega,hl.2⟩,?_⟩
   rw[e0,e1,e2,e3,e4,e5,e6,e7,e8,e9,el,eo]
   simp only[mkT,Tryz.underlying55,prT,sA]
end Go.Fm
