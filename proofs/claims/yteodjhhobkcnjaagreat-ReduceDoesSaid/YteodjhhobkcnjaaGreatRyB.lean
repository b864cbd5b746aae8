/- Groups, by definition. -/
import Derived.Test.YteodjhhobkcnjaaGreatRyA
import Derived.Test.YteodjhhobkcnjaaGreatMyA
import Derived.Test.YteodjhhobkcnjaaGreatFyC
set_option linter.unusedVariables false
set_option linter.unusedSimpArgs false
namespace Go.Fm
open Go.Proofs
set_option maxRecDepth 100000
attribute [local irreducible] tiOf

theorem noPtrL_B (l:List Bool):noPtrL (l.map T.bool)=true:=by have:=noPtr_sB l;simpa only[sB,noPtr] using this
theorem rAlike_ok (a b:List Int) (mk:List Bool) (hb:b.length=a.length) (hm:mk.length=a.length) (hl:a.length<1000000000):Pure Tryz.prog 83 [sI a,sI b,sB mk] [.t (.bool (alikeB mk a b))]:=by
 unfold alikeB
 have h1:=zeroL_length (a:=a) hm
 have h2:=zeroL_length (a:=b) (show mk.length=b.length by omega)
 refine Pure.I Tryz.func83 [6] ?_
 simp-implicitDefEqProofs+decide only[go_sem,sI,sB]
 refine Goes.loop (X:=Nat) (fun i=>⟨ofL [(0,tI a),(1,tI b),(2,.t (sB mk)),(9,.t (.int .i64 a.length)),(10,.t (.int .i64 i))],fun _=>none,0⟩) (fun i=>i≤a.length∧(zeroL mk a).take i=(zeroL mk b).take i) (fun i=>a.length-i) 0 (Wk.slots _ rfl rfl (by simp-implicitDefEqProofs+decide only[go_sem,tI,sI,sB]) (by simp-implicitDefEqProofs+decide only[go_sem,tI,sI,sB])) (by simp) ?_
 rintro i ⟨hi,he⟩ J hJ
 apply run_sound 200
 simp-implicitDefEqProofs+decide only[go_sem,tI,sI,sB]
 refine selP_dec (fun hc=> ?_) (fun hc=> ?_)
 ·obtain⟨x,hx⟩:=getI (show i<a.length by omega)
  obtain⟨y,hy⟩:=getI (show i<b.length by omega)
  obtain⟨m,hmk⟩:=getI (show i<mk.length by omega)
  have hw:=wS (show i<1000000000000 by omega)
  have g1:=zeroL_get hx hmk
  have g2:=zeroL_get hy hmk
  cases m with
  | true =>
    refine Goes.drawN mixed ?_
    simp-implicitDefEqProofs+decide only[go_sem,hx,hy,hmk,I]
    refine⟨.mk (by kernel_rfl),?_⟩
    apply run_sound 200
    simp-implicitDefEqProofs+decide only[go_sem,hw]
    refine hJ (i+1) _ ⟨by omega,by rw[take_snoc g1,take_snoc g2,he];rfl⟩ (by omega) (Wk.slots _ rfl rfl (by simp-implicitDefEqProofs+decide only[go_sem,tI,sI,sB]) (by simp-implicitDefEqProofs+decide only[go_sem,tI,sI,sB]))
  | false =>
    by_cases hxy:x=y
    ·have d1:decide (x≠y)=false:=decide_eq_false (fun h=>h hxy)
     refine Goes.drawN mixed ?_
     simp-implicitDefEqProofs+decide only[go_sem,hx,hy,hmk,I,d1]
     refine⟨.mk (by kernel_rfl),?_⟩
     apply run_sound 200
     simp-implicitDefEqProofs+decide only[go_sem,hw]
     refine hJ (i+1) _ ⟨by omega,by rw[take_snoc g1,take_snoc g2,he,hxy]⟩ (by omega) (Wk.slots _ rfl rfl (by simp-implicitDefEqProofs+decide only[go_sem,tI,sI,sB]) (by simp-implicitDefEqProofs+decide only[go_sem,tI,sI,sB]))
    ·have d1:decide (x≠y)=true:=decide_eq_true hxy
     have hne:decide (zeroL mk a=zeroL mk b)=false:=decide_eq_false (fun e=>by
       rw[e,g2]at g1
       simp at g1
       exact hxy g1.symm)
     rw[hne]
     refine Goes.drawN mixed ?_
     simp-implicitDefEqProofs+decide only[go_sem,hx,hy,hmk,I,d1]
     refine⟨.mk (by kernel_rfl),?_⟩
     apply run_sound 200
     refine Sm ?_
     exact endF.V1 6 (.bool false)
 ·have:decide (zeroL mk a=zeroL mk b)=true:=decide_eq_true (by
    rwa [List.take_of_length_le (by omega),List.take_of_length_le (by omega)]at he)
  rw[this]
  refine Sm ?_
  exact endF.V1 6 (.bool true)

def gI (mk:List Bool) (d:List Int) (i k:Nat):List Int:=((List.range k).filter fun(j:Nat)=>alikeB mk (digL d (i:Int)) (digL d (j:Int))).map fun(j:Nat)=>(j:Int)
theorem gI_zero (mk:List Bool) (d:List Int) (i:Nat):gI mk d i 0=[]:=rfl
theorem gI_yes {mk:List Bool} {d:List Int} {i k:Nat} (h:alikeB mk (digL d (i:Int)) (digL d (k:Int))=true):gI mk d i (k+1)=gI mk d i k++[(k:Int)]:=by
 unfold gI;rw[List.range_succ,List.filter_append,List.map_append];simp[h]
theorem gI_no {mk:List Bool} {d:List Int} {i k:Nat} (h:alikeB mk (digL d (i:Int)) (digL d (k:Int))=false):gI mk d i (k+1)=gI mk d i k:=by
 unfold gI;rw[List.range_succ,List.filter_append,List.map_append];simp[h]
theorem gI_len (mk:List Bool) (d:List Int) (i k:Nat):(gI mk d i k).length≤k:=by
 unfold gI;rw[List.length_map];exact Nat.le_trans (List.length_filter_le _ _) (by simp)
def fI (mk:List Bool) (d:List Int) (i k:Nat):Bool:=(List.range k).all fun j=> !alikeB mk (digL d (i:Int)) (digL d (j:Int))||decide (i≤j)
theorem fI_succ (mk:List Bool) (d:List Int) (i k:Nat):fI mk d i (k+1)=(fI mk d i k&&(!alikeB mk (digL d (i:Int)) (digL d (k:Int))||decide (i≤k))):=by
 unfold fI;rw[List.range_succ,List.all_append];simp
def outR (mk:List Bool) (d:List Int) (N n:Nat):List (List Int):=((List.range n).filter fun i=>fI mk d i N).map fun i=>gI mk d i N
theorem outR_yes {mk:List Bool} {d:List Int} {N n:Nat} (h:fI mk d n N=true):outR mk d N (n+1)=outR mk d N n++[gI mk d n N]:=by
 unfold outR;rw[List.range_succ,List.filter_append,List.map_append];simp[h]
theorem outR_no {mk:List Bool} {d:List Int} {N n:Nat} (h:fI mk d n N=false):outR mk d N (n+1)=outR mk d N n:=by
 unfold outR;rw[List.range_succ,List.filter_append,List.map_append];simp[h]
theorem outR_len (mk:List Bool) (d:List Int) (N n:Nat):(outR mk d N n).length≤n:=by
 unfold outR;rw[List.length_map];exact Nat.le_trans (List.length_filter_le _ _) (by simp)
theorem outR_all {mk:List Bool} {d:List Int} (G:Grp mk d):outR mk d (prodL d).toNat (prodL d).toNat=groupsL mk d:=groups_ref G

theorem red0 {op:Int} {x:Atr} {d:List Int} (h:(redE op x d).2=0):redB op=true∧chk d=0∧axP d.length (axesI op x) (axesI op x).length∧redE op x d=(dropL (marksI d.length (axesI op x)) d x.keep,0):=by
 unfold redE at h⊢
 cases hr:redB op with
 |false=>rw[hr]at h;simp at h
 | true =>
   rw[hr,if_pos rfl]at h
   rw[if_pos rfl]
   unfold dropE at h⊢
   by_cases hc:chk d=0
   ·rw[if_neg (fun g=>g hc)]at h⊢
    by_cases ha:axP d.length (axesI op x) (axesI op x).length
    ·rw[if_pos ha];exact⟨rfl,hc,ha,rfl⟩
    ·rw[if_neg ha]at h;simp at h
   ·rw[if_pos hc]at h;exact absurd h hc
theorem grp_of {d:List Int} (hc:chk d=0) (ax:List Int):Grp (marksI d.length ax) d:=⟨hc,marksI_length _ _⟩

theorem rGroups_ok (op:Int) (x:Atr) (d:List Int) (hd:d.length<1000000000) (hl:x.list.length<9000000000000000000) (h0:(redE op x d).2=0):Pure Tryz.prog 30 [.int .i64 op,x.T,sI d] [.t (sL (groupsL (marksI d.length (axesI op x)) d))]:=by
 have c1:=rRedDims_ok op x d hd hl
 obtain⟨_,hc,hax,hrd⟩:=red0 h0
 have hG:=grp_of hc (axesI op x)
 have c2:=rAxesOf_ok op x
 have c3:=rAxes_gen d.length (axesI op x) _ (chk0 hc).1 (axesI_len op x hl) (fun h=>absurd hax h) (fun _=>rfl)
 have c4:=rAll_ok d hc
 have hN:=(chk0 hc).2.2
 have hml:=marksI_length d.length (axesI op x)
 rw[hrd]at c1
 dsimp only at c1
 generalize dropL (marksI d.length (axesI op x)) d x.keep=q at c1
 generalize marksI d.length (axesI op x)=mk at*
 generalize axesI op x=ax at*
 have hall:=outR_all hG
 obtain⟨N,hNe⟩:∃N,(prodL d).toNat=N:=⟨_,rfl⟩
 rw[hNe]at c4 hall
 rw[←hall]
 have hN64:N≤64:=by omega
 obtain⟨a1,a2,a3,a4,a5,a6,a7,a8,ak,al⟩:=x
 simp only[Atr.T,sI,sB,I]at c1 c2 c3 c4
 have hal:=allD_length d N
 refine Pure.I Tryz.func30 [6] ?_
 simp-implicitDefEqProofs+decide only[go_sem,sI,Atr.T,I]
 refine CallG.pureS _ Tryz.call24 (c1) (by simp only[List.all_cons,List.all_nil,noPtr,noPtrL,noPtr_sW,noPtr_sI,noPtr_sV,noPtrL_U,noPtrL_I,noPtrL_vT,I,List.map_cons,List.map_nil,Bool.and_true,Bool.and_self]) (by first|rfl|(simp only[go_sem];done)|(simp only[go_sem];rfl)) ?_
 apply run_sound 200
 refine Sm ?_
 refine CallG.pureS _ Tryz.call77 (c2) (by simp only[List.all_cons,List.all_nil,noPtr,noPtrL,noPtr_sW,noPtr_sI,noPtr_sV,noPtrL_U,noPtrL_I,noPtrL_vT,I,List.map_cons,List.map_nil,Bool.and_true,Bool.and_self]) (by first|rfl|(simp only[go_sem];done)|(simp only[go_sem];rfl)) ?_
 apply run_sound 200
 simp-implicitDefEqProofs+decide only[go_sem,List.length_map]
 refine CallG.pureS _ Tryz.call81 (c3) (by simp only[List.all_cons,List.all_nil,noPtr,noPtrL,noPtr_sW,noPtr_sI,noPtr_sV,noPtrL_U,noPtrL_I,noPtrL_vT,I,List.map_cons,List.map_nil,Bool.and_true,Bool.and_self]) (by first|rfl|(simp only[go_sem];done)|(simp only[go_sem];rfl)) ?_
 apply run_sound 200
 refine Sm ?_
 refine CallG.pureS _ Tryz.call82 (c4) (by simp only[List.all_cons,List.all_nil,noPtr,noPtrL,noPtr_sW,noPtr_sI,noPtr_sV,noPtrL_U,noPtrL_I,noPtrL_vT,I,List.map_cons,List.map_nil,Bool.and_true,Bool.and_self]) (by first|rfl|(simp only[go_sem];done)|(simp only[go_sem];rfl)) ?_
 apply run_sound 200
 simp-implicitDefEqProofs+decide only[go_sem,sL,List.length_map,hal]
 refine Goes.wk (Wk.nilRow (d:=12) (lab:=.loc 101 0) (size:=1) (by simp-implicitDefEqProofs+decide only[go_sem]) (by simp-implicitDefEqProofs+decide only[go_sem]) rfl (by decide)) ?_
 refine Goes.loop (X:=Nat) (fun i=>⟨ofL [(9,.t (sB mk)),(11,.t (sL (allD d N))),(12,.sl (.loc 101 0) (outR mk d N i).length 0 (outR mk d N i).length),(38,.t (.int .i64 N)),(39,.t (.int .i64 i))],
   ofH (fun _=>none) [(.loc 101 0,.arr 1 ((outR mk d N i).map sI) (outR mk d N i).length 0)],0⟩) (fun i=>i≤N) (fun i=>N-i) 0 ?_ (by omega) ?_
 ·exact(Wk.rows _ _ (fun _ _=>rfl) rfl rfl (by simp-implicitDefEqProofs+decide only[go_sem,ofH,tW,sW,sB,sL]<;>first|rfl|exact⟨rfl,rfl⟩|skip) (fun l hp=>by cases l<;>first|rfl|cases hp) (by simp-implicitDefEqProofs+decide only[go_sem,tI,sI,tW,sW,sB,sL]<;>first|rfl|skip) (by simp-implicitDefEqProofs+decide only[go_sem,tI,sI,tW,sW]))
 rintro i hi J hJ
 apply run_sound 200
 refine Sm ?_
 have hol:=outR_len mk d N i
 refine selP_dec (fun hc1=> ?_) (fun hc1=> ?_)
 ·have hwi := wS (show i < 1000000000000 by omega)
  have hgi:=allD_get (d:=d) (show i<N by omega)
  refine Sm ?_
  refine Goes.wk (Wk.nilRow (d:=15) (lab:=.loc 102 0) (size:=1) (by simp-implicitDefEqProofs+decide only[go_sem]) (by simp-implicitDefEqProofs+decide only[go_sem]) rfl (by decide)) ?_
  refine Goes.loop (X:=Nat) (fun k=>⟨ofL [(9,.t (sB mk)),(11,.t (sL (allD d N))),(12,.sl (.loc 101 0) (outR mk d N i).length 0 (outR mk d N i).length),(13,.t (.int .i64 i)),(14,.t (.bool (fI mk d i k))),(15,.sl (.loc 102 0) (gI mk d i k).length 0 (gI mk d i k).length),(38,.t (.int .i64 N)),(39,.t (.int .i64 i)),(43,.t (.int .i64 N)),(44,.t (.int .i64 k))],
    ofH (fun _=>none) [(.loc 101 0,.arr 1 ((outR mk d N i).map sI) (outR mk d N i).length 0),(.loc 102 0,.arr 1 ((gI mk d i k).map I) (gI mk d i k).length 0)],0⟩) (fun k=>k≤N) (fun k=>N-k) 0 ?_ (by omega) ?_
  ·have hf0:fI mk d i 0=true:=rfl
   have hg0:=gI_zero mk d i
   exact(Wk.rows _ _ (fun _ _=>rfl) rfl rfl (by simp-implicitDefEqProofs+decide only[go_sem,ofH,tW,sW,sB,sL,hal,hf0,hg0,List.length_nil]<;>first|rfl|exact⟨rfl,rfl⟩|skip) (fun l hp=>by cases l<;>first|rfl|cases hp) (by simp-implicitDefEqProofs+decide only[go_sem,tI,sI,tW,sW,sB,sL,hal,hf0,hg0,List.length_nil]<;>first|rfl|skip) (by simp-implicitDefEqProofs+decide only[go_sem,tI,sI,tW,sW]))
  rintro k hk J2 hJ2
  apply run_sound 200
  refine Sm ?_
  have hgl:=gI_len mk d i k
  refine selP_dec (fun hc2=> ?_) (fun hc2=> ?_)
  ·have hwk:=wS (show k<1000000000000 by omega)
   have hgk:=allD_get (d:=d) (show k<N by omega)
   have ca:=rAlike_ok (digL d (i:Int)) (digL d (k:Int)) mk (by rw[digL_length,digL_length]) (by rw[digL_length];exact hml) (by rw[digL_length];omega)
   have hfs:=fI_succ mk d i k
   obtain⟨b,hb⟩:∃b,alikeB mk (digL d (i:Int)) (digL d (k:Int))=b:=⟨_,rfl⟩
   rw[hb]at ca hfs
   simp only[sI,sB]at ca
   obtain⟨f,hf⟩:∃f,fI mk d i k=f:=⟨_,rfl⟩
   rw[hf]at hfs⊢
   cases b with
   | false =>
     have hgs:=gI_no hb
     simp only[Bool.not_false,Bool.true_or,Bool.and_true]at hfs
     refine Goes.drawN mixed ?_
     simp-implicitDefEqProofs+decide only[go_sem,sL,sB,hgi,hgk,sI]
     refine CallD.pure _ Tryz.call83 ca (by simp only[List.all_cons,List.all_nil,noPtr,noPtrL,noPtrL_I,noPtrL_B,Bool.and_self]) (by first|rfl|(simp only[go_sem];done)|(simp only[go_sem];rfl)) ?_
     refine Sm ?_
     refine⟨.mk (by kernel_rfl),?_⟩
     apply run_sound 200
     simp-implicitDefEqProofs+decide only[go_sem,ofH,hwk]
     refine hJ2 (k+1) _ (by omega) (by omega) (Wk.rows _ _ (fun _ _=>rfl) rfl rfl (by simp-implicitDefEqProofs+decide only[go_sem,ofH,tW,sW,sB,sL,hfs,hgs]<;>first|rfl|exact⟨rfl,rfl⟩|skip) (fun l hp=>by cases l<;>first|rfl|cases hp) (by simp-implicitDefEqProofs+decide only[go_sem,tI,sI,tW,sW,sB,sL,hfs,hgs]<;>first|rfl|skip) (by simp-implicitDefEqProofs+decide only[go_sem,tI,sI,tW,sW]))
   | true =>
     have hgs:=gI_yes hb
     simp only[Bool.not_true,Bool.false_or]at hfs
     generalize gI mk d i k=L at*
     have hnb:L.length+1<big:=by unfold big;omega
     have hlen:(L++[(k:Int)]).length=L.length+1:=by simp
     have hmap:L.map I++[.int .i64 (k:Int)]=(L++[(k:Int)]).map I:=by simp[I]
     generalize L++[(k:Int)]=L' at hgs hlen hmap
     refine Goes.drawN mixed ?_
     simp-implicitDefEqProofs+decide only[go_sem,sL,sB,hgi,hgk,sI]
     refine CallD.pure _ Tryz.call83 ca (by simp only[List.all_cons,List.all_nil,noPtr,noPtrL,noPtrL_I,noPtrL_B,Bool.and_self]) (by first|rfl|(simp only[go_sem];done)|(simp only[go_sem];rfl)) ?_
     refine Sm ?_
     refine⟨.mk (by kernel_rfl),?_⟩
     apply run_sound 200
     cases f with
     | false =>
       simp only[Bool.false_and]at hfs
       simp-implicitDefEqProofs+decide only[go_sem,ofH,hnb,hmap,List.length_map,hwk]
       refine hJ2 (k+1) _ (by omega) (by omega) (Wk.rows _ _ (fun _ _=>rfl) rfl rfl (by simp-implicitDefEqProofs+decide only[go_sem,ofH,tW,sW,sB,sL,hfs,hgs,hlen]<;>first|rfl|exact⟨rfl,rfl⟩|skip) (fun l hp=>by cases l<;>first|rfl|cases hp) (by simp-implicitDefEqProofs+decide only[go_sem,tI,sI,tW,sW,sB,sL,hfs,hgs,hlen]<;>first|rfl|skip) (by simp-implicitDefEqProofs+decide only[go_sem,tI,sI,tW,sW]))
     | true =>
       simp only[Bool.true_and]at hfs
       simp-implicitDefEqProofs+decide only[go_sem,ofH,hnb,hmap,List.length_map,hwk]
       refine hJ2 (k+1) _ (by omega) (by omega) (Wk.rows _ _ (fun _ _=>rfl) rfl rfl (by simp-implicitDefEqProofs+decide only[go_sem,ofH,tW,sW,sB,sL,hfs,hgs,hlen]<;>first|rfl|exact⟨rfl,rfl⟩|skip) (fun l hp=>by cases l<;>first|rfl|cases hp) (by simp-implicitDefEqProofs+decide only[go_sem,tI,sI,tW,sW,sB,sL,hfs,hgs,hlen]<;>first|rfl|skip) (by simp-implicitDefEqProofs+decide only[go_sem,tI,sI,tW,sW]))
  ·obtain rfl:k=N:=by omega
   obtain⟨f,hf⟩:∃f,fI mk d i k=f:=⟨_,rfl⟩
   rw[hf]
   cases f with
   | false =>
     have hos:=outR_no hf
     simp-implicitDefEqProofs+decide only[go_sem,ofH,hwi]
     refine hJ (i+1) _ (by omega) (by omega) (Wk.rows _ _ (fun _ _=>rfl) rfl rfl (by simp-implicitDefEqProofs+decide only[go_sem,ofH,tW,sW,sB,sL,hos]<;>first|rfl|exact⟨rfl,rfl⟩|skip) (fun l hp=>by cases l<;>first|rfl|cases hp) (by simp-implicitDefEqProofs+decide only[go_sem,tI,sI,tW,sW,sB,sL,hos]<;>first|rfl|skip) (by simp-implicitDefEqProofs+decide only[go_sem,tI,sI,tW,sW]))
   | true =>
     have hos:=outR_yes hf
     generalize outR mk d k i=L at*
     have hnb:L.length+1<big:=by unfold big;omega
     generalize gI mk d i k=g at*
     have hlen:(L++[g]).length=L.length+1:=by simp
     have hmap:L.map sI++[.slice (g.map I)]=(L++[g]).map sI:=by simp[sI]
     generalize L++[g]=L' at hos hlen hmap
     have htk:List.take g.length (g.map I)=g.map I:=List.take_of_length_le (by simp)
     simp-implicitDefEqProofs+decide only[go_sem,ofH,hnb,hmap,htk,List.length_map,List.drop_zero,hwi]
     refine hJ (i+1) _ (by omega) (by omega) (Wk.rows _ _ (fun _ _=>rfl) rfl rfl (by simp-implicitDefEqProofs+decide only[go_sem,ofH,tW,sW,sB,sL,hos,hlen]<;>first|rfl|exact⟨rfl,rfl⟩|skip) (fun l hp=>by cases l<;>first|rfl|cases hp) (by simp-implicitDefEqProofs+decide only[go_sem,tI,sI,tW,sW,sB,sL,hos,hlen]<;>first|rfl|skip) (by simp-implicitDefEqProofs+decide only[go_sem,tI,sI,tW,sW]))
 ·obtain rfl:i=N:=by omega
  simp-implicitDefEqProofs+decide only[go_sem,ofH]
  exact endF.row1 (.inr rfl) (by simp-implicitDefEqProofs+decide only[go_sem];rfl) (by simp-implicitDefEqProofs+decide only[go_sem,ofH];rfl) (by rw[List.length_map]) (fun l hp=>by cases l<;>first|rfl|cases hp) rfl
end Go.Fm
/- Groups, in the program. -/
namespace Go.Fm
open Go.Proofs
set_option maxRecDepth 100000
attribute [local irreducible] tiOf

def zeroP (mk:List Bool) (D:List Int) (i:Nat):List Int:=(List.range D.length).map fun j=>if j<i∧mk.getD j false=true then 0 else D.getD j 0
theorem zeroP_length (mk:List Bool) (D:List Int) (i:Nat):(zeroP mk D i).length=D.length:=by simp[zeroP]
theorem zeroP_get {mk:List Bool} {D:List Int} {i j:Nat} (h:j<D.length):(zeroP mk D i)[j]?=some (if j<i∧mk.getD j false=true then 0 else D.getD j 0):=by simp[zeroP,h]
theorem zeroP_zero (mk:List Bool) (D:List Int):zeroP mk D 0=D:=by
 apply List.ext_getElem?
 intro j
 rcases Nat.lt_or_ge j D.length with h|h
 ·rw[zeroP_get h,if_neg (by omega),List.getD_eq_getElem?_getD,List.getElem?_eq_getElem h];rfl
 ·rw[List.getElem?_eq_none (by rw[zeroP_length];exact h),List.getElem?_eq_none h]
theorem zeroP_set {mk:List Bool} {D:List Int} {i:Nat} (h:i<D.length) (hm:mk[i]?=some true):(zeroP mk D i).set i 0=zeroP mk D (i+1):=by
 apply List.ext_getElem?
 intro j
 rcases Nat.lt_or_ge j D.length with g|g
 ·rw[List.getElem?_set,zeroP_get g,zeroP_get g,zeroP_length]
  by_cases e:i=j
  ·subst e;rw[if_pos rfl,if_pos h,if_pos ⟨by omega,by rw[List.getD_eq_getElem?_getD,hm];rfl⟩]
  ·rw[if_neg e]
   congr 1
   by_cases c:j<i∧mk.getD j false=true
   ·rw[if_pos c,if_pos ⟨by omega,c.2⟩]
   ·rw[if_neg c,if_neg (fun c'=>c ⟨by omega,c'.2⟩)]
 ·rw[List.getElem?_eq_none (by simp[zeroP_length];exact g),List.getElem?_eq_none (by rw[zeroP_length];exact g)]
theorem zeroP_skip {mk:List Bool} {D:List Int} {i:Nat} (hm:mk[i]?=some false):zeroP mk D i=zeroP mk D (i+1):=by
 unfold zeroP
 refine List.map_congr_left fun j _=> ?_
 by_cases c:j<i∧mk.getD j false=true
 ·rw[if_pos c,if_pos ⟨by omega,c.2⟩]
 ·rw[if_neg c,if_neg (fun c'=>by
    rcases Nat.lt_or_ge j i with g|g
    ·exact c ⟨g,c'.2⟩
    · have : j = i := by omega
      subst this
      have:=c'.2
      rw[List.getD_eq_getElem?_getD,hm]at this
      cases this)]
theorem zeroP_full {mk:List Bool} {D:List Int} (h:mk.length=D.length):zeroP mk D D.length=zeroL mk D:=by
 apply List.ext_getElem?
 intro j
 rcases Nat.lt_or_ge j D.length with g|g
 ·obtain⟨x,hx⟩:=getI g
  obtain⟨b,hb⟩:=getI (show j<mk.length by omega)
  rw[zeroP_get g,zeroL_get hx hb,List.getD_eq_getElem?_getD,hb,List.getD_eq_getElem?_getD,hx]
  cases b<;>simp[g]
 ·rw[List.getElem?_eq_none (by rw[zeroP_length];exact g),List.getElem?_eq_none (by rw[zeroL_length h];exact g)]

theorem grpL_yes {mk:List Bool} {d:List Int} {n k:Nat} (h:keyG mk d n=k):grpL mk d (n+1) k=grpL mk d n k++[(n:Int)]:=by
 unfold grpL;rw[List.range_succ,List.filter_append,List.map_append];simp[h]
theorem grpL_no {mk:List Bool} {d:List Int} {n k:Nat} (h:keyG mk d n≠k):grpL mk d (n+1) k=grpL mk d n k:=by
 unfold grpL;rw[List.range_succ,List.filter_append,List.map_append];simp[h]
theorem grpL_len (mk:List Bool) (d:List Int) (n k:Nat):(grpL mk d n k).length≤n:=by
 unfold grpL;rw[List.length_map];exact Nat.le_trans (List.length_filter_le _ _) (by simp)
def cellsG (mk:List Bool) (d:List Int) (K n:Nat):List AV:=(List.range K).map fun k=>.sl (.loc 200 k) (grpL mk d n k).length 0 (grpL mk d n k).length
def rowG' (mk:List Bool) (d:List Int) (n k:Nat):Obj:=.arr 1 ((grpL mk d n k).map I) (grpL mk d n k).length 0
def heapG (mk:List Bool) (d:List Int) (K n:Nat):Heap:=rowsH (fun _=>none) 200 K (rowG' mk d n)
theorem cellsG_length (mk:List Bool) (d:List Int) (K n:Nat):(cellsG mk d K n).length=K:=by simp[cellsG]
theorem cellsG_get {mk:List Bool} {d:List Int} {K n k:Nat} (h:k<K):(cellsG mk d K n)[k]?=some (.sl (.loc 200 k) (grpL mk d n k).length 0 (grpL mk d n k).length):=by simp[cellsG,h]
theorem cellsG_set {mk:List Bool} {d:List Int} {K n k:Nat} (hk:k<K) (h:keyG mk d n=k):(cellsG mk d K n).set k (.sl (.loc 200 k) ((grpL mk d n k).length+1) 0 ((grpL mk d n k).length+1))=cellsG mk d K (n+1):=by
 apply List.ext_getElem?
 intro j
 rcases Nat.lt_or_ge j K with g|g
 ·rw[List.getElem?_set,cellsG_get g,cellsG_get g,cellsG_length]
  by_cases e:k=j
  ·subst e
   rw[if_pos rfl,if_pos hk,grpL_yes h]
   simp
  ·rw[if_neg e,grpL_no (fun e'=>e (h.symm.trans e'))]
 ·rw[List.getElem?_eq_none (by simp[cellsG_length];exact g),List.getElem?_eq_none (by rw[cellsG_length];exact g)]
theorem cellsG_refs {mk:List Bool} {d:List Int} {K n:Nat} {c:AV} (h:c∈cellsG mk d K n):∃k ver off len,k<K∧c=.sl (.loc 200 k) ver off len:=by
 obtain⟨k,hk,rfl⟩:=List.mem_map.1 h
 exact⟨k,_,_,_,List.mem_range.1 hk,rfl⟩
theorem heapG_get {mk:List Bool} {d:List Int} {K n k:Nat} (h:k<K):heapG mk d K n (.loc 200 k)=some (.arr 1 ((grpL mk d n k).map I) (grpL mk d n k).length 0):=rowsH_get h
theorem heapG_loc {mk:List Bool} {d:List Int} {K n:Nat} {e j:Nat} (h:e≠200):heapG mk d K n (.loc e j)=none:=by unfold heapG;rw[rowsH_loc,if_neg h]
theorem heapG_pool {mk:List Bool} {d:List Int} {K n:Nat} {l:Lab} (h:Lab.pool l=true):heapG mk d K n l=none:=by unfold heapG;rw[rowsH_pool h]
theorem heapG_arg (mk:List Bool) (d:List Int) (K n i:Nat):heapG mk d K n (.arg i)=none:=rfl
theorem heapG_obj (mk:List Bool) (d:List Int) (K n i:Nat):heapG mk d K n (.obj i)=none:=rfl
theorem heapG_fld (mk:List Bool) (d:List Int) (K n i j:Nat):heapG mk d K n (.fld i j)=none:=rfl
end Go.Fm
/- Groups, in the program: the walk. -/
namespace Go.Fm
open Go.Proofs
set_option maxRecDepth 100000
attribute [local irreducible] tiOf

theorem redGroups_ok (op:Int) (x:Atr) (d:List Int) (hd:d.length<1000000000) (hl:x.list.length<9000000000000000000) (h0:(redE op x d).2=0):Pure Tryz.prog 73 [.int .i64 op,x.T,sI d] [.t (sL (groupsL (marksI d.length (axesI op x)) d))]:=by
 have c1:=redDims_ok op x d hd hl
 obtain⟨_,hc,hax,hrd⟩:=red0 h0
 have hG:=grp_of hc (axesI op x)
 have c2:=axes_ok op x
 have c3:=axesS_gen d.length (axesI op x) _ (chk0 hc).1 (axesI_len op x hl) (fun h=>absurd hax h) (fun _=>rfl)
 have c4:=drop_ok d (axesI op x) true hd (axesI_len op x hl)
 have hde:dropE d (axesI op x) true=(keptL (marksI d.length (axesI op x)) d,0):=by unfold dropE;rw[if_neg (fun h=>h hc),if_pos hax,dropL_keep]
 rw[hde]at c4
 have hml:=marksI_length d.length (axesI op x)
 rw[hrd]at c1
 dsimp only at c1 c4
 generalize dropL (marksI d.length (axesI op x)) d x.keep=q at c1
 generalize marksI d.length (axesI op x)=mk at*
 generalize axesI op x=ax at*
 have hkc:=kept_chk hc hml
 have hkl:=keptL_length hml
 have d6:=(chk0 hc).1
 have c5:=count_ok (keptL mk d) (by omega)
 have c6:=count_ok d hd
 have hcd:cnt d=prodL d:=by unfold cnt;rw[if_pos hc]
 have hck:cnt (keptL mk d)=prodL (keptL mk d):=by unfold cnt;rw[if_pos hkc.1]
 have hN:=(chk0 hc).2.2
 have hK:=(chk0 hkc.1).2.2
 obtain⟨N,hNe⟩:∃N:Nat,prodL d=(N:Int):=⟨(prodL d).toNat,by omega⟩
 obtain⟨K,hKe⟩:∃K:Nat,prodL (keptL mk d)=(K:Int):=⟨(prodL (keptL mk d)).toNat,by omega⟩
 rw[hcd,hNe]at c6
 rw[hck,hKe]at c5
 have hres:groupsL mk d=(List.range K).map (grpL mk d N):=by unfold groupsL;rw[hNe,hKe,Int.toNat_natCast,Int.toNat_natCast]
 rw[hres]
 have hN64:N≤64:=by omega
 have hK64:K≤64:=by omega
 have hKey:=fun n=>hG.key_eq n
 obtain⟨kd,hkd⟩:∃kd,keptL mk d=kd:=⟨_,rfl⟩
 rw[hkd]at c4 c5 hkl
 rw[hkd]at hKe
 simp only[hkd,hKe]at hKey
 obtain⟨a1,a2,a3,a4,a5,a6,a7,a8,ak,al⟩:=x
 simp only[Atr.T,sI,sB,I]at c1 c2 c3 c4 c5 c6
 have hKb:K<big:=by unfold big;omega
 have hK0:(0:Int)≤(K:Int):=by omega
 have hcells0:(List.range K).map (fun k=>AV.sl (.loc 200 k) 0 0 0)=cellsG mk d K 0:=by
  unfold cellsG;exact List.map_congr_left fun k _=>rfl
 have hrow0:rowG' mk d 0=fun _=>.arr 1 [] 0 0:=by funext k;rfl
 refine Pure.intro Tryz.func73 rfl (rt:=[6]) rfl (by simp[Tryz.ntmps73]) (by decide) (sites:=fun d=>d==49) (Goes.weakF ?_)
 apply run_sound 200
 simp-implicitDefEqProofs+decide only[go_sem,sI,Atr.T,I]
 refine CallG.pureS _ Tryz.call128 (c1) (by simp only[List.all_cons,List.all_nil,noPtr,noPtrL,noPtr_sW,noPtr_sI,noPtr_sV,noPtrL_U,noPtrL_I,noPtrL_vT,I,List.map_cons,List.map_nil,Bool.and_true,Bool.and_self]) (by first|rfl|(simp only[go_sem];done)|(simp only[go_sem];rfl)) ?_
 apply run_sound 200
 refine Sm ?_
 refine CallG.pureS _ Tryz.call130 (c2) (by simp only[List.all_cons,List.all_nil,noPtr,noPtrL,noPtr_sW,noPtr_sI,noPtr_sV,noPtrL_U,noPtrL_I,noPtrL_vT,I,List.map_cons,List.map_nil,Bool.and_true,Bool.and_self]) (by first|rfl|(simp only[go_sem];done)|(simp only[go_sem];rfl)) ?_
 apply run_sound 200
 simp-implicitDefEqProofs+decide only[go_sem,List.length_map]
 refine CallG.pureS _ Tryz.call129 (c3) (by simp only[List.all_cons,List.all_nil,noPtr,noPtrL,noPtr_sW,noPtr_sI,noPtr_sV,noPtrL_U,noPtrL_I,noPtrL_vT,I,List.map_cons,List.map_nil,Bool.and_true,Bool.and_self]) (by first|rfl|(simp only[go_sem];done)|(simp only[go_sem];rfl)) ?_
 apply run_sound 200
 refine Sm ?_
 refine CallG.pureS _ Tryz.call130 (c2) (by simp only[List.all_cons,List.all_nil,noPtr,noPtrL,noPtr_sW,noPtr_sI,noPtr_sV,noPtrL_U,noPtrL_I,noPtrL_vT,I,List.map_cons,List.map_nil,Bool.and_true,Bool.and_self]) (by first|rfl|(simp only[go_sem];done)|(simp only[go_sem];rfl)) ?_
 apply run_sound 200
 refine Sm ?_
 refine CallG.pureS _ Tryz.call131 (c4) (by simp only[List.all_cons,List.all_nil,noPtr,noPtrL,noPtr_sW,noPtr_sI,noPtr_sV,noPtrL_U,noPtrL_I,noPtrL_vT,I,List.map_cons,List.map_nil,Bool.and_true,Bool.and_self]) (by first|rfl|(simp only[go_sem];done)|(simp only[go_sem];rfl)) ?_
 apply run_sound 200
 refine Sm ?_
 refine CallG.pure _ Tryz.call54 (c5) (by simp only[List.all_cons,List.all_nil,noPtr,noPtrL,noPtr_sW,noPtr_sI,noPtr_sV,noPtrL_U,noPtrL_I,noPtrL_vT,I,List.map_cons,List.map_nil,Bool.and_true,Bool.and_self]) (by first|rfl|(simp only[go_sem];done)|(simp only[go_sem];rfl)) ?_
 apply run_sound 200
 simp-implicitDefEqProofs+decide only[go_sem,hKb,hK0,Int.toNat_natCast]
 refine CallG.pure _ Tryz.call54 (c6) (by simp only[List.all_cons,List.all_nil,noPtr,noPtrL,noPtr_sW,noPtr_sI,noPtr_sV,noPtrL_U,noPtrL_I,noPtrL_vT,I,List.map_cons,List.map_nil,Bool.and_true,Bool.and_self]) (by first|rfl|(simp only[go_sem];done)|(simp only[go_sem];rfl)) ?_
 apply run_sound 200
 refine Sm ?_
 refine Goes.wk (Wk.nilCells (d0:=49) (j0:=0) (D:=200) (K:=K) (by simp-implicitDefEqProofs+decide only[go_sem]<;>rfl) (by decide) (fun k=>by simp-implicitDefEqProofs+decide only[go_sem]<;>rfl)) ?_
 refine Goes.loop (X:=Nat) (fun n=>⟨ofL [(2,tI d),(9,.t (sB mk)),(11,tI kd),(13,.sb (.loc 49 0) K),(51,.t (.int .i64 N)),(52,.t (.int .i64 n))],ofH (heapG mk d K n) [(.loc 49 0,.box (cellsG mk d K n))],0⟩) (fun n=>n≤N) (fun n=>N-n) 0 ?_ (by omega) ?_
 ·refine Wk.nest _ [(.loc 49 0,.box (cellsG mk d K 0))] 200 K (rowG' mk d 0) (fun _ _=>rfl) rfl rfl rfl (fun k _=>⟨_,_,_,_,rfl⟩) ?_ (fun k hk=> ?_) ?_ ?_ ?_ ?_
  ·intro p hp
   simp only[List.mem_cons,List.not_mem_nil,or_false]at hp
   subst hp
   dsimp only
   rw[rowsH_loc,if_neg (by decide),upd_same,hcells0]
  ·dsimp only
   rw[rowsH_get hk,hrow0]
  ·intro lab hp
   dsimp only
   rw[rowsH_pool hp]
   cases lab<;>first|rfl|cases hp
  ·simp-implicitDefEqProofs+decide only[go_sem,tI,sI,sB]<;>rfl
  ·simp-implicitDefEqProofs+decide only[go_sem,tI,sI,sB]
  ·intro p hp cs hcs c hcm
   simp only[List.mem_cons,List.not_mem_nil,or_false]at hp
   subst hp
   cases hcs
   exact .inr (cellsG_refs hcm)
 rintro n hn J hJ
 apply run_sound 200
 refine SmI ?_
 refine selP_dec (fun hc1=> ?_) (fun hc1=> ?_)
 ·have hw := wS (show n < 1000000000000 by omega)
  have c7:=at_own d (n:Int) hd (by omega)
  have hdl:=digL_length d (n:Int)
  have hDin:=digit_in (n:=(n:Int)) hc
  have hz:=(zeroL_in hDin hml).1
  rw[hkd]at hz
  have hk1:=hKey n
  obtain⟨D,hD⟩:∃D,digL d (n:Int)=D:=⟨_,rfl⟩
  rw[hD]at c7 hdl hz hk1
  refine Sm ?_
  refine CallG.pureAd _ 58 Tryz.call108 c7 (by first|rfl|(simp only[go_sem];done)|(simp only[go_sem];rfl)) (by simp only[List.all_cons,flatRC_ownI];rfl) (fun j size es _=> ?_) ?_
  ·simp-implicitDefEqProofs+decide only[go_sem,heapG_loc,ofH,Lab.loc.injEq,false_and,if_false]
  apply run_sound 200
  simp-implicitDefEqProofs+decide only[go_sem,ofH,sB]
  have hp0:=zeroP_zero mk D
  refine Goes.loop (X:=Nat) (fun i=>⟨ofL [(2,tI d),(9,.t (sB mk)),(11,tI kd),(13,.sb (.loc 49 0) K),(14,.t (.int .i64 n)),(15,.sl (.loc 58 0) 0 0 D.length),(51,.t (.int .i64 N)),(52,.t (.int .i64 n)),(61,.t (sB mk)),(62,.t (.int .i64 mk.length)),(63,.t (.int .i64 i))],
    ofH (heapG mk d K n) [(.loc 49 0,.box (cellsG mk d K n)),(.loc 58 0,.arr 1 ((zeroP mk D i).map I) 0 0)],0⟩) (fun i=>i≤mk.length) (fun i=>mk.length-i) 0 ?_ (by omega) ?_
  ·refine Wk.nest _ [(.loc 49 0,.box (cellsG mk d K n)),(.loc 58 0,.arr 1 ((zeroP mk D 0).map I) 0 0)] 200 K (rowG' mk d n) (fun _ _=>rfl) rfl rfl rfl (fun k _=>⟨_,_,_,_,rfl⟩) ?_ (fun k hk=> ?_) ?_ ?_ ?_ ?_
   ·simp-implicitDefEqProofs+decide only[go_sem,hp0,heapG_loc,ofH,Lab.loc.injEq]
   ·dsimp only
    rw[upd_ne _ _ _ _ (fun e=>by cases e),upd_ne _ _ _ _ (fun e=>by cases e)]
    exact heapG_get hk
   ·intro lab hp
    dsimp only
    rw[upd_ne _ _ _ _ (fun e=>by subst e;cases hp),upd_ne _ _ _ _ (fun e=>by subst e;cases hp),heapG_pool hp]
   ·simp-implicitDefEqProofs+decide only[go_sem,tI,sI,sB,List.length_map]<;>rfl
   ·simp-implicitDefEqProofs+decide only[go_sem,tI,sI,sB]
   ·intro p hp cs hcs c hcm
    simp only[List.mem_cons,List.not_mem_nil,or_false]at hp
    rcases hp with rfl|rfl
    ·cases hcs
     exact .inr (cellsG_refs hcm)
    ·cases hcs
  rintro i hi J2 hJ2
  apply run_sound 200
  simp-implicitDefEqProofs+decide only[go_sem,sB]
  have hzl:=zeroP_length mk D i
  refine selP_dec (fun hc2=> ?_) (fun hc2=> ?_)
  ·have hwi:=wS (show i<1000000000000 by omega)
   obtain⟨b,hb⟩:=getI (show i<mk.length by omega)
   cases b with
   | false =>
     have hzs:=zeroP_skip (D:=D) hb
     simp-implicitDefEqProofs+decide only[go_sem,hb,hwi]
     refine hJ2 (i+1) _ (by omega) (by omega) (Wk.nest _ [(.loc 49 0,.box (cellsG mk d K n)),(.loc 58 0,.arr 1 ((zeroP mk D (i+1)).map I) 0 0)] 200 K (rowG' mk d n) (fun _ _=>rfl) rfl rfl rfl (fun k _=>⟨_,_,_,_,rfl⟩) ?_ (fun k hk=> ?_) ?_ ?_ ?_ ?_)
     ·simp-implicitDefEqProofs+decide only[go_sem,hzs,heapG_loc,ofH,Lab.loc.injEq,false_and,if_false]
     ·simp-implicitDefEqProofs+decide only[go_sem,heapG_get hk,Lab.loc.injEq,false_and,if_false,ofH]<;>rfl
     ·intro lab hp
      cases lab<;>first|(cases hp;done)|simp-implicitDefEqProofs+decide only[go_sem,heapG_arg,heapG_obj,heapG_fld,ofH]
     ·simp-implicitDefEqProofs+decide only[go_sem,tI,sI,sB,List.length_map]<;>rfl
     ·simp-implicitDefEqProofs+decide only[go_sem,tI,sI,sB]
     ·intro p hp cs hcs c hcm
      simp only[List.mem_cons,List.not_mem_nil,or_false]at hp
      rcases hp with rfl|rfl
      ·cases hcs
       exact .inr (cellsG_refs hcm)
      ·cases hcs
   | true =>
     have hiD:i<D.length:=by omega
     have hzs:=zeroP_set hiD hb
     obtain⟨z,hzg⟩:∃z,((zeroP mk D i).map I)[i]?=some z:=getI (by rw[List.length_map,hzl];exact hiD)
     have hst:((zeroP mk D i).map I).set i (.int .i64 0)=(zeroP mk D (i+1)).map I:=by rw[←hzs,List.map_set];rfl
     simp-implicitDefEqProofs+decide only[go_sem,hb,hwi,hiD,hzg,hst,ofH]
     refine hJ2 (i+1) _ (by omega) (by omega) (Wk.nest _ [(.loc 49 0,.box (cellsG mk d K n)),(.loc 58 0,.arr 1 ((zeroP mk D (i+1)).map I) 0 0)] 200 K (rowG' mk d n) (fun _ _=>rfl) rfl rfl rfl (fun k _=>⟨_,_,_,_,rfl⟩) ?_ (fun k hk=> ?_) ?_ ?_ ?_ ?_)
     ·simp-implicitDefEqProofs+decide only[go_sem,hzs,heapG_loc,ofH,Lab.loc.injEq,false_and,if_false]
     ·simp-implicitDefEqProofs+decide only[go_sem,heapG_get hk,Lab.loc.injEq,false_and,if_false,ofH]<;>rfl
     ·intro lab hp
      cases lab<;>first|(cases hp;done)|simp-implicitDefEqProofs+decide only[go_sem,heapG_arg,heapG_obj,heapG_fld,ofH]
     ·simp-implicitDefEqProofs+decide only[go_sem,tI,sI,sB,List.length_map]<;>rfl
     ·simp-implicitDefEqProofs+decide only[go_sem,tI,sI,sB]
     ·intro p hp cs hcs c hcm
      simp only[List.mem_cons,List.not_mem_nil,or_false]at hp
      rcases hp with rfl|rfl
      ·cases hcs
       exact .inr (cellsG_refs hcm)
      ·cases hcs
  ·obtain rfl:i=mk.length:=by omega
   have hzf:zeroP mk D mk.length=zeroL mk D:=by rw[show mk.length=D.length by omega];exact zeroP_full (by omega)
   rw[hzf]
   have hZl:=zeroL_length (a:=D) (show mk.length=D.length by omega)
   have c8:=place_ok kd (zeroL mk D) hz
   rw[hk1.1]at c8
   have hkK:=hk1.2
   clear hzf hzl hz hp0 c7 hDin hk1
   generalize zeroL mk D=Z at*
   obtain⟨κ,hκ⟩:∃κ,keyG mk d n=κ:=⟨_,rfl⟩
   rw[hκ]at c8 hkK
   have hκK:κ<K:=by omega
   have hcg:=cellsG_get (mk:=mk) (d:=d) (n:=n) hκK
   have hrw:=heapG_get (mk:=mk) (d:=d) (n:=n) hκK
   have hcl:=cellsG_length mk d K n
   have hset:=cellsG_set hκK hκ
   have hgl:=grpL_len mk d n κ
   have hgy:=grpL_yes hκ
   have happ:(grpL mk d n κ).map I++[.int .i64 (n:Int)]=(grpL mk d (n+1) κ).map I:=by rw[hgy];simp[I]
   have hlen:(grpL mk d (n+1) κ).length=(grpL mk d n κ).length+1:=by rw[hgy];simp
   have hnb:(grpL mk d n κ).length+1<big:=by unfold big;omega
   have hgll:((grpL mk d n κ).map I).length=(grpL mk d n κ).length:=by simp
   have htk:List.take D.length (Z.map I)=Z.map I:=List.take_of_length_le (by rw[List.length_map,hZl];exact Nat.le_refl _)
   simp only[sI]at c8
   simp-implicitDefEqProofs+decide only[go_sem,ofH,tI,sI,htk]
   refine CallG.pure _ Tryz.call121 (c8) (by simp only[List.all_cons,List.all_nil,noPtr,noPtrL,noPtr_sW,noPtr_sI,noPtr_sV,noPtrL_U,noPtrL_I,noPtrL_vT,I,List.map_cons,List.map_nil,Bool.and_true,Bool.and_self]) (by first|rfl|(simp only[go_sem];done)|(simp only[go_sem];rfl)) ?_
   apply run_sound 200
   simp-implicitDefEqProofs+decide only[go_sem,hκK,hcg,hrw,hgll,hnb,happ,hcl,hset,heapG_loc,List.length_map,Lab.loc.injEq,false_and,if_false,Int.toNat_natCast,Nat.zero_add,Nat.mul_one]
   rw[hw]
   refine hJ (n+1) _ (by omega) (by omega) (Wk.nest _ [(.loc 49 0,.box (cellsG mk d K (n+1)))] 200 K (rowG' mk d (n+1)) (fun _ _=>rfl) rfl rfl rfl (fun k _=>⟨_,_,_,_,rfl⟩) ?_ (fun k hk=> ?_) ?_ ?_ ?_ ?_)
   ·simp-implicitDefEqProofs+decide only[go_sem,heapG_loc,ofH,Lab.loc.injEq,false_and,if_false]
   ·by_cases e:k=κ
    ·subst e
     dsimp only
     rw[upd_ne _ _ _ _ (fun e=>by cases e),upd_same]
     unfold rowG'
     rw[hlen]
    ·dsimp only
     rw[upd_ne _ _ _ _ (fun e=>by cases e),upd_ne _ _ _ _ (fun e'=>by cases e';exact e rfl),upd_ne _ _ _ _ (fun e=>by cases e),upd_ne _ _ _ _ (fun e=>by cases e),upd_ne _ _ _ _ (fun e=>by cases e),heapG_get hk]
     unfold rowG'
     rw[grpL_no (fun e'=>e (e'.symm.trans hκ))]
   ·intro lab hp
    cases lab<;>first|(cases hp;done)|simp-implicitDefEqProofs+decide only[go_sem,heapG_arg,heapG_obj,heapG_fld,ofH]
   ·simp-implicitDefEqProofs+decide only[go_sem,tI,sI,sB,List.length_map]<;>rfl
   ·simp-implicitDefEqProofs+decide only[go_sem,tI,sI,sB]
   ·intro p hp cs hcs c hcm
    simp only[List.mem_cons,List.not_mem_nil,or_false]at hp
    subst hp
    cases hcs
    exact .inr (cellsG_refs hcm)
 ·obtain rfl:n=N:=by omega
  simp-implicitDefEqProofs+decide only[go_sem,ofH]
  refine⟨_,Wk.dissolve (t0:=6) (d0:=49) (j0:=0) (D:=200) (K:=K) (cs:=cellsG mk d K n) (rows:=fun k=>(grpL mk d n k).map I) (base:=fun _=>none) (m:=0) (fun _ _=>rfl) ?_ rfl ?_ ?_ (cellsG_length mk d K n) (fun k hk=>⟨(grpL mk d n k).length,0,?_,?_⟩),?_⟩
  ·intro lab hp
   cases lab<;>first|(cases hp;done)|simp-implicitDefEqProofs+decide only[go_sem,heapG_arg,heapG_obj,heapG_fld,ofH]
  ·simp-implicitDefEqProofs+decide only[go_sem]
  ·simp-implicitDefEqProofs+decide only[go_sem,ofH]
  ·rw[List.length_map]
   exact cellsG_get hk
  ·simp-implicitDefEqProofs+decide only[go_sem,heapG_get hk,Lab.loc.injEq,false_and,if_false,ofH]
  ·exact endF.one (.inr rfl) (by
     show ofL [(6,_)] 6=_
     rw[ofL,upd_same]
     unfold sL
     rw[List.map_map];rfl) rfl (fun _ _=>rfl) rfl
theorem redGroups_no (op:Int) (x:Atr) (d:List Int) (hd:d.length<1000000000) (hl:x.list.length<9000000000000000000) (h0:(redE op x d).2≠0):Pure Tryz.prog 73 [.int .i64 op,x.T,sI d] [.t (.slice [])]:=by
 have c1:=redDims_ok op x d hd hl
 generalize redE op x d=q at*
 obtain⟨l,e⟩:=q
 obtain⟨a1,a2,a3,a4,a5,a6,a7,a8,ak,al⟩:=x
 dsimp only at*
 simp only[Atr.T,sI,I]at c1
 refine Pure.I Tryz.func73 [6] ?_
 simp-implicitDefEqProofs+decide only[go_sem,sI,Atr.T,I]
 refine CallG.pureS _ Tryz.call128 (c1) (by simp only[List.all_cons,List.all_nil,noPtr,noPtrL,noPtr_sW,noPtr_sI,noPtr_sV,noPtrL_U,noPtrL_I,noPtrL_vT,I,List.map_cons,List.map_nil,Bool.and_true,Bool.and_self]) (by first|rfl|(simp only[go_sem];done)|(simp only[go_sem];rfl)) ?_
 apply run_sound 200
 refine Sm ?_
 refine selP_dec (fun _=> ?_) (fun h=>absurd h0 h)
 refine Sm ?_
 exact endF.V [(6,.slice [])] (vals_n (by simp-implicitDefEqProofs+decide only[go_sem]) vals_nil)
end Go.Fm
