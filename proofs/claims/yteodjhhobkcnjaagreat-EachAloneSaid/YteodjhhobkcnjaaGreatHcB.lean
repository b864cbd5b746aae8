/- The bank, in the exact mode: its state; whether it fails; one operation. -/
import Derived.Test.YteodjhhobkcnjaaGreatHcA
set_option linter.unusedVariables false
set_option linter.unusedSimpArgs false
namespace Go.Fm
open Go.Proofs
set_option maxRecDepth 100000
attribute [local irreducible] tiOf
def bankO (k:Nat):Obj:=.box [.t (.int .i64 0),.t (.int .i64 0),.nil,.t (.slice []),.nil,.t (.int .i64 0),.t (.int .i64 k),.t (.bool false),.t (.int .i64 0)]
def vT (r:Rat):T:=.agg [.bool (neg1 r),sW (wordsOf r.num.natAbs),sW (wordsOf r.den),.int .u64 0,.int .i64 0]
theorem endC.oneV {P:Program} {h':Heap} {m':Nat} {rv:RV} {y:AV} {t:T} {e:Exit} {s:St} (he:e=.normal∨e=.ret) (hv:valC P s rv=some y) (hr:reify y=.ret (t,[]))
  (hh:∀l,Lab.pool l=true→h' l=s.h l) (hn:s.nxt=m'):endC P [rv] [.t t] h' m' e s:=
 endC.one (ws:=[]) (acc:=[]) he hv (by rw[hr];rfl) hh hn
theorem killP_bpl (d j k:Nat):killP (.bp (.loc d j) k)=.bp (.loc d j) k:=rfl
theorem killO_box (cs:List AV):killO (.box cs)=.box (cs.map killP):=rfl
theorem killP_agg (cs:List AV):killP (.agg cs)=selA (cleanL cs) (.agg cs) .und:=by unfold killP;rw[cleanA];cases cleanL cs<;>rfl
theorem cleanL_nil:cleanL []=true:=rfl
theorem cleanL_cons (x:AV) (r:List AV):cleanL (x::r)=(cleanA x&&cleanL r):=rfl
theorem cleanA_t (t:T):cleanA (.t t)=true:=rfl
theorem cleanA_nil:cleanA .nil=true:=rfl
attribute [go_sem] killP_bpl killO_box killP_agg cleanL_nil cleanL_cons cleanA_t cleanA_nil
theorem vT_eq (r:Rat):vT r=.agg [.bool (neg1 r),sW (wordsOf r.num.natAbs),sW (wordsOf r.den),.int .u64 0,.int .i64 0]:=rfl
theorem bank_hb {h:Heap} {id k:Nat} (hb:∀l,Lab.pool l=false→h l=none):∀l,Lab.pool l=false→upd h (.obj id) (some (bankO k)) l=none:=fun l hp=>by
 rw[upd_ne _ _ _ _ (fun e=>by subst e;cases hp)];exact hb l hp
theorem bank_keeps {h:Heap} {id:Nat} {o:List AV}:Keeps h (upd h (.obj id) (some (.box o))):=by
 refine⟨fun id' cs hc=> ?_,fun i o ho=>⟨o,by rw[upd_ne _ _ _ _ (by simp)];exact ho,ArgStep.refl o⟩⟩
 by_cases e:id'=id
 ·subst e;exact⟨_,upd_same _ _ _⟩
 ·exact⟨cs,by rw[upd_ne _ _ _ _ (by simpa using e)];exact hc⟩
theorem Wk.freeze {n:Nat} {s:St} (d:Nat) {t:T} {ws:List (Lab×Obj)} {acc:List Lab} (hr:(reify (s.f d)).run s.h=some ((t,ws),acc)):Wk n s ⟨upd s.f d (.t t),writes s.h ws,s.nxt⟩:=by
 rintro κ a w ⟨hde,hs,φ,S,M,hsl⟩
 obtain⟨S',R,hv⟩:=reify_sim M (Frz.refl _) (hsl d) hr
 refine⟨hde,hs,φ,S',R.chg.mem,fun t'=> ?_⟩
 show RepA φ _ w S' (upd s.f d (.t t) t') _
 by_cases e:t'=d
 ·subst e;rw[upd_same];exact .t _ _ hv
 ·rw[upd_ne _ _ _ _ e];exact R.chg.av _ _ (hsl t')
def I (x:Int):T:=.int .i64 x
def sI (l:List Int):T:=.slice (l.map I)
def tI (l:List Int):AV:=.t (sI l)
theorem SmI {a b:Prop} (h:b) (e:a=b:=by simp-implicitDefEqProofs+decide only[go_sem,tI,sI];rfl):a:=Eq.mpr e h
theorem SmJ {a b:Prop} (h:b) (e:a=b:=by simp-implicitDefEqProofs+decide only[go_sem,sI];rfl):a:=Eq.mpr e h
theorem noPtr_sI (l:List Int):noPtr (sI l)=true:=by
 have:∀l:List Int,noPtrL (l.map I)=true:=fun l=>by
  induction l with
  |nil=>rfl
  |cons x r ih=>simp only[List.map_cons,noPtrL,ih,I,noPtr,Bool.and_self]
 simp only[sI,noPtr,this]
theorem noPtr_sIU (l:List Int):noPtr (.slice (l.map I))=true:=noPtr_sI l
attribute [go_sem] noPtr_sI noPtr_sIU
def prodL (d:List Int):Int:=d.foldl (· * ·) 1
def chk (d:List Int):Int:=if 6<d.length then 9 else if (∃x∈d,x<1) then 8 else if 64<prodL d then 12 else 0
def cnt (d:List Int):Int:=if chk d=0 then prodL d else 0
def sizeD (d:List Int) (b:Nat):Int:=if d.length<b then 1 else d.getD (d.length-b) 0
theorem foldl_mul (d:List Int):∀n:Int,d.foldl (· * ·) n=n*prodL d:=by
 induction d with
 |nil=>intro n;simp[prodL]
 | cons x r ih =>
   intro n
   unfold prodL
   rw[List.foldl_cons,List.foldl_cons,ih (n*x),ih (1*x)]
   rw[Int.one_mul,Int.mul_assoc]
theorem prodL_append (a b:List Int):prodL (a++b)=prodL a*prodL b:=by
 unfold prodL
 rw[List.foldl_append,foldl_mul]
 rfl
theorem prodL_snoc {d:List Int} {i:Nat} {x:Int} (h:d[i]?=some x):prodL (d.take (i+1))=prodL (d.take i)*x:=by
 rw[List.take_add_one,h,Option.toList_some,prodL_append]
 unfold prodL;simp
theorem prodL_pos {d:List Int} (h:∀x∈d,1≤x):1≤prodL d:=by
 induction d with
 |nil=>exact Int.le_refl _
 | cons x r ih =>
   have e:prodL (x::r)=x*prodL r:=by
    rw[show x::r=[x]++r from rfl,prodL_append];unfold prodL;simp
   have h1:=h x (by simp)
   have h2:=ih fun y hy=>h y (by simp[hy])
   rw[e]
   have:=Int.mul_le_mul h1 h2 (by decide) (by omega)
   omega
theorem prodL_le {d:List Int} (h:∀x∈d,1≤x) (i:Nat):prodL (d.take i)≤prodL d:=by
 have e:prodL d=prodL (d.take i)*prodL (d.drop i):=by rw[←prodL_append,List.take_append_drop]
 have h1:=prodL_pos (d:=d.take i) fun y hy=>h y (List.mem_of_mem_take hy)
 have h2:=prodL_pos (d:=d.drop i) fun y hy=>h y (List.mem_of_mem_drop hy)
 rw[e]
 have:=Int.mul_le_mul_of_nonneg_left h2 (show 0≤prodL (d.take i) by omega)
 omega
theorem mul_div_lt {n x:Int} (h1:1≤n) (h:n≤64):Int.tdiv 64 n<x↔64<n*x:=by
 rw[Int.tdiv_eq_ediv_of_nonneg (by decide)]
 constructor
 ·intro h2
  have h3:=Int.lt_mul_ediv_self_add (x:=64) (k:=n) (by omega)
  have h4:n*(64/n+1)≤n*x:=Int.mul_le_mul_of_nonneg_left (by omega) (by omega)
  rw[Int.mul_add,Int.mul_one]at h4
  omega
 ·intro h2
  exact Int.ediv_lt_of_lt_mul (by omega) (by rw[Int.mul_comm];exact h2)
theorem check_ok (d:List Int) (hd:d.length<1000000000):Pure Tryz.prog 106 [sI d] [.t (.int .i64 (chk d))]:=by
 refine Pure.I Tryz.func106 [2] ?_
 refine SmJ ?_
 apply selP_dec<;>intro h6
 ·refine Sm ?_
  rw[show chk d=9 by unfold chk;rw[if_pos (by omega)]]
  exact endF.one (.inr rfl) (by simp-implicitDefEqProofs+decide only[go_sem]) rfl (fun _ _=>rfl) rfl
 refine SmJ ?_
 refine Goes.loop (X:=Nat) (fun i=>⟨ofL [(0,tI d),(11,tI d),(12,.t (.int .i64 d.length)),(13,.t (.int .i64 i))],fun _=>none,0⟩) (fun i=>i≤d.length∧∀x∈d.take i,1≤x) (fun i=>d.length-i) 0 (Wk.slots _ rfl rfl (by simp-implicitDefEqProofs+decide only[go_sem,tI,sI]) (by simp-implicitDefEqProofs+decide only[go_sem,tI,sI])) (by simp) ?_
 rintro i ⟨hi,hp⟩ J hJ
 apply run_sound 200
 refine SmI ?_
 apply selP_dec<;>intro hc
 ·obtain⟨x,hx⟩:=getI (show i<d.length by omega)
  have hw:=wS (show i<1000000000000 by omega)
  simp-implicitDefEqProofs+decide only[go_sem,hx,I]
  apply selP_dec<;>intro h1
  ·refine Sm ?_
   rw[show chk d=8 by unfold chk;rw[if_neg (by omega),if_pos ⟨x,List.mem_of_getElem? hx,h1⟩]]
   exact endF.one (.inr rfl) (by simp-implicitDefEqProofs+decide only[go_sem]) rfl (fun _ _=>rfl) rfl
  ·simp-implicitDefEqProofs+decide only[go_sem,hw]
   refine hJ (i+1) _ ⟨by omega,fun y hy=> ?_⟩ (by omega) (Wk.slots _ rfl rfl (by simp-implicitDefEqProofs+decide only[go_sem,tI,sI]) (by simp-implicitDefEqProofs+decide only[go_sem,tI,sI]))
   rw[List.take_add_one,hx]at hy
   rcases List.mem_append.1 hy with hy|hy
   ·exact hp y hy
   ·simp at hy;omega
 obtain rfl:i=d.length:=by omega
 rw[List.take_length]at hp
 have hn8:¬∃x∈d,x<1:=fun⟨x,hx,h⟩=>by have:=hp x hx;omega
 refine SmI ?_
 refine Goes.loop (X:=Nat) (fun i=>⟨ofL [(0,tI d),(5,.t (.int .i64 (prodL (d.take i)))),(20,tI d),(21,.t (.int .i64 d.length)),(22,.t (.int .i64 i))],fun _=>none,0⟩) (fun i=>i≤d.length∧prodL (d.take i)≤64) (fun i=>d.length-i) 0 (Wk.slots _ rfl rfl (by simp-implicitDefEqProofs+decide only[go_sem,tI,sI,List.take_zero,prodL]) (by simp-implicitDefEqProofs+decide only[go_sem,tI,sI,List.take_zero,prodL])) (by simp[prodL]) ?_
 rintro i ⟨hi,hq⟩ J hJ
 apply run_sound 200
 refine SmI ?_
 apply selP_dec<;>intro hc
 ·obtain⟨x,hx⟩:=getI (show i<d.length by omega)
  have hw:=wS (show i<1000000000000 by omega)
  have hx1:=hp x (List.mem_of_getElem? hx)
  have hsn:=prodL_snoc hx
  have hq1:=prodL_pos (d:=d.take i) fun y hy=>hp y (List.mem_of_mem_take hy)
  have hle:=prodL_le hp (i+1)
  have hdl:=mul_div_lt (x:=x) hq1 hq
  have hlx:64<prodL (d.take i)*x→chk d=12:=fun h=>by unfold chk;rw[if_neg (by omega),if_neg hn8,if_pos (by omega)]
  generalize prodL (d.take i)=n at hq hq1 hsn hdl hlx⊢
  have hn0:n≠0:=by omega
  have ht:IntKind.wrap .i64 (Int.tdiv 64 n)=Int.tdiv 64 n:=by
   have:Int.tdiv 64 n=64/n:=Int.tdiv_eq_ediv_of_nonneg (by decide)
   have h1:=Int.ediv_le_self n (show(0:Int)≤64 by decide)
   have h2:0≤64/n:=Int.ediv_nonneg (by decide) (by omega)
   rw[this,w64]<;>omega
  simp-implicitDefEqProofs+decide only[go_sem,hx,I]
  apply selP_dec<;>intro h1
  ·subst h1
   rw[Int.mul_one]at hsn
   simp-implicitDefEqProofs+decide only[go_sem,hw]
   refine hJ (i+1) _ ⟨by omega,by omega⟩ (by omega) (Wk.slots _ rfl rfl (by simp-implicitDefEqProofs+decide only[go_sem,tI,sI,hsn]) (by simp-implicitDefEqProofs+decide only[go_sem,tI,sI,hsn]))
  ·simp-implicitDefEqProofs+decide only[go_sem,hn0,ht]
   apply selP_dec<;>intro h2
   ·refine Sm ?_
    rw[hlx (hdl.1 h2)]
    exact endF.one (.inr rfl) (by simp-implicitDefEqProofs+decide only[go_sem]) rfl (fun _ _=>rfl) rfl
   ·have hm:¬64<n*x:=fun h=>h2 (hdl.2 h)
    have hm1:1≤n*x:=by have:=Int.mul_le_mul hq1 hx1 (by decide) (by omega);omega
    have hwm:IntKind.wrap .i64 (n*x)=n*x:=by rw[w64]<;>omega
    simp-implicitDefEqProofs+decide only[go_sem,hwm,hw]
    refine hJ (i+1) _ ⟨by omega,by omega⟩ (by omega) (Wk.slots _ rfl rfl (by simp-implicitDefEqProofs+decide only[go_sem,tI,sI,hsn]) (by simp-implicitDefEqProofs+decide only[go_sem,tI,sI,hsn]))
 obtain rfl:i=d.length:=by omega
 rw[List.take_length]at hq
 refine Sm ?_
 rw[show chk d=0 by unfold chk;rw[if_neg (by omega),if_neg hn8,if_neg (by omega)]]
 exact endF.one (.inr rfl) (by simp-implicitDefEqProofs+decide only[go_sem]) rfl (fun _ _=>rfl) rfl
theorem chk0 {d:List Int} (h:chk d=0):d.length≤6∧(∀x∈d,1≤x)∧1≤prodL d∧prodL d≤64:=by
 unfold chk at h
 split at h
 ·cases h
 split at h
 ·cases h
 split at h
 ·cases h
 rename_i h1 h2 h3
 have hp:∀x∈d,1≤x:=fun x hx=>by
  rcases Int.lt_or_le x 1 with g|g
  ·exact absurd ⟨x,hx,g⟩ h2
  ·exact g
 exact⟨by omega,hp,prodL_pos hp,by omega⟩
theorem count_ok (d:List Int) (hd:d.length<1000000000):Pure Tryz.prog 54 [sI d] [.t (.int .i64 (cnt d))]:=by
 have c1:=check_ok d hd
 have h0:=@chk0 d
 have hcn:cnt d=if chk d=0 then prodL d else 0:=rfl
 generalize chk d=c at c1 h0 hcn
 refine Pure.I Tryz.func54 [2] ?_
 refine SmJ ?_
 refine CallG.P _ Tryz.call106 (c1) ?_
 refine SmJ ?_
 apply selP_dec<;>intro hc
 ·rw[if_neg hc]at hcn
  simp-implicitDefEqProofs+decide only[go_sem,hcn]
  exact endF.one (.inr rfl) (by simp-implicitDefEqProofs+decide only[go_sem]) rfl (fun _ _=>rfl) rfl
 have hc:=Classical.not_not.1 hc
 rw[if_pos hc]at hcn
 obtain⟨h1,h2,h3,h4⟩:=h0 hc
 refine Sm ?_
 refine Goes.loop (X:=Nat) (fun i=>⟨ofL [(0,tI d),(3,.t (.int .i64 (prodL (d.take i)))),(9,tI d),(10,.t (.int .i64 d.length)),(11,.t (.int .i64 i))],fun _=>none,0⟩) (fun i=>i≤d.length) (fun i=>d.length-i) 0 (Wk.slots _ rfl rfl (by simp-implicitDefEqProofs+decide only[go_sem,tI,sI,List.take_zero,prodL]) (by simp-implicitDefEqProofs+decide only[go_sem,tI,sI,List.take_zero,prodL])) (by simp) ?_
 rintro i hi J hJ
 apply run_sound 200
 refine SmI ?_
 apply selP_dec<;>intro hc
 ·obtain⟨x,hx⟩:=getI (show i<d.length by omega)
  have hw:=wS (show i<1000000000000 by omega)
  have hsn:=prodL_snoc hx
  have hq1:=prodL_pos (d:=d.take (i+1)) fun y hy=>h2 y (List.mem_of_mem_take hy)
  have hle:=prodL_le h2 (i+1)
  have hwm:IntKind.wrap .i64 (prodL (d.take i)*x)=prodL (d.take i)*x:=by rw[←hsn,w64]<;>omega
  simp-implicitDefEqProofs+decide only[go_sem,hx,I,hwm,hw]
  refine hJ (i+1) _ (by omega) (by omega) (Wk.slots _ rfl rfl (by simp-implicitDefEqProofs+decide only[go_sem,tI,sI,hsn]) (by simp-implicitDefEqProofs+decide only[go_sem,tI,sI,hsn]))
 ·obtain rfl:i=d.length:=by omega
  rw[List.take_length]
  simp-implicitDefEqProofs+decide only[go_sem,hcn]
  exact endF.one (.inr rfl) (by simp-implicitDefEqProofs+decide only[go_sem]) rfl (fun _ _=>rfl) rfl
theorem sizeD_ok (d:List Int) (b:Nat) (hb:1≤b) (hbb:b<1000000000) (hd:d.length<1000000000):Pure Tryz.prog 164 [sI d,.int .i64 b] [.t (.int .i64 (sizeD d b))]:=by
 refine Pure.I Tryz.func164 [4] ?_
 refine SmJ ?_
 apply selP_dec<;>intro h
 ·refine Sm ?_
  rw[show sizeD d b=1 by unfold sizeD;rw[if_pos (by omega)]]
  exact endF.one (.inr rfl) (by simp-implicitDefEqProofs+decide only[go_sem]) rfl (fun _ _=>rfl) rfl
 ·obtain⟨x,hx⟩:=getI (show d.length-b<d.length by omega)
  have hw:=wSub (show b≤d.length by omega) (show d.length<1000000000000 by omega)
  have e:sizeD d b=x:=by unfold sizeD;rw[if_neg (by omega),List.getD_eq_getElem?_getD,hx];rfl
  simp-implicitDefEqProofs+decide only[go_sem,sI,hw,hx,I]
  rw[e]
  exact endF.one (.inr rfl) (by simp-implicitDefEqProofs+decide only[go_sem]) rfl (fun _ _=>rfl) rfl
theorem rCheck_ok (d:List Int) (hd:d.length<1000000000):Pure Tryz.prog 78 [sI d] [.t (.int .i64 (chk d))]:=by
 refine Pure.I Tryz.func78 [2] ?_
 refine SmJ ?_
 apply selP_dec<;>intro h6
 ·refine Sm ?_
  rw[show chk d=9 by unfold chk;rw[if_pos (by omega)]]
  exact endF.one (.inr rfl) (by simp-implicitDefEqProofs+decide only[go_sem]) rfl (fun _ _=>rfl) rfl
 refine SmJ ?_
 refine Goes.loop (X:=Nat) (fun i=>⟨ofL [(0,tI d),(10,.t (.int .i64 d.length)),(11,.t (.int .i64 i))],fun _=>none,0⟩) (fun i=>i≤d.length∧∀x∈d.take i,1≤x) (fun i=>d.length-i) 0 (Wk.slots _ rfl rfl (by simp-implicitDefEqProofs+decide only[go_sem,tI,sI]) (by simp-implicitDefEqProofs+decide only[go_sem,tI,sI])) (by simp) ?_
 rintro i ⟨hi,hp⟩ J hJ
 apply run_sound 200
 refine SmI ?_
 apply selP_dec<;>intro hc
 ·obtain⟨x,hx⟩:=getI (show i<d.length by omega)
  have hw:=wS (show i<1000000000000 by omega)
  simp-implicitDefEqProofs+decide only[go_sem,hx,I]
  apply selP_dec<;>intro h1
  ·refine Sm ?_
   rw[show chk d=8 by unfold chk;rw[if_neg (by omega),if_pos ⟨x,List.mem_of_getElem? hx,h1⟩]]
   exact endF.one (.inr rfl) (by simp-implicitDefEqProofs+decide only[go_sem]) rfl (fun _ _=>rfl) rfl
  ·simp-implicitDefEqProofs+decide only[go_sem,hw]
   refine hJ (i+1) _ ⟨by omega,fun y hy=> ?_⟩ (by omega) (Wk.slots _ rfl rfl (by simp-implicitDefEqProofs+decide only[go_sem,tI,sI]) (by simp-implicitDefEqProofs+decide only[go_sem,tI,sI]))
   rw[List.take_add_one,hx]at hy
   rcases List.mem_append.1 hy with hy|hy
   ·exact hp y hy
   ·simp at hy;omega
 obtain rfl:i=d.length:=by omega
 rw[List.take_length]at hp
 have hn8:¬∃x∈d,x<1:=fun⟨x,hx,h⟩=>by have:=hp x hx;omega
 refine SmI ?_
 refine Goes.loop (X:=Nat) (fun i=>⟨ofL [(0,tI d),(4,.t (.int .i64 (prodL (d.take i)))),(21,.t (.int .i64 d.length)),(22,.t (.int .i64 i))],fun _=>none,0⟩) (fun i=>i≤d.length∧prodL (d.take i)≤64) (fun i=>d.length-i) 0 (Wk.slots _ rfl rfl (by simp-implicitDefEqProofs+decide only[go_sem,tI,sI,List.take_zero,prodL]) (by simp-implicitDefEqProofs+decide only[go_sem,tI,sI,List.take_zero,prodL])) (by simp[prodL]) ?_
 rintro i ⟨hi,hq⟩ J hJ
 apply run_sound 200
 refine SmI ?_
 apply selP_dec<;>intro hc
 ·obtain⟨x,hx⟩:=getI (show i<d.length by omega)
  have hw:=wS (show i<1000000000000 by omega)
  have hx1:=hp x (List.mem_of_getElem? hx)
  have hsn:=prodL_snoc hx
  have hq1:=prodL_pos (d:=d.take i) fun y hy=>hp y (List.mem_of_mem_take hy)
  have hle:=prodL_le hp (i+1)
  have hlx:64<prodL (d.take i)*x→chk d=12:=fun h=>by unfold chk;rw[if_neg (by omega),if_neg hn8,if_pos (by omega)]
  generalize prodL (d.take i)=n at hq hq1 hsn hlx⊢
  have hxn:x≤n*x:=by have:=Int.mul_le_mul_of_nonneg_right hq1 (show 0≤x by omega);omega
  simp-implicitDefEqProofs+decide only[go_sem,hx,I]
  apply selP_dec<;>intro h1
  ·refine Sm ?_
   rw[hlx (by omega)]
   exact endF.one (.inr rfl) (by simp-implicitDefEqProofs+decide only[go_sem]) rfl (fun _ _=>rfl) rfl
  ·have hb:n*x≤64*64:=Int.le_trans (Int.mul_le_mul_of_nonneg_right hq (by omega)) (Int.mul_le_mul_of_nonneg_left (by omega) (by decide))
   have hwm:IntKind.wrap .i64 (n*x)=n*x:=by rw[w64]<;>omega
   simp-implicitDefEqProofs+decide only[go_sem,hx,hwm,I]
   apply selP_dec<;>intro h2
   ·refine Sm ?_
    rw[hlx h2]
    exact endF.one (.inr rfl) (by simp-implicitDefEqProofs+decide only[go_sem]) rfl (fun _ _=>rfl) rfl
   ·simp-implicitDefEqProofs+decide only[go_sem,hx,hwm,hw,I]
    refine hJ (i+1) _ ⟨by omega,by omega⟩ (by omega) (Wk.slots _ rfl rfl (by simp-implicitDefEqProofs+decide only[go_sem,tI,sI,hsn]) (by simp-implicitDefEqProofs+decide only[go_sem,tI,sI,hsn]))
 obtain rfl:i=d.length:=by omega
 rw[List.take_length]at hq
 refine Sm ?_
 rw[show chk d=0 by unfold chk;rw[if_neg (by omega),if_neg hn8,if_neg (by omega)]]
 exact endF.one (.inr rfl) (by simp-implicitDefEqProofs+decide only[go_sem]) rfl (fun _ _=>rfl) rfl
theorem rCount_ok (d:List Int) (hd:d.length<1000000000):Pure Tryz.prog 25 [sI d] [.t (.int .i64 (cnt d))]:=by
 have c1:=rCheck_ok d hd
 have h0:=@chk0 d
 have hcn:cnt d=if chk d=0 then prodL d else 0:=rfl
 generalize chk d=c at c1 h0 hcn
 refine Pure.I Tryz.func25 [2] ?_
 refine SmJ ?_
 refine CallG.P _ Tryz.call78 (c1) ?_
 refine SmJ ?_
 apply selP_dec<;>intro hc
 ·rw[if_neg hc]at hcn
  simp-implicitDefEqProofs+decide only[go_sem,hcn]
  exact endF.one (.inr rfl) (by simp-implicitDefEqProofs+decide only[go_sem]) rfl (fun _ _=>rfl) rfl
 have hc:=Classical.not_not.1 hc
 rw[if_pos hc]at hcn
 obtain⟨h1,h2,h3,h4⟩:=h0 hc
 refine Sm ?_
 refine Goes.loop (X:=Nat) (fun i=>⟨ofL [(0,tI d),(3,.t (.int .i64 (prodL (d.take i)))),(9,.t (.int .i64 d.length)),(10,.t (.int .i64 i))],fun _=>none,0⟩) (fun i=>i≤d.length) (fun i=>d.length-i) 0 (Wk.slots _ rfl rfl (by simp-implicitDefEqProofs+decide only[go_sem,tI,sI,List.take_zero,prodL]) (by simp-implicitDefEqProofs+decide only[go_sem,tI,sI,List.take_zero,prodL])) (by simp) ?_
 rintro i hi J hJ
 apply run_sound 200
 refine SmI ?_
 apply selP_dec<;>intro hc
 ·obtain⟨x,hx⟩:=getI (show i<d.length by omega)
  have hw:=wS (show i<1000000000000 by omega)
  have hsn:=prodL_snoc hx
  have hq1:=prodL_pos (d:=d.take (i+1)) fun y hy=>h2 y (List.mem_of_mem_take hy)
  have hle:=prodL_le h2 (i+1)
  have hwm:IntKind.wrap .i64 (prodL (d.take i)*x)=prodL (d.take i)*x:=by rw[←hsn,w64]<;>omega
  simp-implicitDefEqProofs+decide only[go_sem,hx,I,hwm,hw]
  refine hJ (i+1) _ (by omega) (by omega) (Wk.slots _ rfl rfl (by simp-implicitDefEqProofs+decide only[go_sem,tI,sI,hsn]) (by simp-implicitDefEqProofs+decide only[go_sem,tI,sI,hsn]))
 ·obtain rfl:i=d.length:=by omega
  rw[List.take_length]
  simp-implicitDefEqProofs+decide only[go_sem,hcn]
  exact endF.one (.inr rfl) (by simp-implicitDefEqProofs+decide only[go_sem]) rfl (fun _ _=>rfl) rfl
theorem dec_list {a b:List Int} {i:Nat} {x y:Int} (hx:a[i]?=some x) (hy:b[i]?=some y) (h:x≠y):¬a=b:=fun e=>by
 subst e;rw[hx]at hy;cases hy;exact h rfl
theorem rSameI_ok (a b:List Int) (ha:a.length<1000000000):Pure Tryz.prog 155 [sI a,sI b] [.t (.bool (decide (a=b)))]:=by
 refine Pure.I Tryz.func155 [4] ?_
 refine SmJ ?_
 apply selP_dec<;>intro h
 ·refine Sm ?_
  rw[show decide (a=b)=false from decide_eq_false fun e=>h (by rw[e])]
  exact endF.one (.inr rfl) (by simp-implicitDefEqProofs+decide only[go_sem]) rfl (fun _ _=>rfl) rfl
 have hl:a.length=b.length:=by omega
 refine SmJ ?_
 refine Goes.loop (X:=Nat) (fun i=>⟨ofL [(0,tI a),(1,tI b),(12,.t (.int .i64 a.length)),(13,.t (.int .i64 i))],fun _=>none,0⟩) (fun i=>i≤a.length∧∀j,j<i→a[j]?=b[j]?) (fun i=>a.length-i) 0 (Wk.slots _ rfl rfl (by simp-implicitDefEqProofs+decide only[go_sem,tI,sI]) (by simp-implicitDefEqProofs+decide only[go_sem,tI,sI])) (by simp) ?_
 rintro i ⟨hi,hp⟩ J hJ
 apply run_sound 200
 refine SmI ?_
 apply selP_dec<;>intro hc
 ·obtain⟨x,hx⟩:=getI (show i<a.length by omega)
  obtain⟨y,hy⟩:=getI (show i<b.length by omega)
  have hw:=wS (show i<1000000000000 by omega)
  refine Sm ?_
  refine Goes.drawN mixed ?_
  simp-implicitDefEqProofs+decide only[go_sem,hx,hy,I]
  refine⟨.mk (by kernel_rfl),?_⟩
  apply run_sound 200
  refine Sm ?_
  apply selP_dec<;>intro h1
  ·refine Sm ?_
   rw[show decide (a=b)=false from decide_eq_false (dec_list hx hy h1)]
   exact endF.one (.inr rfl) (by simp-implicitDefEqProofs+decide only[go_sem]) rfl (fun _ _=>rfl) rfl
  ·simp-implicitDefEqProofs+decide only[go_sem,hw]
   refine hJ (i+1) _ ⟨by omega,fun j hj=> ?_⟩ (by omega) (Wk.slots _ rfl rfl (by simp-implicitDefEqProofs+decide only[go_sem,tI,sI]) (by simp-implicitDefEqProofs+decide only[go_sem,tI,sI]))
   rcases Nat.lt_or_ge j i with g|g
   ·exact hp j g
   ·obtain rfl:j=i:=by omega
    rw[hx,hy,Classical.not_not.1 h1]
 ·obtain rfl:i=a.length:=by omega
  refine Sm ?_
  rw[show decide (a=b)=true from decide_eq_true (List.ext_getElem? fun j=>by
    rcases Nat.lt_or_ge j a.length with g|g
    ·exact hp j g
    ·rw[List.getElem?_eq_none g,List.getElem?_eq_none (by omega)])]
  exact endF.one (.inr rfl) (by simp-implicitDefEqProofs+decide only[go_sem]) rfl (fun _ _=>rfl) rfl
theorem endF.rowT {t u:Nat} {la:Lab} {va na sa fa:Nat} {ea:List T} {y:T} {h':Heap} {m':Nat} {e:Exit} {s:St} (he:e=.normal∨e=.ret)
  (hx:s.f t=.sl la va 0 na) (hla:s.h la=some (.arr sa ea va fa)) (hna:na=ea.length) (hp:Lab.pool la=false)
  (hy:s.f u=.t y) (hya:y.isAgg=false)
  (hh:∀l,Lab.pool l=true→h' l=s.h l) (hn:s.nxt=m'):endF [t,u] [.t (.slice ea),.t y] h' m' e s:=by
 refine endF.mk (ws:=[(la,.arr sa ea va ea.length)]) (os:=[none,none]) (acc:=[la]) [false,false] he rfl ?_ rfl (fun l hl=> ?_) hn
 ·have:finL (([t,u].map s.f).zip [false,false])=finL [(.sl la va 0 na,false),(.t y,false)]:=by rw[List.map_cons,List.map_cons,hx,hy];rfl
  rw[this]
  have h1:ea.take na=ea:=List.take_of_length_le (by omega)
  simp[finL,fin1,Rd.bind]
  cases y with
  |agg cs=>cases hya
  |_=>simp[reify,reify1,Rd.bind,Rd.run,hla,h1]
 ·show _=upd s.h la _ l
  rw[upd_ne _ _ _ _ (fun e=>by subst e;rw[hp]at hl;cases hl)]
  exact hh l hl
def placeI (d a:List Int):Int:=(d.zip a).foldl (fun n p=>n*p.1+p.2) 0
structure InD (d a:List Int):Prop where
 c:chk d=0
 l:a.length=d.length
 b:∀(i:Nat) (x m:Int),a[i]?=some x→d[i]?=some m→0≤x∧x<m
theorem placeI_zero (d a:List Int):placeI (d.take 0) (a.take 0)=0:=by simp[placeI]
theorem placeI_nil:placeI [] []=0:=rfl
theorem placeI_snoc {d a:List Int} {i:Nat} {m x:Int} (hd:d[i]?=some m) (ha:a[i]?=some x):placeI (d.take (i+1)) (a.take (i+1))=placeI (d.take i) (a.take i)*m+x:=by
 have h1:=(List.getElem?_eq_some_iff.1 hd).1
 have h2:=(List.getElem?_eq_some_iff.1 ha).1
 unfold placeI
 rw[List.take_add_one,List.take_add_one,hd,ha,Option.toList_some,Option.toList_some,List.zip_append (by simp;omega),List.foldl_append]
 rfl
theorem placeI_take {d a:List Int} (h:a.length=d.length):placeI (d.take d.length) (a.take d.length)=placeI d a:=by
 rw[List.take_length,←h,List.take_length]
theorem InD.bnd {d a:List Int} (h:InD d a):∀i,i≤d.length→0≤placeI (d.take i) (a.take i)∧placeI (d.take i) (a.take i)<prodL (d.take i)
 |0,_=>by rw[placeI_zero];simp[prodL]
 | i + 1, hi => by
   obtain⟨h1,h2⟩:=h.bnd i (by omega)
   obtain⟨m,hm⟩:=getI (show i<d.length by omega)
   obtain⟨x,hx⟩:=getI (show i<a.length by have:=h.l;omega)
   obtain⟨b1,b2⟩:=h.b i x m hx hm
   rw[placeI_snoc hm hx,prodL_snoc hm]
   generalize placeI (d.take i) (a.take i)=n at*
   generalize prodL (d.take i)=p at*
   have g1:0≤n*m:=Int.mul_nonneg h1 (by omega)
   have g2:(n+1)*m≤p*m:=Int.mul_le_mul_of_nonneg_right (by omega) (by omega)
   rw[Int.add_mul,Int.one_mul]at g2
   omega
theorem InD.lt {d a:List Int} (h:InD d a) {i:Nat} (hi:i≤d.length):0≤placeI (d.take i) (a.take i)∧placeI (d.take i) (a.take i)<64:=by
 obtain⟨h1,h2⟩:=h.bnd i hi
 obtain⟨_,c2,_,c4⟩:=chk0 h.c
 have:=prodL_le c2 i
 omega
theorem rPlace_ok (d a:List Int) (h:InD d a):Pure Tryz.prog 94 [sI d,sI a] [.t (.int .i64 (placeI d a))]:=by
 have hl:=h.l
 have hd6:=(chk0 h.c).1
 refine Pure.I Tryz.func94 [4] ?_
 refine SmJ ?_
 refine Goes.loop (X:=Nat) (fun i=>⟨ofL [(0,tI d),(1,tI a),(5,.t (.int .i64 (placeI (d.take i) (a.take i)))),(8,.t (.int .i64 d.length)),(9,.t (.int .i64 i))],fun _=>none,0⟩) (fun i=>i≤d.length) (fun i=>d.length-i) 0 (Wk.slots _ rfl rfl (by simp-implicitDefEqProofs+decide only[go_sem,tI,sI,List.take_zero,placeI_nil]) (by simp-implicitDefEqProofs+decide only[go_sem,tI,sI,List.take_zero,placeI_nil])) (by simp) ?_
 rintro i hi J hJ
 apply run_sound 200
 refine SmI ?_
 apply selP_dec<;>intro hc
 ·obtain⟨m,hm⟩:=getI (show i<d.length by omega)
  obtain⟨x,hx⟩:=getI (show i<a.length by omega)
  have hw:=wS (show i<1000000000000 by omega)
  have b1:=h.b i x m hx hm
  have b2:=h.lt (show i≤d.length by omega)
  have b3:=h.lt (show i+1≤d.length by omega)
  have hsn:=placeI_snoc hm hx
  have g1:0≤placeI (d.take i) (a.take i)*m:=Int.mul_nonneg b2.1 (by omega)
  have w1:IntKind.wrap .i64 (placeI (d.take i) (a.take i)*m)=placeI (d.take i) (a.take i)*m:=by rw[w64]<;>omega
  have w2:IntKind.wrap .i64 (placeI (d.take i) (a.take i)*m+x)=placeI (d.take (i+1)) (a.take (i+1)):=by rw[w64]<;>omega
  refine Sm ?_
  refine Goes.drawN mixed ?_
  simp-implicitDefEqProofs+decide only[go_sem,hx,hm,I,w1,w2]
  refine⟨.mk (by kernel_rfl),?_⟩
  apply run_sound 200
  simp-implicitDefEqProofs+decide only[go_sem,hw]
  refine hJ (i+1) _ (by omega) (by omega) (Wk.slots _ rfl rfl (by simp-implicitDefEqProofs+decide only[go_sem,tI,sI]) (by simp-implicitDefEqProofs+decide only[go_sem,tI,sI]))
 ·obtain rfl:i=d.length:=by omega
  rw[placeI_take hl]
  refine Sm ?_
  exact endF.one (.inr rfl) (by simp-implicitDefEqProofs+decide only[go_sem]) rfl (fun _ _=>rfl) rfl
theorem in_ok (d a:List Int) (h:InD d a):Pure Tryz.prog 191 [sI d,sI a] [.t (.bool true)]:=by
 have hl:=h.l
 have hd6:=(chk0 h.c).1
 have c1:=check_ok d (by omega)
 rw[h.c]at c1
 refine Pure.I Tryz.func191 [4] ?_
 refine SmJ ?_
 have hne:decide ((d.length:Int)≠d.length)=false:=by simp
 refine CallG.P _ Tryz.call106 (c1) ?_
 simp-implicitDefEqProofs+decide only[go_sem,sI,hl,hne]
 refine Goes.loop (X:=Nat) (fun i=>⟨ofL [(0,tI d),(1,tI a),(17,tI a),(18,.t (.int .i64 d.length)),(19,.t (.int .i64 i))],fun _=>none,0⟩) (fun i=>i≤d.length) (fun i=>d.length-i) 0 (Wk.slots _ rfl rfl (by simp-implicitDefEqProofs+decide only[go_sem,tI,sI]) (by simp-implicitDefEqProofs+decide only[go_sem,tI,sI])) (by simp) ?_
 rintro i hi J hJ
 apply run_sound 200
 refine SmI ?_
 apply selP_dec<;>intro hc
 ·obtain⟨m,hm⟩:=getI (show i<d.length by omega)
  obtain⟨x,hx⟩:=getI (show i<a.length by omega)
  have hw:=wS (show i<1000000000000 by omega)
  have b1:=h.b i x m hx hm
  have e1:decide (x<0)=false:=decide_eq_false (by omega)
  have e2:decide (m≤x)=false:=decide_eq_false (by omega)
  simp-implicitDefEqProofs+decide only[go_sem,hx,hm,I,e1,e2,hw]
  refine hJ (i+1) _ (by omega) (by omega) (Wk.slots _ rfl rfl (by simp-implicitDefEqProofs+decide only[go_sem,tI,sI]) (by simp-implicitDefEqProofs+decide only[go_sem,tI,sI]))
 ·refine Sm ?_
  exact endF.one (.inr rfl) (by simp-implicitDefEqProofs+decide only[go_sem]) rfl (fun _ _=>rfl) rfl
theorem place_ok (d a:List Int) (h:InD d a):Pure Tryz.prog 121 [sI d,sI a] [.t (.int .i64 (placeI d a)),.t (.bool true)]:=by
 have hl:=h.l
 have hd6:=(chk0 h.c).1
 have c1:=in_ok d a h
 refine Pure.I Tryz.func121 [4,5] ?_
 refine SmJ ?_
 refine CallG.P _ Tryz.call191 (c1) ?_
 simp-implicitDefEqProofs+decide only[go_sem,sI,hl]
 refine Goes.loop (X:=Nat) (fun i=>⟨ofL [(0,tI d),(6,.t (.int .i64 (placeI (d.take i) (a.take i)))),(13,tI a),(14,.t (.int .i64 d.length)),(15,.t (.int .i64 i))],fun _=>none,0⟩) (fun i=>i≤d.length) (fun i=>d.length-i) 0 (Wk.slots _ rfl rfl (by simp-implicitDefEqProofs+decide only[go_sem,tI,sI,List.take_zero,placeI_nil]) (by simp-implicitDefEqProofs+decide only[go_sem,tI,sI,List.take_zero,placeI_nil])) (by simp) ?_
 rintro i hi J hJ
 apply run_sound 200
 refine SmI ?_
 apply selP_dec<;>intro hc
 ·obtain⟨m,hm⟩:=getI (show i<d.length by omega)
  obtain⟨x,hx⟩:=getI (show i<a.length by omega)
  have hw:=wS (show i<1000000000000 by omega)
  have b1:=h.b i x m hx hm
  have b2:=h.lt (show i≤d.length by omega)
  have b3:=h.lt (show i+1≤d.length by omega)
  have hsn:=placeI_snoc hm hx
  have g1:0≤placeI (d.take i) (a.take i)*m:=Int.mul_nonneg b2.1 (by omega)
  have w1:IntKind.wrap .i64 (placeI (d.take i) (a.take i)*m)=placeI (d.take i) (a.take i)*m:=by rw[w64]<;>omega
  have w2:IntKind.wrap .i64 (placeI (d.take i) (a.take i)*m+x)=placeI (d.take (i+1)) (a.take (i+1)):=by rw[w64]<;>omega
  simp-implicitDefEqProofs+decide only[go_sem,hx,hm,I,w1,w2,hw]
  refine hJ (i+1) _ (by omega) (by omega) (Wk.slots _ rfl rfl (by simp-implicitDefEqProofs+decide only[go_sem,tI,sI]) (by simp-implicitDefEqProofs+decide only[go_sem,tI,sI]))
 ·obtain rfl:i=d.length:=by omega
  rw[placeI_take hl]
  refine Sm ?_
  exact endF.V [(4,.int .i64 (placeI d a)),(5,.bool true)] (vals_t (by simp-implicitDefEqProofs+decide only[go_sem]<;>rfl) rfl (vals_t (by simp-implicitDefEqProofs+decide only[go_sem]<;>rfl) rfl vals_nil))
def digit (d:List Int) (n:Int) (i:Nat):Int:=n/prodL (d.drop (i+1))%d.getD i 0
def digL (d:List Int) (n:Int):List Int:=(List.range d.length).map (digit d n)
theorem digL_length (d:List Int) (n:Int):(digL d n).length=d.length:=by simp[digL]
theorem digL_get {d:List Int} {n:Int} {i:Nat} (h:i<d.length):(digL d n)[i]?=some (digit d n i):=by simp[digL,h]
theorem prodL_drop {d:List Int} {i:Nat} {x:Int} (h:d[i]?=some x):prodL (d.drop i)=x*prodL (d.drop (i+1)):=by
 have h1:=(List.getElem?_eq_some_iff.1 h).1
 rw[List.drop_eq_getElem_cons h1,show ∀(y:Int) r,y::r=[y]++r from fun _ _=>rfl,prodL_append,(List.getElem?_eq_some_iff.1 h).2]
 unfold prodL;simp
theorem digit_in {d:List Int} {n:Int} (hc:chk d=0):InD d (digL d n):=by
 obtain⟨_,h2,_,_⟩:=chk0 hc
 refine⟨hc,digL_length d n,fun i x m hx hm=> ?_⟩
 have hi:=(List.getElem?_eq_some_iff.1 hm).1
 rw[digL_get hi]at hx
 cases hx
 have hm1:=h2 m (List.mem_of_getElem? hm)
 unfold digit
 rw[List.getD_eq_getElem?_getD,hm,Option.getD_some]
 exact⟨Int.emod_nonneg _ (by omega),Int.emod_lt_of_pos _ (by omega)⟩
def rowAt (d:List Int) (n:Int) (k:Nat):List Int:=List.replicate k 0++(digL d n).drop k
theorem rowAt_full (d:List Int) (n:Int):rowAt d n d.length=List.replicate d.length 0:=by
 unfold rowAt;rw[List.drop_eq_nil_of_le (by rw[digL_length];exact Nat.le_refl _),List.append_nil]
theorem rowAt_zero (d:List Int) (n:Int):rowAt d n 0=digL d n:=by simp[rowAt]
theorem rowAt_length {d:List Int} {n:Int} {k:Nat} (h:k≤d.length):(rowAt d n k).length=d.length:=by simp[rowAt,digL_length];omega
theorem rowAt_set {d:List Int} {n:Int} {k:Nat} (h:k<d.length):(rowAt d n (k+1)).set k (digit d n k)=rowAt d n k:=by
 unfold rowAt
 rw[List.replicate_succ',List.append_assoc,List.set_append_right k _ (by simp),List.length_replicate,Nat.sub_self]
 congr 1
 have hk:k<(digL d n).length:=by rw[digL_length];exact h
 rw[List.drop_eq_getElem_cons hk]
 have:(digL d n)[k]=digit d n k:=by
  have:=digL_get (n:=n) h
  rw[List.getElem?_eq_getElem hk]at this
  exact Option.some.inj this
 rw[this];rfl
theorem at_gen (d:List Int) (n:Int) (rs:List RC) (hd:d.length<1000000000) (hno:¬(0≤n∧n<cnt d)→rs=[.t (.slice []),.t (.bool false)])
  (hok:0≤n∧n<cnt d→rs=[.t (.slice ((digL d n).map I)),.t (.bool true)]∨rs=[.own 1 ((digL d n).map I),.t (.bool true)]):Pure Tryz.prog 108 [sI d,.int .i64 n] rs:=by
 have c1:=count_ok d hd
 have hcc:cnt d≠0→chk d=0:=fun h=>by unfold cnt at h;rcases Decidable.em (chk d=0) with g|g;exact g;rw[if_neg g]at h;exact absurd rfl h
 have hcp:chk d=0→cnt d=prodL d:=fun h=>by unfold cnt;rw[if_pos h]
 generalize cnt d=c at c1 hcc hcp hno hok⊢
 refine Pure.I Tryz.func108 [4,5] ?_
 refine SmJ ?_
 apply selP_dec<;>intro h0
 ·refine Sm ?_
  rw[hno (by omega)]
  exact endF.V [(4,.slice []),(5,.bool false)] (vals_n (by simp-implicitDefEqProofs+decide only[go_sem]) (vals_t (by simp-implicitDefEqProofs+decide only[go_sem]<;>rfl) rfl vals_nil))
 refine Sm ?_
 refine CallG.P _ Tryz.call54 (c1) ?_
 refine Sm ?_
 apply selP_dec<;>intro h1
 ·refine Sm ?_
  rw[hno (by omega)]
  exact endF.V [(4,.slice []),(5,.bool false)] (vals_n (by simp-implicitDefEqProofs+decide only[go_sem]) (vals_t (by simp-implicitDefEqProofs+decide only[go_sem]<;>rfl) rfl vals_nil))
 have hc:=hcc (by omega)
 have hp:=hcp hc
 obtain⟨g1,g2,g3,g4⟩:=chk0 hc
 have hok:=hok (by omega)
 have hlb:d.length<big:=by unfold big;omega
 have hlb2:(0:Int)≤d.length:=by omega
 have hw0:IntKind.wrap .i64 ((d.length:Int)-1)=(d.length:Int)-1:=by rw[w64]<;>omega
 have hr0:List.replicate d.length (T.int .i64 0)=(rowAt d n d.length).map I:=by rw[rowAt_full,List.map_replicate];rfl
 have hq0:n/prodL (d.drop d.length)=n:=by rw[List.drop_length];unfold prodL;simp
 simp-implicitDefEqProofs+decide only[go_sem,sI,hlb,hlb2,hw0,hr0,Int.toNat_natCast]
 refine Goes.loop (X:=Nat) (fun k=>⟨ofL [(0,tI d),(1,.t (.int .i64 (n/prodL (d.drop k)))),(6,.sl (.loc 18 0) 0 0 d.length),(7,.t (.int .i64 ((k:Int)-1)))],ofH (fun _=>none) [(.loc 18 0,.arr 1 ((rowAt d n k).map I) 0 0)],0⟩) (fun k=>k≤d.length) (fun k=>k) d.length ?_ (by simp) ?_
 ·refine Wk.rows _ _ (fun _ _=>rfl) rfl rfl ?_ (fun l hp=>by cases l<;>first|rfl|cases hp) ?_ ?_
  ·simp-implicitDefEqProofs+decide only[go_sem]
  ·simp-implicitDefEqProofs+decide only[go_sem,tI,sI,hq0]
  ·simp-implicitDefEqProofs+decide only[go_sem,tI,sI]
 rintro k hk J hJ
 apply run_sound 200
 refine SmI ?_
 apply selP_dec<;>intro hc1
 ·obtain⟨i,rfl⟩:∃i,k=i+1:=⟨k-1,by omega⟩
  obtain⟨m,hm⟩:=getI (show i<d.length by omega)
  have hk1:((i+1:Nat):Int)-1=i:=by omega
  have hm1:=g2 m (List.mem_of_getElem? hm)
  have hm0:m≠0:=by omega
  have hpd:=prodL_drop hm
  have hpp:=prodL_pos (d:=d.drop (i+1)) fun y hy=>g2 y (List.mem_of_mem_drop hy)
  have hset:=rowAt_set (n:=n) (show i<d.length by omega)
  have hdg:digit d n i=n/prodL (d.drop (i+1))%m:=by unfold digit;rw[List.getD_eq_getElem?_getD,hm,Option.getD_some]
  have hdv:n/prodL (d.drop i)=n/prodL (d.drop (i+1))/m:=by rw[hpd,Int.mul_comm,Int.ediv_ediv,if_neg (fun h=>absurd h.1 (by omega)),Int.sub_zero]
  have hq:0≤n/prodL (d.drop (i+1)):=Int.ediv_nonneg (by omega) (by omega)
  have hqn:n/prodL (d.drop (i+1))≤n:=Int.ediv_le_self _ (by omega)
  have hlen:=rowAt_length (n:=n) (show i+1≤d.length by omega)
  generalize n/prodL (d.drop (i+1))=q at hdg hdv hq hqn⊢
  have ht1:Int.tmod q m=digit d n i:=by rw[hdg,Int.tmod_eq_emod_of_nonneg hq]
  have ht2:IntKind.wrap .i64 (Int.tdiv q m)=n/prodL (d.drop i):=by
   rw[Int.tdiv_eq_ediv_of_nonneg hq,←hdv,w64]
   ·rw[hdv];have:=Int.ediv_nonneg hq (show 0≤m by omega);omega
   ·rw[hdv];have:=Int.ediv_le_self m hq;omega
  have hx:∃x,((rowAt d n (i+1)).map I)[i]?=some x:=getI (by rw[List.length_map,hlen];omega)
  obtain⟨x,hx⟩:=hx
  have hil:i<d.length:=by omega
  have hwi:IntKind.wrap .i64 ((i:Int)-1)=(i:Int)-1:=by rw[w64]<;>omega
  have hset2:((rowAt d n (i+1)).map I).set i (.int .i64 (digit d n i))=(rowAt d n i).map I:=by rw[←hset,List.map_set];rfl
  simp-implicitDefEqProofs+decide only[go_sem,hk1,hm,I,hm0,ht1,ht2,ofH,hx,hil,hset2,hwi]
  refine hJ i _ (by omega) (by omega) (Wk.rows _ _ (fun _ _=>rfl) rfl rfl ?_ (fun l hp=>by cases l<;>first|rfl|cases hp) ?_ ?_)
  ·simp-implicitDefEqProofs+decide only[go_sem]
  ·simp-implicitDefEqProofs+decide only[go_sem,tI,sI]
  ·simp-implicitDefEqProofs+decide only[go_sem,tI,sI]
 ·obtain rfl:k=0:=by omega
  rw[rowAt_zero]
  have hlen:(digL d n).length=d.length:=digL_length d n
  simp-implicitDefEqProofs+decide only[go_sem,ofH]
  rcases hok with rfl|rfl
  ·exact endF.rowT (.inr rfl) (by simp-implicitDefEqProofs+decide only[go_sem];rfl) (by simp-implicitDefEqProofs+decide only[go_sem,ofH];rfl) (by rw[List.length_map,hlen]) rfl (by simp-implicitDefEqProofs+decide only[go_sem]) rfl (fun l hp=>by cases l<;>first|rfl|cases hp) rfl
  ·exact endF.ownT (lab:=.loc 18 0) (v:=0) (len:=d.length) (.inr rfl) (by simp-implicitDefEqProofs+decide only[go_sem]) (by simp-implicitDefEqProofs+decide only[go_sem,ofH]) (by rw[List.length_map,hlen]) rfl (by simp-implicitDefEqProofs+decide only[go_sem]) rfl (fun l hp=>by cases l<;>first|rfl|cases hp) rfl
theorem at_own (d:List Int) (n:Int) (hd:d.length<1000000000) (h:0≤n∧n<cnt d):Pure Tryz.prog 108 [sI d,.int .i64 n] [.own 1 ((digL d n).map I),.t (.bool true)]:=
 at_gen d n _ hd (fun h'=>absurd h h') fun _=>.inr rfl
section
variable {E:Env} {F:Exit→St→Prop} {pm:Bool} {all:Array Oper} {o:Oper} {gT:List Nat} {r:List Oper} {fs:List Foot} {g:FuncId} {xs:List AV} {ts:List T} {ws:List (Lab×Obj)} {acc:List Lab} {s:St} {k:List Kont}
theorem CallD.pureAd (rs:List RC) (d':Nat) (L:List Lab) (he:Entry E.P g) (hP:Pure E.P g ts rs) (hn:ts.all noPtr=true) (hf:rs.all flatRC=true)
  (hl:∀(j size:Nat) (es:List T),rs[j]?=some (.own size es)→Lab.loc d' j∈L∧s.h (.loc d' j)=none)
  (h:runD E F pm all k r (fs++[⟨o.dst,gT++tmpsOf o,acc++L,(retW d' 0 rs).map (·.1),false,calmD {v:=retVal (some d') rs,w:=retW d' 0 rs}⟩]) (s.app o.dst {v:=retVal (some d') rs,w:=retW d' 0 rs})):CallD E F pm all o gT r fs g xs ts ws acc s k:=
 ⟨{v:=retVal (some d') rs,w:=retW d' 0 rs},L,false,he,TakesD.pureAd rs d' _ L hP (fun t ht=>List.all_eq_true.1 hn t ht) hf rfl hl,runD_sound _ _ _ h⟩
end
def mx (x y:Int):Int:=if x<y then y else x
def rankD (a b:List Int):Nat:=max a.length b.length
def spr (a b:List Int):List Int:=(List.range (rankD a b)).map fun i=>mx (sizeD a (rankD a b-i)) (sizeD b (rankD a b-i))
def clash (a b:List Int):Prop:=∃k,1≤k∧k≤rankD a b∧sizeD a k≠sizeD b k∧sizeD a k≠1∧sizeD b k≠1
open Classical in
noncomputable def twoS (a b:List Int):List Int×Int:=
 if chk a≠0 then ([],chk a) else if chk b≠0 then ([],chk b) else if clash a b then ([],8) else if chk (spr a b)≠0 then ([],chk (spr a b)) else (spr a b,0)
def rowG (L:List Int) (k:Nat):List Int:=List.replicate k 0++L.drop k
theorem rowG_full (L:List Int):rowG L L.length=List.replicate L.length 0:=by simp[rowG]
theorem rowG_zero (L:List Int):rowG L 0=L:=by simp[rowG]
theorem rowG_length {L:List Int} {k:Nat} (h:k≤L.length):(rowG L k).length=L.length:=by simp[rowG];omega
theorem rowG_set {L:List Int} {k:Nat} {x:Int} (h:L[k]?=some x):(rowG L (k+1)).set k x=rowG L k:=by
 have hk:=(List.getElem?_eq_some_iff.1 h).1
 unfold rowG
 rw[List.replicate_succ',List.append_assoc,List.set_append_right k _ (by simp),List.length_replicate,Nat.sub_self]
 congr 1
 rw[List.drop_eq_getElem_cons hk,(List.getElem?_eq_some_iff.1 h).2];rfl
theorem spr_length (a b:List Int):(spr a b).length=rankD a b:=by simp[spr]
theorem spr_get {a b:List Int} {k:Nat} (h:k<rankD a b):(spr a b)[k]?=some (mx (sizeD a (rankD a b-k)) (sizeD b (rankD a b-k))):=by simp[spr,h]
theorem pair_get {a b:List Int} {i:Nat} (h:i<2):∃q,([T.slice (a.map I),T.slice (b.map I)]:List T)[i]?=some (.slice (q.map I))∧(i=0∧q=a∨i=1∧q=b):=by
 rcases i with _|_|i
 ·exact⟨a,rfl,.inl ⟨rfl,rfl⟩⟩
 ·exact⟨b,rfl,.inr ⟨rfl,rfl⟩⟩
 ·omega
open Classical in
theorem twoS_eq {a b:List Int} (ha:chk a=0) (hb:chk b=0):twoS a b=if clash a b then ([],8) else if chk (spr a b)≠0 then ([],chk (spr a b)) else (spr a b,0):=by
 unfold twoS;rw[if_neg (fun h=>h ha),if_neg (fun h=>h hb)]
theorem two_gen (a b:List Int) (rs:List RC) (ha:a.length<1000000000) (hb:b.length<1000000000)
  (hno:∀e:Int,twoS a b=([],e)→e≠0→rs=[.t (.slice []),.t (.int .i64 e)])
  (hok:∀l,twoS a b=(l,0)→rs=[.own 1 (l.map I),.t (.int .i64 0)]):Pure Tryz.prog 107 [sI a,sI b] rs:=by
 refine Pure.I Tryz.func107 [4,5] ?_
 refine SmJ ?_
 refine Goes.loop (X:=Nat) (fun i=>⟨ofL [(0,tI a),(1,tI b),(17,.sl (.loc 17 0) 0 0 2),(18,.t (.int .i64 2)),(19,.t (.int .i64 i))],ofH (fun _=>none) [(.loc 17 0,.arr 1 [T.slice (a.map I),T.slice (b.map I)] 0 0)],0⟩) (fun i=>i≤2∧(1≤i→chk a=0)∧(2≤i→chk b=0)) (fun i=>2-i) 0 ?_ (by simp) ?_
 ·refine Wk.rows _ _ (fun _ _=>rfl) rfl rfl ?_ (fun l hp=>by cases l<;>first|rfl|cases hp) ?_ ?_
  ·simp-implicitDefEqProofs+decide only[go_sem]
  ·simp-implicitDefEqProofs+decide only[go_sem,tI,sI]<;>rfl
  ·simp-implicitDefEqProofs+decide only[go_sem,tI,sI]
 rintro i ⟨hi,hca,hcb⟩ J hJ
 apply run_sound 200
 refine SmI ?_
 apply selP_dec<;>intro hc
 ·obtain⟨q,hx,hq⟩:=pair_get (a:=a) (b:=b) (show i<2 by omega)
  have hw:=wS (show i<1000000000000 by omega)
  have c1:=check_ok q (by rcases hq with ⟨_,rfl⟩|⟨_,rfl⟩<;>assumption)
  have hi2:i<2:=by omega
  simp-implicitDefEqProofs+decide only[go_sem,ofH,hx,hi2]
  refine CallG.P _ Tryz.call106 (c1) ?_
  refine Sm ?_
  apply selP_dec<;>intro h1
  ·have he:twoS a b=([],chk q):=by
    unfold twoS
    rcases hq with ⟨_,rfl⟩|⟨rfl,rfl⟩
    ·rw[if_pos h1]
    ·rw[if_neg (fun h=>h (hca (by omega))),if_pos h1]
   rw[hno _ he h1]
   refine Sm ?_
   exact endF.V [(4,.slice []),(5,.int .i64 (chk q))] (vals_n (by simp-implicitDefEqProofs+decide only[go_sem]) (vals_t (by simp-implicitDefEqProofs+decide only[go_sem]<;>rfl) rfl vals_nil))
  ·have h1:=Classical.not_not.1 h1
   simp-implicitDefEqProofs+decide only[go_sem,hw]
   refine hJ (i+1) _ ⟨by omega,fun _=> ?_,fun _=> ?_⟩ (by omega) (Wk.rows _ _ (fun _ _=>rfl) rfl rfl ?_ (fun l hp=>by cases l<;>first|rfl|cases hp) ?_ ?_)
   ·rcases hq with ⟨_,rfl⟩|⟨_,rfl⟩
    ·exact h1
    ·exact hca (by omega)
   ·rcases hq with ⟨_,rfl⟩|⟨_,rfl⟩
    ·omega
    ·exact h1
   ·simp-implicitDefEqProofs+decide only[go_sem]
   ·simp-implicitDefEqProofs+decide only[go_sem,tI,sI]
   ·simp-implicitDefEqProofs+decide only[go_sem,tI,sI]
 have hca:=hca (by omega)
 have hcb:=hcb (by omega)
 obtain⟨la,-,-,-⟩:=chk0 hca
 obtain⟨lb,-,-,-⟩:=chk0 hcb
 have htwo:=twoS_eq hca hcb
 have hcl:clash a b=∃k,1≤k∧k≤rankD a b∧sizeD a k≠sizeD b k∧sizeD a k≠1∧sizeD b k≠1:=rfl
 have hsl:=spr_length a b
 have hsg:=@spr_get a b
 have hrk:(if a.length<b.length then (b.length:Int) else a.length)=(rankD a b:Nat):=by unfold rankD;split<;>omega
 have hrl:rankD a b≤6:=by unfold rankD;omega
 generalize spr a b=L at htwo hsl hsg
 generalize rankD a b=r at hsl hsg hrk hrl hcl
 have hrb:r<big:=by unfold big;omega
 have hrb2:(0:Int)≤r:=by omega
 have hr0:List.replicate r (T.int .i64 0)=(rowG L r).map I:=by rw[←hsl,rowG_full,List.map_replicate];rfl
 simp-implicitDefEqProofs+decide only[go_sem,hrk,hrb,hrb2,hr0,Int.toNat_natCast,ofH]
 refine Goes.loop (X:=Nat) (fun j=>⟨ofL [(0,tI a),(1,tI b),(9,.t (.int .i64 r)),(10,.sl (.loc 35 0) 0 0 r),(11,.t (.int .i64 ((j+1:Nat):Int)))],ofH (fun _=>none) [(.loc 35 0,.arr 1 ((rowG L (r-j)).map I) 0 0)],0⟩) (fun j=>j≤r∧∀k,1≤k→k≤j→¬(sizeD a k≠sizeD b k∧sizeD a k≠1∧sizeD b k≠1)) (fun j=>r-j) 0 ?_ ⟨by omega,fun k h1 h2=>by omega⟩ ?_
 ·refine Wk.rows _ _ (fun _ _=>rfl) rfl rfl ?_ (fun l hp=>by cases l<;>first|rfl|cases hp) ?_ ?_
  ·simp-implicitDefEqProofs+decide only[go_sem,Nat.sub_zero]
  ·simp-implicitDefEqProofs+decide only[go_sem,tI,sI]<;>rfl
  ·simp-implicitDefEqProofs+decide only[go_sem,tI,sI]
 rintro j ⟨hj,hnc⟩ J hJ
 apply run_sound 200
 refine SmI ?_
 apply selP_dec<;>intro hc
 ·obtain⟨k,hk⟩:∃k,r-j=k+1:=⟨r-j-1,by omega⟩
  have hkr:r-(j+1)=k:=by omega
  have hkl:k<r:=by omega
  have c1:=sizeD_ok a (j+1) (by omega) (by omega) ha
  have c2:=sizeD_ok b (j+1) (by omega) (by omega) hb
  have hw:=wSub (show j+1≤r by omega) (show r<1000000000000 by omega)
  have hw1:=wS (show j+1<1000000000000 by omega)
  have hg:=hsg hkl
  rw[show r-k=j+1 by omega]at hg
  have hst:=rowG_set hg
  have hlen:=rowG_length (L:=L) (k:=k+1) (by omega)
  obtain⟨z,hz⟩:∃z,((rowG L (k+1)).map I)[k]?=some z:=getI (by rw[List.length_map,hlen];omega)
  have hnc1:∀x y,sizeD a (j+1)=x→sizeD b (j+1)=y→(x≠y∧x≠1∧y≠1)→clash a b:=fun x y e1 e2 h=>by
   rw[hcl];subst e1;subst e2;exact⟨j+1,by omega,by omega,h⟩
  have hnc2:∀x y,sizeD a (j+1)=x→sizeD b (j+1)=y→¬(x≠y∧x≠1∧y≠1)→∀k,1≤k→k≤j+1→¬(sizeD a k≠sizeD b k∧sizeD a k≠1∧sizeD b k≠1):=fun x y e1 e2 h k h1 h2=>by
   rcases Nat.lt_or_ge k (j+1) with g|g
   ·exact hnc k h1 (by omega)
   ·obtain rfl:k=j+1:=by omega
    subst e1;subst e2;exact h
  obtain⟨x,hx⟩:∃x,sizeD a (j+1)=x:=⟨_,rfl⟩
  obtain⟨y,hy⟩:∃y,sizeD b (j+1)=y:=⟨_,rfl⟩
  have hnc1:=hnc1 x y hx hy
  have hnc2:=hnc2 x y hx hy
  rw[hx]at c1 hst
  rw[hy]at c2 hst
  have hst2:((rowG L (k+1)).map I).set k (.int .i64 (if x<y then y else x))=(rowG L k).map I:=by rw[←hst,List.map_set];rfl
  have fin:∀s',¬(x≠y∧x≠1∧y≠1)→Wk _ s' _→J s':=fun s' h hw=>hJ (j+1) s' ⟨by omega,hnc2 h⟩ (by omega) hw
  simp-implicitDefEqProofs+decide only[go_sem,hk]
  refine CallG.P _ Tryz.call164 (c1) ?_
  refine Sm ?_
  refine CallG.P _ Tryz.call164 (c2) ?_
  refine Sm ?_
  apply selP_dec<;>intro h1
  ·refine Sm ?_
   apply selP_dec<;>intro h2
   ·refine Sm ?_
    apply selP_dec<;>intro h3
    ·rw[if_pos (hnc1 ⟨h1,h2,h3⟩)]at htwo
     rw[hno 8 htwo (by decide)]
     refine Sm ?_
     exact endF.V [(4,.slice []),(5,.int .i64 8)] (vals_n (by simp-implicitDefEqProofs+decide only[go_sem]) (vals_t (by simp-implicitDefEqProofs+decide only[go_sem]<;>rfl) rfl vals_nil))
    ·simp-implicitDefEqProofs+decide only[go_sem,hw,hkr,hkl,ofH,hz,hst2,hw1,Int.toNat_natCast]
     refine fin _ (fun h=>h3 h.2.2) (Wk.rows _ _ (fun _ _=>rfl) rfl rfl ?_ (fun l hp=>by cases l<;>first|rfl|cases hp) ?_ ?_)
     ·simp-implicitDefEqProofs+decide only[go_sem,hkr]
     ·simp-implicitDefEqProofs+decide only[go_sem,tI,sI]
     ·simp-implicitDefEqProofs+decide only[go_sem,tI,sI]
   ·simp-implicitDefEqProofs+decide only[go_sem,hw,hkr,hkl,ofH,hz,hst2,hw1,Int.toNat_natCast]
    refine fin _ (fun h=>h2 h.2.1) (Wk.rows _ _ (fun _ _=>rfl) rfl rfl ?_ (fun l hp=>by cases l<;>first|rfl|cases hp) ?_ ?_)
    ·simp-implicitDefEqProofs+decide only[go_sem,hkr]
    ·simp-implicitDefEqProofs+decide only[go_sem,tI,sI]
    ·simp-implicitDefEqProofs+decide only[go_sem,tI,sI]
  ·simp-implicitDefEqProofs+decide only[go_sem,hw,hkr,hkl,ofH,hz,hst2,hw1,Int.toNat_natCast]
   refine fin _ (fun h=>h1 h.1) (Wk.rows _ _ (fun _ _=>rfl) rfl rfl ?_ (fun l hp=>by cases l<;>first|rfl|cases hp) ?_ ?_)
   ·simp-implicitDefEqProofs+decide only[go_sem,hkr]
   ·simp-implicitDefEqProofs+decide only[go_sem,tI,sI]
   ·simp-implicitDefEqProofs+decide only[go_sem,tI,sI]
 obtain rfl:j=r:=by omega
 rw[if_neg (by rw[hcl];rintro ⟨k,h1,h2,h3⟩;exact hnc k h1 h2 h3)]at htwo
 have c1:=check_ok L (by omega)
 rw[Nat.sub_self,rowG_zero]
 obtain⟨c,hc⟩:∃c,chk L=c:=⟨_,rfl⟩
 rw[hc]at c1 htwo
 have htk:List.take j (L.map I)=L.map I:=List.take_of_length_le (by rw[List.length_map,hsl];exact Nat.le_refl _)
 simp-implicitDefEqProofs+decide only[go_sem,ofH,htk]
 refine CallG.P _ Tryz.call106 (c1) ?_
 refine Sm ?_
 apply selP_dec<;>intro h1
 ·rw[if_pos h1]at htwo
  rw[hno _ htwo h1]
  refine Sm ?_
  exact endF.V [(4,.slice []),(5,.int .i64 c)] (vals_n (by simp-implicitDefEqProofs+decide only[go_sem]) (vals_t (by simp-implicitDefEqProofs+decide only[go_sem]<;>rfl) rfl vals_nil))
 ·rw[if_neg h1]at htwo
  rw[hok _ htwo]
  refine Sm ?_
  exact endF.ownT (lab:=.loc 35 0) (v:=0) (len:=j) (.inr rfl) (by simp-implicitDefEqProofs+decide only[go_sem]) (by simp-implicitDefEqProofs+decide only[go_sem]) (by rw[List.length_map,hsl]) rfl (by simp-implicitDefEqProofs+decide only[go_sem]) rfl (fun l hp=>by cases l<;>first|rfl|cases hp) rfl
theorem two_no (a b:List Int) (ha:a.length<1000000000) (hb:b.length<1000000000) {e:Int} (h:(twoS a b).2=e) (he:e≠0):Pure Tryz.prog 107 [sI a,sI b] [.t (.slice []),.t (.int .i64 e)]:=by
 refine two_gen a b _ ha hb (fun e' h1 _=> ?_) (fun l h1=> ?_)
 ·rw[h1]at h;cases h;rfl
 ·rw[h1]at h;exact absurd h.symm he
theorem two_ok (a b:List Int) (ha:a.length<1000000000) (hb:b.length<1000000000) (h:(twoS a b).2=0):Pure Tryz.prog 107 [sI a,sI b] [.own 1 ((twoS a b).1.map I),.t (.int .i64 0)]:=by
 refine two_gen a b _ ha hb (fun e' h1 he=> ?_) (fun l h1=> ?_)
 ·rw[h1]at h;exact absurd h he
 ·rw[h1]
open Classical in
noncomputable def mdims (a b:List Int):List Int×Int:=
 if chk a≠0 then ([],chk a) else if chk b≠0 then ([],chk b) else if a.length<2∨b.length<2 then ([],9) else if a.getD (a.length-1) 0≠b.getD (b.length-2) 0 then ([],8) else
 if (twoS (a.take (a.length-2)) (b.take (b.length-2))).2≠0 then ([],(twoS (a.take (a.length-2)) (b.take (b.length-2))).2) else
 if chk ((twoS (a.take (a.length-2)) (b.take (b.length-2))).1++[a.getD (a.length-2) 0,b.getD (b.length-1) 0])≠0 then ([],chk ((twoS (a.take (a.length-2)) (b.take (b.length-2))).1++[a.getD (a.length-2) 0,b.getD (b.length-1) 0])) else
 ((twoS (a.take (a.length-2)) (b.take (b.length-2))).1++[a.getD (a.length-2) 0,b.getD (b.length-1) 0],0)
theorem intsAllI (l:List Int):((l.map I).all fun e=>e.cells.length==1)=true:=intsAll .i64 l
attribute [go_sem] intsAllI
theorem flatRC_ownI (l:List Int):flatRC (.own 1 (l.map I))=true:=by
 unfold flatRC
 rw[List.all_eq_true]
 intro e he
 obtain⟨x,_,rfl⟩:=List.mem_map.1 he
 rfl
attribute [go_sem] flatRC_ownI retW
theorem getD_of {l:List Int} {i:Nat} {x:Int} (h:l[i]?=some x):l.getD i 0=x:=by rw[List.getD_eq_getElem?_getD,h];rfl
theorem twoS_length (a b:List Int):(twoS a b).1.length≤rankD a b:=by
 unfold twoS
 split
 ·simp
 ·split
  ·simp
  ·split
   ·simp
   ·split
    ·simp
    ·rw[spr_length];exact Nat.le_refl _
def padJ (j:Nat) (a:List Int):List Int:=List.replicate j 1++a
theorem padJ_zero (a:List Int):padJ 0 a=a:=rfl
theorem padJ_length (j:Nat) (a:List Int):(padJ j a).length=j+a.length:=by simp[padJ]
theorem padJ_get {j i:Nat} {a:List Int} (h:i<j+a.length):(padJ j a)[i]?=some (sizeD a (j+a.length-i)):=by
 unfold padJ sizeD
 rcases Nat.lt_or_ge i j with g|g
 ·rw[List.getElem?_append_left (by simpa using g),if_pos (by omega)]
  simp[g]
 ·rw[List.getElem?_append_right (by simpa using g),List.length_replicate,if_neg (by omega)]
  rw[List.getD_eq_getElem?_getD,show a.length-(j+a.length-i)=i-j by omega]
  obtain⟨x,hx⟩:=getI (show i-j<a.length by omega)
  rw[hx];rfl
theorem spr_snoc {a b:List Int} {i:Nat} {x y:Int} (hi:i<rankD a b) (hx:sizeD a (rankD a b-i)=x) (hy:sizeD b (rankD a b-i)=y):((spr a b).take i).map I++[T.int .i64 (if x<y then y else x)]=((spr a b).take (i+1)).map I:=by
 rw[List.take_add_one,spr_get hi,hx,hy,List.map_append];rfl
theorem pad_end {a b:List Int} {j:Nat} (h1:j≤b.length-a.length) (h2:¬j+a.length<b.length):j=b.length-a.length:=by omega
theorem rTwo_ok (a b:List Int) (l:List Int) (e:Int) (ha:a.length<1000000000) (hb:b.length<1000000000) (hm:twoS a b=(l,e)):
  Pure Tryz.prog 111 [sI a,sI b] [.t (.slice (l.map I)),.t (.int .i64 e)]:=by
 have c1:=rCheck_ok a ha
 have c2:=rCheck_ok b hb
 refine Pure.I Tryz.func111 [4,5] ?_
 refine SmJ ?_
 refine CallG.P _ Tryz.call78 (c1) ?_
 refine Sm ?_
 refine CallG.P _ Tryz.call78 (c2) ?_
 refine Sm ?_
 apply selP_dec<;>intro h1
 ·unfold twoS at hm
  rw[if_pos h1]at hm
  cases hm
  refine Sm ?_
  exact endF.V [(4,.slice []),(5,.int .i64 (chk a))] (vals_n (by simp-implicitDefEqProofs+decide only[go_sem]) (vals_t (by simp-implicitDefEqProofs+decide only[go_sem]<;>rfl) rfl vals_nil))
 refine Sm ?_
 apply selP_dec<;>intro h2
 ·unfold twoS at hm
  rw[if_neg h1,if_pos h2]at hm
  cases hm
  refine Sm ?_
  exact endF.V [(4,.slice []),(5,.int .i64 (chk b))] (vals_n (by simp-implicitDefEqProofs+decide only[go_sem]) (vals_t (by simp-implicitDefEqProofs+decide only[go_sem]<;>rfl) rfl vals_nil))
 have hca:=Classical.not_not.1 h1
 have hcb:=Classical.not_not.1 h2
 obtain⟨la,-,-,-⟩:=chk0 hca
 obtain⟨lb,-,-,-⟩:=chk0 hcb
 rw[twoS_eq hca hcb]at hm
 refine Sm ?_
 refine Goes.loop (X:=Nat) (fun j=>⟨ofL [(0,tI (padJ j a)),(1,tI b)],fun _=>none,0⟩) (fun j=>j≤b.length-a.length) (fun j=>b.length-a.length-j) 0 (Wk.slots _ rfl rfl (by simp-implicitDefEqProofs+decide only[go_sem,tI,sI,padJ_zero]) (by simp-implicitDefEqProofs+decide only[go_sem,tI,sI,padJ_zero])) (by omega) ?_
 rintro j hj J hJ
 apply run_sound 200
 have hpl:=padJ_length j a
 simp-implicitDefEqProofs+decide only[go_sem,tI,sI,hpl]
 apply selP_dec<;>intro hc
 ·have hsn:T.int .i64 1::(padJ j a).map I=(padJ (j+1) a).map I:=rfl
  have hb1:1+(j+a.length)<big:=by unfold big;omega
  have htk:List.take (1+(j+a.length)) ((padJ (j+1) a).map I)=(padJ (j+1) a).map I:=List.take_of_length_le (by rw[List.length_map,padJ_length];omega)
  simp-implicitDefEqProofs+decide only[go_sem,hpl,hb1,hsn]
  refine hJ (j+1) _ (by omega) (by omega) (Wk.trans (Wk.freeze 0 (t:=.slice ((padJ (j+1) a).map I)) (ws:=[(.loc 25 0,.arr 1 ((padJ (j+1) a).map I) 1 ((padJ (j+1) a).map I).length)]) (acc:=[.loc 25 0]) (by simp-implicitDefEqProofs+decide only[go_sem,htk,List.drop_zero])) (Wk.mixed _ (fun _ _=>rfl) rfl (fun l hp=>by cases l<;>first|rfl|cases hp) ?_ ?_))
  ·simp-implicitDefEqProofs+decide only[go_sem,tI,sI]
  ·simp-implicitDefEqProofs+decide only[go_sem,tI,sI]
 obtain rfl:=pad_end hj (by omega)
 clear hJ hj hc
 refine Sm ?_
 obtain⟨A,hA⟩:∃A,padJ (b.length-a.length) a=A:=⟨_,rfl⟩
 have hAl:A.length=rankD a b:=by rw[←hA,padJ_length];unfold rankD;omega
 have hAg:∀i,i<rankD a b→A[i]?=some (sizeD a (rankD a b-i)):=fun i hi=>by
  have e:b.length-a.length+a.length=rankD a b:=by unfold rankD;omega
  rw[←hA,padJ_get (by omega),e]
 rw[hA]
 refine Goes.loop (X:=Nat) (fun j=>⟨ofL [(0,tI A),(1,tI (padJ j b))],fun _=>none,0⟩) (fun j=>j≤a.length-b.length) (fun j=>a.length-b.length-j) 0 (Wk.slots _ rfl rfl (by simp-implicitDefEqProofs+decide only[go_sem,tI,sI,padJ_zero]) (by simp-implicitDefEqProofs+decide only[go_sem,tI,sI,padJ_zero])) (by omega) ?_
 rintro j hj J hJ
 apply run_sound 200
 have hpl:=padJ_length j b
 have hrk:rankD a b=b.length+(a.length-b.length):=by unfold rankD;omega
 simp-implicitDefEqProofs+decide only[go_sem,tI,sI,hpl,hAl]
 apply selP_dec<;>intro hc
 ·have hsn:T.int .i64 1::(padJ j b).map I=(padJ (j+1) b).map I:=rfl
  have hb1:1+(j+b.length)<big:=by unfold big;omega
  have htk:List.take (1+(j+b.length)) ((padJ (j+1) b).map I)=(padJ (j+1) b).map I:=List.take_of_length_le (by rw[List.length_map,padJ_length];omega)
  simp-implicitDefEqProofs+decide only[go_sem,hpl,hb1,hsn]
  refine hJ (j+1) _ (by omega) (by omega) (Wk.trans (Wk.freeze 1 (t:=.slice ((padJ (j+1) b).map I)) (ws:=[(.loc 33 0,.arr 1 ((padJ (j+1) b).map I) 1 ((padJ (j+1) b).map I).length)]) (acc:=[.loc 33 0]) (by simp-implicitDefEqProofs+decide only[go_sem,htk,List.drop_zero])) (Wk.mixed _ (fun _ _=>rfl) rfl (fun l hp=>by cases l<;>first|rfl|cases hp) ?_ ?_))
  ·simp-implicitDefEqProofs+decide only[go_sem,tI,sI]
  ·simp-implicitDefEqProofs+decide only[go_sem,tI,sI]
 obtain rfl:=pad_end hj (by omega)
 clear hJ hj hc
 refine Sm ?_
 obtain⟨B,hB⟩:∃B,padJ (a.length-b.length) b=B:=⟨_,rfl⟩
 have hBl:B.length=rankD a b:=by rw[←hB,padJ_length];unfold rankD;omega
 have hBg:∀i,i<rankD a b→B[i]?=some (sizeD b (rankD a b-i)):=fun i hi=>by
  have e:a.length-b.length+b.length=rankD a b:=by unfold rankD;omega
  rw[←hB,padJ_get (by omega),e]
 rw[hB]
 have hsl:=spr_length a b
 have hss:=@spr_snoc a b
 have hcl:clash a b=∃k,1≤k∧k≤rankD a b∧sizeD a k≠sizeD b k∧sizeD a k≠1∧sizeD b k≠1:=rfl
 have hrl:rankD a b≤6:=by unfold rankD;omega
 clear hrk
 generalize spr a b=L at hm hsl hss
 generalize rankD a b=r at hAl hAg hBl hBg hsl hss hcl hrl
 refine Goes.wk (Wk.nilRow (d:=8) (lab:=.loc 75 0) (size:=1) (by simp-implicitDefEqProofs+decide only[go_sem]) (by simp-implicitDefEqProofs+decide only[go_sem]) rfl (by decide)) ?_
 refine Goes.loop (X:=Nat) (fun i=>⟨ofL [(0,tI A),(1,tI B),(8,.sl (.loc 75 0) i 0 i),(37,.t (.int .i64 r)),(38,.t (.int .i64 i))],ofH (fun _=>none) [(.loc 75 0,.arr 1 ((L.take i).map I) i 0)],0⟩) (fun i=>i≤r∧∀k,r-i<k→k≤r→¬(sizeD a k≠sizeD b k∧sizeD a k≠1∧sizeD b k≠1)) (fun i=>r-i) 0 ?_ ⟨by omega,fun k h1 h2=>by omega⟩ ?_
 ·refine Wk.rows _ _ (fun _ _=>rfl) rfl rfl ?_ (fun l hp=>by cases l<;>first|rfl|cases hp) ?_ ?_
  ·simp-implicitDefEqProofs+decide only[go_sem]<;>first|rfl|exact⟨rfl,rfl⟩
  ·simp-implicitDefEqProofs+decide only[go_sem,tI,sI,hAl]<;>rfl
  ·simp-implicitDefEqProofs+decide only[go_sem,tI,sI]
 rintro i ⟨hi,hnc⟩ J hJ
 apply run_sound 200
 refine SmI ?_
 apply selP_dec<;>intro hc
 ·have hir:i<r:=by omega
  have hx:=hAg i hir
  have hy:=hBg i hir
  obtain⟨x,hxe⟩:∃x,sizeD a (r-i)=x:=⟨_,rfl⟩
  obtain⟨y,hye⟩:∃y,sizeD b (r-i)=y:=⟨_,rfl⟩
  have hsn:=hss hir hxe hye
  have hnc1:(x≠y∧x≠1∧y≠1)→clash a b:=fun h=>by
   rw[hcl];subst hxe;subst hye;exact⟨r-i,by omega,by omega,h⟩
  have hnc2:¬(x≠y∧x≠1∧y≠1)→∀k,r-(i+1)<k→k≤r→¬(sizeD a k≠sizeD b k∧sizeD a k≠1∧sizeD b k≠1):=fun h k h1 h2=>by
   rcases Nat.lt_or_ge (r-i) k with g|g
   ·exact hnc k g h2
   ·obtain rfl:k=r-i:=by omega
    subst hxe;subst hye;exact h
  rw[hxe]at hx
  rw[hye]at hy
  have hw:=wS (show i<1000000000000 by omega)
  have hib:i+1<big:=by unfold big;omega
  have hLl:(L.take i).length=i:=by rw[List.length_take];omega
  have fin:∀s',¬(x≠y∧x≠1∧y≠1)→Wk _ s' _→J s':=fun s' h hw=>hJ (i+1) s' ⟨by omega,hnc2 h⟩ (by omega) hw
  refine Sm ?_
  refine Goes.drawN mixed ?_
  simp-implicitDefEqProofs+decide only[go_sem,hx,hy,I]
  apply selP_dec<;>intro h1
  ·simp-implicitDefEqProofs+decide only[go_sem,hx,hy,I]
   apply selP_dec<;>intro h2
   ·simp-implicitDefEqProofs+decide only[go_sem,hx,hy,I]
    refine⟨.mk (by kernel_rfl),?_⟩
    apply run_sound 200
    refine Sm ?_
    apply selP_dec<;>intro h3
    ·refine Sm ?_
     rw[if_pos (hnc1 ⟨h1,h2,h3⟩)]at hm
     cases hm
     exact endF.V [(4,.slice []),(5,.int .i64 8)] (vals_n (by simp-implicitDefEqProofs+decide only[go_sem]) (vals_t (by simp-implicitDefEqProofs+decide only[go_sem]<;>rfl) rfl vals_nil))
    ·skip
     refine Sm ?_
     refine Goes.drawN mixed ?_
     simp-implicitDefEqProofs+decide only[go_sem,hx,hy,I,ofH,hLl,hib,hsn]
     refine⟨.mk (by kernel_rfl),?_⟩
     apply run_sound 200
     simp-implicitDefEqProofs+decide only[go_sem,hw]
     refine fin _ (fun h=>h3 h.2.2) (Wk.rows _ _ (fun _ _=>rfl) rfl rfl ?_ (fun l hp=>by cases l<;>first|rfl|cases hp) ?_ ?_)
     ·simp-implicitDefEqProofs+decide only[go_sem]
     ·simp-implicitDefEqProofs+decide only[go_sem,tI,sI]
     ·simp-implicitDefEqProofs+decide only[go_sem,tI,sI]
   ·skip
    simp-implicitDefEqProofs+decide only[go_sem,hx,hy,I]
    refine⟨.mk (by kernel_rfl),?_⟩
    apply run_sound 200
    refine Sm ?_
    refine Goes.drawN mixed ?_
    simp-implicitDefEqProofs+decide only[go_sem,hx,hy,I,ofH,hLl,hib,hsn]
    refine⟨.mk (by kernel_rfl),?_⟩
    apply run_sound 200
    simp-implicitDefEqProofs+decide only[go_sem,hw]
    refine fin _ (fun h=>h2 h.2.1) (Wk.rows _ _ (fun _ _=>rfl) rfl rfl ?_ (fun l hp=>by cases l<;>first|rfl|cases hp) ?_ ?_)
    ·simp-implicitDefEqProofs+decide only[go_sem]
    ·simp-implicitDefEqProofs+decide only[go_sem,tI,sI]
    ·simp-implicitDefEqProofs+decide only[go_sem,tI,sI]
  ·skip
   simp-implicitDefEqProofs+decide only[go_sem,hx,hy,I]
   refine⟨.mk (by kernel_rfl),?_⟩
   apply run_sound 200
   refine Sm ?_
   refine Goes.drawN mixed ?_
   simp-implicitDefEqProofs+decide only[go_sem,hx,hy,I,ofH,hLl,hib,hsn]
   refine⟨.mk (by kernel_rfl),?_⟩
   apply run_sound 200
   simp-implicitDefEqProofs+decide only[go_sem,hw]
   refine fin _ (fun h=>h1 h.1) (Wk.rows _ _ (fun _ _=>rfl) rfl rfl ?_ (fun l hp=>by cases l<;>first|rfl|cases hp) ?_ ?_)
   ·simp-implicitDefEqProofs+decide only[go_sem]
   ·simp-implicitDefEqProofs+decide only[go_sem,tI,sI]
   ·simp-implicitDefEqProofs+decide only[go_sem,tI,sI]
 obtain rfl:i=r:=by omega
 rw[if_neg (by rw[hcl];rintro ⟨k,h1,h2,h3⟩;exact hnc k (by omega) h2 h3)]at hm
 have hLt:L.take i=L:=List.take_of_length_le (by omega)
 have htk:List.take i (L.map I)=L.map I:=List.take_of_length_le (by rw[List.length_map,hsl];exact Nat.le_refl _)
 have c3:=rCheck_ok L (by omega)
 obtain⟨c,hc3⟩:∃c,chk L=c:=⟨_,rfl⟩
 rw[hc3]at c3 hm
 rw[hLt]
 simp-implicitDefEqProofs+decide only[go_sem,ofH,htk]
 refine CallG.P _ Tryz.call78 (c3) ?_
 refine Sm ?_
 apply selP_dec<;>intro h5
 ·rw[if_pos h5]at hm
  cases hm
  refine Sm ?_
  exact endF.V [(4,.slice []),(5,.int .i64 e)] (vals_n (by simp-implicitDefEqProofs+decide only[go_sem]) (vals_t (by simp-implicitDefEqProofs+decide only[go_sem]<;>rfl) rfl vals_nil))
 ·rw[if_neg h5]at hm
  cases hm
  refine Sm ?_
  exact endF.rowT (.inr rfl) (by simp-implicitDefEqProofs+decide only[go_sem];rfl) (by simp-implicitDefEqProofs+decide only[go_sem];rfl) (by rw[List.length_map,hsl]) rfl (by simp-implicitDefEqProofs+decide only[go_sem]) rfl (fun l hp=>by cases l<;>first|rfl|cases hp) rfl
end Go.Fm
