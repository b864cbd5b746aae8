/- Regions in any order: labels may be told by other names. -/
import Derived.Test.YteodjhhobkcnjaaGreatHaC
import Derived.Test.YteodjhhobkcnjaaGreatHfC
import Derived.Test.YteodjhhobkcnjaaGreatHfA
set_option linter.unusedVariables false
set_option linter.unusedSimpArgs false
namespace Go.Fm
def renF (σ:Lab→Lab) (f:Foot):Foot:={f with L:=f.L.map σ,W:=f.W.map σ}
theorem ren_free {σ:Lab→Lab} (hp:∀l,Lab.pool (σ l)=Lab.pool l) {x y:Foot} (h:free2 (renF σ x) (renF σ y)=true):free2 x y=true:=by
 unfold free2 at h⊢
 rw[Bool.and_eq_true]at h⊢
 refine⟨h.1,?_⟩
 have h2:=h.2
 rw[List.all_eq_true]at h2⊢
 intro l hl
 have:=h2 (σ l) (List.mem_map.2 ⟨l,hl,rfl⟩)
 simp only[renF,Bool.and_eq_true,Bool.not_eq_true',List.contains_eq_mem,decide_eq_false_iff_not]at this⊢
 obtain⟨⟨a,b⟩,c⟩:=this
 refine⟨⟨fun hm=>a (List.mem_map.2 ⟨l,hm,rfl⟩),fun hm=>b (List.mem_map.2 ⟨l,hm,rfl⟩)⟩,?_⟩
 rw[hp]at c
 exact c
theorem getD_map_ren (σ:Lab→Lab) (fs:List Foot) (i:Nat):(fs.map (renF σ)).getD i default=renF σ (fs.getD i default):=by
 rw[List.getD_eq_getElem?_getD,List.getD_eq_getElem?_getD,List.getElem?_map]
 cases fs[i]?<;>rfl
theorem lookOk.ren {pm:Bool} {all:Array Oper} {fs:List Foot} (σ:Lab→Lab) (hp:∀l,Lab.pool (σ l)=Lab.pool l) (h:lookOk pm all (fs.map (renF σ))):lookOk pm all fs:=by
 unfold lookOk at h⊢
 rw[Bool.and_eq_true]at h⊢
 obtain⟨h1,h2⟩:=h
 constructor
 ·unfold indepOk at h1⊢
  cases hA:ancGo [] all.toList with
  |none=>rw[hA]at h1;cases h1
  | some A =>
    rw[hA]at h1
    dsimp only at h1⊢
    rw[List.length_map]at h1
    rw[Bool.and_eq_true]at h1⊢
    refine⟨h1.1,?_⟩
    have h3:=h1.2
    rw[List.all_eq_true]at h3⊢
    intro i hi
    have h4:=h3 i hi
    rw[List.all_eq_true]at h4⊢
    intro k hk
    have h5:=h4 k hk
    rw[getD_map_ren,getD_map_ren]at h5
    simp only[Bool.or_eq_true,Bool.and_eq_true]at h5⊢
    rcases h5 with h5|h5
    ·exact .inl h5
    ·exact .inr ⟨ren_free hp h5.1,ren_free hp h5.2⟩
 ·cases pm with
  | true =>
    show fs.all _=true
    have h2:(fs.map (renF σ)).all (fun f=>f.cl)=true:=h2
    rw[List.all_map]at h2
    exact h2
  | false =>
    show fs.all _=true
    have h2:(fs.map (renF σ)).all (fun f=> !f.pool)=true:=h2
    rw[List.all_map]at h2
    exact h2
def sig4 (a b c d e:Lab) (l:Lab):Lab:=if l=a then .obj 2 else if l=b then .obj 1 else if l=c then .obj 0 else if l=d then .fld 2 0 else if l=e then .fld 0 4 else l
theorem sig4_pool {a b c d e:Lab} (ha:Lab.pool a=true) (hb:Lab.pool b=true) (hc:Lab.pool c=true) (hd:Lab.pool d=true) (he:Lab.pool e=true) (l:Lab):Lab.pool (sig4 a b c d e l)=Lab.pool l:=by
 unfold sig4
 split
 ·subst l;rw[ha];rfl
 split
 ·subst l;rw[hb];rfl
 split
 ·subst l;rw[hc];rfl
 split
 ·subst l;rw[hd];rfl
 split
 ·subst l;rw[he];rfl
 rfl
end Go.Fm
namespace Go.Fm
open Go.Proofs
set_option maxRecDepth 100000
attribute [local irreducible] tiOf
def knC (kk:Nat) (L:List Vx):AV:=match L with
 |[]=>.nil
 |_::r=>.sl (.fld kk 0) r.length 0 (r.length+1)
def knR (L:List Vx):Option Obj:=match L with
 |[]=>none
 |z::r=>some (.arr 5 ((z::r).map Vx.T) r.length 0)
def knH (h:Heap) (kk:Nat) (L:List Vx):Heap:=upd (upd h (.fld kk 0) (knR L)) (.obj kk) (some (.box [knC kk L]))
theorem sg1 (kk bb id:Nat):sig4 (.obj kk) (.obj bb) (.obj id) (.fld kk 0) (.fld id 4) (.obj kk)=.obj 2:=if_pos rfl
theorem sg2 {kk bb id:Nat} (h2:bb≠kk):sig4 (.obj kk) (.obj bb) (.obj id) (.fld kk 0) (.fld id 4) (.obj bb)=.obj 1:=by unfold sig4;rw[if_neg (fun e=>h2 (Lab.obj.inj e)),if_pos rfl]
theorem sg3 {kk bb id:Nat} (h1:id≠kk) (h3:bb≠id):sig4 (.obj kk) (.obj bb) (.obj id) (.fld kk 0) (.fld id 4) (.obj id)=.obj 0:=by unfold sig4;rw[if_neg (fun e=>h1 (Lab.obj.inj e)),if_neg (fun e=>h3 (Lab.obj.inj e).symm),if_pos rfl]
theorem sg4 (kk bb id:Nat):sig4 (.obj kk) (.obj bb) (.obj id) (.fld kk 0) (.fld id 4) (.fld kk 0)=.fld 2 0:=by unfold sig4;rw[if_neg (fun e=>by cases e),if_neg (fun e=>by cases e),if_neg (fun e=>by cases e),if_pos rfl]
theorem sg5 (kk bb id d j:Nat):sig4 (.obj kk) (.obj bb) (.obj id) (.fld kk 0) (.fld id 4) (.loc d j)=.loc d j:=by unfold sig4;rw[if_neg (fun e=>by cases e),if_neg (fun e=>by cases e),if_neg (fun e=>by cases e),if_neg (fun e=>by cases e),if_neg (fun e=>by cases e)]
theorem knH_hb {h:Heap} {kk:Nat} {L:List Vx} (hb:∀l,Lab.pool l=false→h l=none):∀l,Lab.pool l=false→knH h kk L l=none:=fun l hp=>by
 unfold knH
 rw[upd_ne _ _ _ _ (fun e=>by subst e;cases hp),upd_ne _ _ _ _ (fun e=>by subst e;cases hp)]
 exact hb l hp
theorem knH_obj {h:Heap} {kk id:Nat} {L:List Vx} (hne:id≠kk):knH h kk L (.obj id)=h (.obj id):=by
 unfold knH
 rw[upd_ne _ _ _ _ (fun e=>hne (Lab.obj.inj e)),upd_ne _ _ _ _ (fun e=>by cases e)]
theorem knH_keeps {h h':Heap} {kk:Nat} {L L':List Vx} (hk:Keeps h h'):Keeps (knH h kk L) (knH h' kk L'):=by
 refine⟨fun id cs hc=> ?_,fun i o hc=> ?_⟩
 ·by_cases e:id=kk
  ·subst e;unfold knH;rw[upd_same];exact⟨_,rfl⟩
  ·rw[knH_obj e]at hc⊢;exact hk.1 id cs hc
 ·have e:∀(h:Heap) (L:List Vx),knH h kk L (.arg i)=h (.arg i):=fun h L=>by
   unfold knH;rw[upd_ne _ _ _ _ (fun e=>by cases e),upd_ne _ _ _ _ (fun e=>by cases e)]
  rw[e]at hc⊢;exact hk.2 i o hc
theorem knH_step {h:Heap} {kk id:Nat} {B:Option Obj} {L L':List Vx} {R:Option Obj} {c:AV} (e1:knR L'=R) (e2:knC kk L'=c) (l:Lab):
  knH (upd h (.obj id) B) kk L' l=upd (upd (upd (knH h kk L) (.obj id) B) (.fld kk 0) R) (.obj kk) (some (.box [c])) l:=by
 unfold knH
 rw[e1,e2]
 by_cases h1:l=.obj kk
 ·subst h1;rw[upd_same,upd_same]
 rw[upd_ne _ _ _ _ h1,upd_ne _ _ _ _ h1]
 by_cases h2:l=.fld kk 0
 ·subst h2;rw[upd_same,upd_same]
 rw[upd_ne _ _ _ _ h2,upd_ne _ _ _ _ h2]
 by_cases h3:l=.obj id
 ·subst h3;rw[upd_same,upd_same]
 rw[upd_ne _ _ _ _ h3,upd_ne _ _ _ _ h3,upd_ne _ _ _ _ h1,upd_ne _ _ _ _ h2]
set_option maxHeartbeats 2000000 in
theorem know_ok (h:Heap) (m id kk bb:Nat) (md:Int) (hmd:md=0∨md=1) (mc:AV) (tie:Bool) (s:Es) (p q:Int) (z:Vx) (r:List Vx) (hb:∀l,Lab.pool l=false→h l=none) (hk:h (.obj id)=some (bankE md mc s.k tie s.e)) (hbb:h (.obj bb)=some (.box [.t (.ptr id)])) (h1:id≠kk) (h2:bb≠kk) (h3:bb≠id) (hr:r.length<1000)
  (hp1: -9223372036854775808≤p) (hp2:p≤9223372036854775807) (hq1: -9223372036854775808≤q) (hq2:q≤9223372036854775807):
  Ret Tryz.prog 145 [.int .i64 p,.int .i64 q,.ptr kk,.ptr bb] (knH h kk (z::r)) m [] (knH (upd h (.obj id) (some (bankE md mc (numE md s p q).s.k tie (numE md s p q).s.e))) kk (z::r++[(numE md s p q).v])) m:=by
 have hH:=knH_hb (kk:=kk) (L:=z::r) hb
 have hloc:∀d j,knH h kk (z::r) (.loc d j)=none:=fun d j=>hH _ rfl
 have cn:=numE_ok (knH h kk (z::r)) m id md hmd mc tie s p q hH ((knH_obj h1).trans hk) hp1 hp2 hq1 hq2
 obtain⟨⟨v,s'⟩,hv⟩:∃t,numE md s p q=t:=⟨_,rfl⟩
 rw[hv]at cn⊢
 dsimp only at cn⊢
 have k1:knH h kk (z::r) (.obj bb)=some (.box [.t (.ptr id)]):=(knH_obj h2).trans hbb
 have k2:knH h kk (z::r) (.obj kk)=some (.box [.sl (.fld kk 0) r.length 0 (r.length+1)]):=upd_same _ _ _
 have k3:knH h kk (z::r) (.fld kk 0)=some (.arr 5 ((z::r).map Vx.T) r.length 0):=by
  unfold knH;rw[upd_ne _ _ _ _ (fun e=>by cases e),upd_same];rfl
 have hlen:((z::r).map Vx.T).length=r.length+1:=by simp
 have hbg:(r.length+1+1<big)=True:=eq_true (by show _<2199023255552;omega)
 have hks:Keeps (knH h kk (z::r)) (knH (upd h (.obj id) (some (bankE md mc s'.k tie s'.e))) kk (z::r++[v])):=knH_keeps bank_keeps
 have hbF:=knH_hb (kk:=kk) (L:=z::r++[v]) (upd_hb (id:=id) (o:=some (bankE md mc s'.k tie s'.e)) hb)
 have hF:∀l,Lab.pool l=true→knH (upd h (.obj id) (some (bankE md mc s'.k tie s'.e))) kk (z::r++[v]) l=upd (upd (upd (knH h kk (z::r)) (.obj id) (some (bankE md mc s'.k tie s'.e))) (.fld kk 0) (some (.arr 5 ((z::r).map Vx.T++[v.T]) (r.length+1) 0))) (.obj kk) (some (.box [.sl (.fld kk 0) (r.length+1) 0 (r.length+1+1)])) l:=fun l _=>by
  have e1:knR (z::r++[v])=some (.arr 5 ((z::r).map Vx.T++[v.T]) (r.length+1) 0):=by
   show some (Obj.arr 5 ((z::(r++[v])).map Vx.T) (r++[v]).length 0)=_
   rw[List.length_append,List.map_cons,List.map_append];rfl
  have e2:knC kk (z::r++[v])=.sl (.fld kk 0) (r.length+1) 0 (r.length+1+1):=by
   show AV.sl (.fld kk 0) (r++[v]).length 0 ((r++[v]).length+1)=_
   rw[List.length_append];rfl
  exact knH_step e1 e2 l
 generalize knH (upd h (.obj id) (some (bankE md mc s'.k tie s'.e))) kk (z::r++[v])=HF at*
 have hb0:=hb
 clear hb
 have hb:=hH
 generalize hHe:knH h kk (z::r)=H at*
 generalize (z::r).map Vx.T=es at*
 simp only[Vx_T]at cn hF
 refine Ret.intro Tryz.func145 rfl (rt:=[]) rfl (by simp[Tryz.ntmps145]) (by decide) (sites:=fun _=>false) hbF hks ?_
 apply run_sound 200
 simp-implicitDefEqProofs+decide only[go_sem,k1,k2,k3,hloc]
 refine Goes.dP ?_
 simp-implicitDefEqProofs+decide only[go_sem,k1,k2,k3,hloc]
 refine CallD.M _ [(.obj id,bankE md mc s'.k tie s'.e)] Tryz.call64 cn ?_
 have n1:(kk=id)=False:=eq_false (fun e=>h1 e.symm)
 have n2:(id=kk)=False:=eq_false h1
 simp-implicitDefEqProofs+decide only[go_sem,k1,k2,k3,hloc,n1,n2,hlen,hbg]
 refine⟨lookOk.ren (sig4 (.obj kk) (.obj bb) (.obj id) (.fld kk 0) (.fld id 4)) (sig4_pool rfl rfl rfl rfl rfl) (.mk (by simp only[List.map_cons,List.map_nil,renF,sg1,sg2 h2,sg3 h1 h3,sg4,sg5];kernel_rfl)),?_⟩
 apply run_sound 200
 simp-implicitDefEqProofs+decide only[go_sem,k1,k2,k3,hloc,n1,n2,hlen,hbg]
 exact endF.vals [] (.inl rfl) vals_nil (by rintro (_|_|_|_|_) hp<;>first|(cases hp;done)|(rw[hF _ hp];simp-implicitDefEqProofs+decide only[go_sem])) rfl
set_option maxHeartbeats 2000000 in
theorem know0_ok (h:Heap) (m id kk bb:Nat) (md:Int) (hmd:md=0∨md=1) (mc:AV) (tie:Bool) (s:Es) (p q:Int) (hb:∀l,Lab.pool l=false→h l=none) (hk:h (.obj id)=some (bankE md mc s.k tie s.e)) (hbb:h (.obj bb)=some (.box [.t (.ptr id)])) (h1:id≠kk) (h2:bb≠kk) (h3:bb≠id)
  (hp1: -9223372036854775808≤p) (hp2:p≤9223372036854775807) (hq1: -9223372036854775808≤q) (hq2:q≤9223372036854775807):
  Ret Tryz.prog 145 [.int .i64 p,.int .i64 q,.ptr kk,.ptr bb] (knH h kk []) m [] (knH (upd h (.obj id) (some (bankE md mc (numE md s p q).s.k tie (numE md s p q).s.e))) kk ([(numE md s p q).v])) m:=by
 have hH:=knH_hb (kk:=kk) (L:=[]) hb
 have hloc:∀d j,knH h kk [] (.loc d j)=none:=fun d j=>hH _ rfl
 have cn:=numE_ok (knH h kk []) m id md hmd mc tie s p q hH ((knH_obj h1).trans hk) hp1 hp2 hq1 hq2
 obtain⟨⟨v,s'⟩,hv⟩:∃t,numE md s p q=t:=⟨_,rfl⟩
 rw[hv]at cn⊢
 dsimp only at cn⊢
 have k1:knH h kk [] (.obj bb)=some (.box [.t (.ptr id)]):=(knH_obj h2).trans hbb
 have k2:knH h kk [] (.obj kk)=some (.box [.nil]):=upd_same _ _ _
 have k3:knH h kk [] (.fld kk 0)=none:=by
  unfold knH;rw[upd_ne _ _ _ _ (fun e=>by cases e),upd_same];rfl
 have hks:Keeps (knH h kk []) (knH (upd h (.obj id) (some (bankE md mc s'.k tie s'.e))) kk ([v])):=knH_keeps bank_keeps
 have hbF:=knH_hb (kk:=kk) (L:=[v]) (upd_hb (id:=id) (o:=some (bankE md mc s'.k tie s'.e)) hb)
 have hF:∀l,Lab.pool l=true→knH (upd h (.obj id) (some (bankE md mc s'.k tie s'.e))) kk [v] l=upd (upd (upd (knH h kk []) (.obj id) (some (bankE md mc s'.k tie s'.e))) (.fld kk 0) (some (.arr 5 [v.T] 0 0))) (.obj kk) (some (.box [.sl (.fld kk 0) 0 0 1])) l:=fun l _=>knH_step rfl rfl l
 generalize knH (upd h (.obj id) (some (bankE md mc s'.k tie s'.e))) kk ([v])=HF at*
 have hb0:=hb
 clear hb
 have hb:=hH
 generalize hHe:knH h kk []=H at*
 simp only[Vx_T]at cn hF
 refine Ret.intro Tryz.func145 rfl (rt:=[]) rfl (by simp[Tryz.ntmps145]) (by decide) (sites:=fun _=>false) hbF hks ?_
 apply run_sound 200
 simp-implicitDefEqProofs+decide only[go_sem,k1,k2,k3,hloc]
 refine Goes.dP ?_
 simp-implicitDefEqProofs+decide only[go_sem,k1,k2,k3,hloc]
 refine CallD.M _ [(.obj id,bankE md mc s'.k tie s'.e)] Tryz.call64 cn ?_
 have n1:(kk=id)=False:=eq_false (fun e=>h1 e.symm)
 have n2:(id=kk)=False:=eq_false h1
 simp-implicitDefEqProofs+decide only[go_sem,k1,k2,k3,hloc,n1,n2]
 refine⟨lookOk.ren (sig4 (.obj kk) (.obj bb) (.obj id) (.fld kk 0) (.fld id 4)) (sig4_pool rfl rfl rfl rfl rfl) (.mk (by simp only[List.map_cons,List.map_nil,renF,sg1,sg2 h2,sg3 h1 h3,sg4,sg5];kernel_rfl)),?_⟩
 apply run_sound 200
 simp-implicitDefEqProofs+decide only[go_sem,k1,k2,k3,hloc,n1,n2]
 exact endF.vals [] (.inl rfl) vals_nil (by rintro (_|_|_|_|_) hp<;>first|(cases hp;done)|(rw[hF _ hp];simp-implicitDefEqProofs+decide only[go_sem])) rfl
def knownL (op:Int) (x:Atr):List (Int×Int):=
 if op=4∨op=6∨op=24 then [(0,1)] else if op=2∨op=10∨op=11∨op=12 then [(1,1)] else if op=5 then [(0,1),(1,1),(-1,1)]
 else if op=13∨op=14 then [(x.p,x.q)] else if op=16 then [(0,1),(x.p,x.q)] else if op=15 then [(x.p,x.q),(x.r,x.s)] else if op=23 then [(0,1),(1,1)] else []
def IOk (z:Int):Prop:= -9223372036854775808≤z∧z≤9223372036854775807
theorem known_len (op:Int) (x:Atr):(knownL op x).length≤3:=by
 unfold knownL
 repeat' split
 all_goals first|decide|exact Nat.le_of_ble_eq_true rfl
def knI (h:Heap) (m id:Nat) (md:Int) (mc:AV) (tie:Bool) (s:Es) (P:List (Int×Int)) (i:Nat):Heap:=
 knH (upd (upd h (.obj m) (some (.box [.t (.ptr id)]))) (.obj id) (some (bankE md mc (readyE md s P i).s.k tie (readyE md s P i).s.e))) (m+1) (readyE md s P i).l
theorem know_step (h:Heap) (m M id:Nat) (md:Int) (hmd:md=0∨md=1) (mc:AV) (tie:Bool) (s:Es) (P:List (Int×Int)) (hP:P.length≤3) (hb:∀l,Lab.pool l=false→h l=none) (hid:id<m) (i:Nat) (p q:Int) (hi:P[i]?=some (p,q)) (hp:IOk p) (hq:IOk q):
  Ret Tryz.prog 145 [.int .i64 p,.int .i64 q,.ptr (m+1),.ptr m] (knI h m id md mc tie s P i) M [] (knI h m id md mc tie s P (i+1)) M:=by
 have hst:readyE md s P (i+1)=⟨(readyE md s P i).l++[(numE md (readyE md s P i).s (P.getD i (0,0)).1 (P.getD i (0,0)).2).v],(numE md (readyE md s P i).s (P.getD i (0,0)).1 (P.getD i (0,0)).2).s⟩:=rfl
 have hpd:P.getD i (0,0)=(p,q):=by rw[List.getD_eq_getElem?_getD,hi];rfl
 have hlen:=readyE_len md s P i
 have hil:=(List.getElem?_eq_some_iff.1 hi).1
 unfold knI
 rw[hst,hpd]
 obtain⟨⟨L,t⟩,hK⟩:∃q,readyE md s P i=q:=⟨_,rfl⟩
 rw[hK]at hlen⊢
 dsimp only at hlen⊢
 have hk:upd (upd h (.obj m) (some (.box [.t (.ptr id)]))) (.obj id) (some (bankE md mc t.k tie t.e)) (.obj id)=some (bankE md mc t.k tie t.e):=upd_same _ _ _
 have hbb:upd (upd h (.obj m) (some (.box [.t (.ptr id)]))) (.obj id) (some (bankE md mc t.k tie t.e)) (.obj m)=some (.box [.t (.ptr id)]):=by rw[upd_ne _ _ _ _ (fun e=>by have:=Lab.obj.inj e;omega),upd_same]
 cases L with
 | nil =>
   have c:=know0_ok _ M id (m+1) m md hmd mc tie t p q (upd_hb (upd_hb hb)) hk hbb (by omega) (by omega) (by omega) hp.1 hp.2 hq.1 hq.2
   rw[upd_upd]at c
   exact c
 | cons z r =>
   have c:=know_ok _ M id (m+1) m md hmd mc tie t p q z r (upd_hb (upd_hb hb)) hk hbb (by omega) (by omega) (by omega) (by simp only[List.length_cons]at hlen;omega) hp.1 hp.2 hq.1 hq.2
   rw[upd_upd]at c
   exact c
def knZ (h:Heap) (m id:Nat) (md:Int) (mc:AV) (tie:Bool) (s:Es) (P:List (Int×Int)):Heap:=
 upd (knI h m id md mc tie s P P.length) (.fld (m+1) 0) (match (readyE md s P P.length).l with|[]=>none|z::r=>some (.arr 5 ((z::r).map Vx.T) r.length (r.length+1)))
theorem knI0 {h:Heap} {m id:Nat} {md:Int} {mc:AV} {tie:Bool} {s:Es} {P:List (Int×Int)} (hk:h (.obj id)=some (bankE md mc s.k tie s.e)) (hid:id<m) (hf:h (.fld (m+1) 0)=none) (l:Lab):
  knI h m id md mc tie s P 0 l=upd (upd h (.obj m) (some (.box [.t (.ptr id)]))) (.obj (m+1)) (some (.box [.nil])) l:=by
 have hI:knI h m id md mc tie s P 0=knH (upd (upd h (.obj m) (some (.box [.t (.ptr id)]))) (.obj id) (some (bankE md mc s.k tie s.e))) (m+1) []:=rfl
 rw[hI]
 unfold knH
 by_cases h1:l=.obj (m+1)
 ·subst h1;rw[upd_same,upd_same];rfl
 rw[upd_ne _ _ _ _ h1,upd_ne _ _ _ _ h1]
 by_cases h2:l=.fld (m+1) 0
 ·subst h2;rw[upd_same,upd_ne _ _ _ _ (fun e=>by cases e),hf];rfl
 rw[upd_ne _ _ _ _ h2]
 by_cases h3:l=.obj id
 ·subst h3;rw[upd_same,upd_ne _ _ _ _ (fun e=>by have:=Lab.obj.inj e;omega),hk]
 rw[upd_ne _ _ _ _ h3]
theorem knI_hb {h:Heap} {m id:Nat} {md:Int} {mc:AV} {tie:Bool} {s:Es} {P:List (Int×Int)} (hb:∀l,Lab.pool l=false→h l=none) (i:Nat):∀l,Lab.pool l=false→knI h m id md mc tie s P i l=none:=knH_hb (upd_hb (upd_hb hb))
theorem knZ_hb {h:Heap} {m id:Nat} {md:Int} {mc:AV} {tie:Bool} {s:Es} {P:List (Int×Int)} (hb:∀l,Lab.pool l=false→h l=none):∀l,Lab.pool l=false→knZ h m id md mc tie s P l=none:=fun l hp=>by
 unfold knZ
 rw[upd_ne _ _ _ _ (fun e=>by subst e;cases hp)]
 exact knI_hb hb _ l hp
theorem knZ_keeps {h:Heap} {m id:Nat} {md:Int} {mc:AV} {tie:Bool} {s:Es} {P:List (Int×Int)}:Keeps h (knZ h m id md mc tie s P):=by
 refine⟨fun id' cs hc=> ?_,fun i o hc=>⟨o,?_,ArgStep.refl _⟩⟩
 ·unfold knZ knI knH
  rw[upd_ne _ _ _ _ (fun e=>by cases e)]
  by_cases h1:Lab.obj id'=.obj (m+1)
  ·rw[h1,upd_same];exact⟨_,rfl⟩
  rw[upd_ne _ _ _ _ h1,upd_ne _ _ _ _ (fun e=>by cases e)]
  by_cases h2:Lab.obj id'=.obj id
  ·rw[h2,upd_same];exact⟨_,rfl⟩
  rw[upd_ne _ _ _ _ h2]
  by_cases h3:Lab.obj id'=.obj m
  ·rw[h3,upd_same];exact⟨_,rfl⟩
  rw[upd_ne _ _ _ _ h3];exact⟨_,hc⟩
 ·unfold knZ knI knH
  rw[upd_ne _ _ _ _ (fun e=>by cases e),upd_ne _ _ _ _ (fun e=>by cases e),upd_ne _ _ _ _ (fun e=>by cases e),upd_ne _ _ _ _ (fun e=>by cases e),upd_ne _ _ _ _ (fun e=>by cases e)]
  exact hc
set_option maxHeartbeats 4000000 in
theorem knows_ok (h:Heap) (m id:Nat) (md:Int) (hmd:md=0∨md=1) (mc:AV) (tie:Bool) (s:Es) (op:Int) (x:Atr) (hb:∀l,Lab.pool l=false→h l=none) (hk:h (.obj id)=some (bankE md mc s.k tie s.e)) (hid:id<m) (h1:h (.obj m)=none) (h2:h (.obj (m+1))=none) (hf:h (.fld (m+1) 0)=none) (hop:1≤op∧op≤26)
  (hxp:IOk x.p) (hxq:IOk x.q) (hxr:IOk x.r) (hxs:IOk x.s):
  Ret Tryz.prog 88 [.ptr id,.int .i64 op,x.T] h m [.t (knT (readyE md s (knownL op x) (knownL op x).length).l)] (knZ h m id md mc tie s (knownL op x)) (m+2):=by
 have hloc:∀d j,h (.loc d j)=none:=fun d j=>hb _ rfl
 have hm1:(m+1=m)=False:=eq_false (by omega)
 have hm2:(m=m+1)=False:=eq_false (by omega)
 have k0:∀l,knI h m id md mc tie s (knownL op x) 0 l=_:=knI0 hk hid hf
 have cs:=fun i p q hi hp hq=>know_step h m (m+2) id md hmd mc tie s (knownL op x) (known_len op x) hb hid i p q hi hp hq
 have hbI:=fun i=>knI_hb (h:=h) (m:=m) (id:=id) (md:=md) (mc:=mc) (tie:=tie) (s:=s) (P:=knownL op x) hb i
 have hlI:∀i d j,knI h m id md mc tie s (knownL op x) i (.loc d j)=none:=fun i d j=>hbI i _ rfl
 have i01:IOk 0∧IOk 1∧IOk (-1):=⟨by unfold IOk;decide,by unfold IOk;decide,by unfold IOk;decide⟩
 have hbZ:=knZ_hb (h:=h) (m:=m) (id:=id) (md:=md) (mc:=mc) (tie:=tie) (s:=s) (P:=knownL op x) hb
 obtain⟨a1,a2,a3,a4,a5,a6,a7,a8,ak,al⟩:=x
 refine Ret.introC Tryz.func88 rfl (rv:=[.c 6 90]) rfl (by simp[Tryz.ntmps88]) (by decide) (sites:=fun d=>d==3||d==7) hbZ knZ_keeps ?_
 have hc:(op=4∨op=6∨op=24)∨(op=2∨op=10∨op=11∨op=12)∨op=5∨(op=13∨op=14)∨op=16∨op=15∨op=23∨(op=1∨op=3∨op=7∨op=8∨op=9∨op=17∨op=18∨op=19∨op=20∨op=21∨op=22∨op=25∨op=26):=by omega
 rcases hc with hc|hc|hc|hc|hc|hc|hc|hc
 ·have hP:knownL op ⟨a1,a2,a3,a4,a5,a6,a7,a8,ak,al⟩=[(0,1)]:=by unfold knownL;rw[if_pos hc]
  rw[hP]at k0 cs hbI hlI hbZ⊢
  have c1:=cs 0 0 1 rfl i01.1 i01.2.1
  have hlen:=readyE_len md s [(0,1)] 1
  obtain⟨z,r,hzr⟩:∃z r,(readyE md s [(0,1)] 1).l=z::r:=by
   cases hq:(readyE md s [(0,1)] 1).l with
   |nil=>rw[hq]at hlen;cases hlen
   |cons a b=>exact⟨a,b,rfl⟩
  have hko:knI h m id md mc tie s [(0,1)] 1 (.obj (m+1))=some (.box [.sl (.fld (m+1) 0) r.length 0 (r.length+1)]):=by unfold knI knH;rw[upd_same,hzr];rfl
  have hkf:knI h m id md mc tie s [(0,1)] 1 (.fld (m+1) 0)=some (.arr 5 ((z::r).map Vx.T) r.length 0):=by unfold knI knH;rw[upd_ne _ _ _ _ (fun e=>by cases e),upd_same,hzr];rfl
  have hZ:∀l,knZ h m id md mc tie s [(0,1)] l=upd (knI h m id md mc tie s [(0,1)] 1) (.fld (m+1) 0) (some (.arr 5 ((z::r).map Vx.T) r.length (r.length+1))) l:=fun l=>by
   show upd (knI h m id md mc tie s [(0,1)] 1) _ (match (readyE md s [(0,1)] 1).l with|[]=>none|z::r=>some (.arr 5 ((z::r).map Vx.T) r.length (r.length+1))) l=_
   rw[hzr]
  rw[show([(0,1)]:List (Int×Int)).length=1 from rfl,hzr]
  show Goes _ (endC _ _ [.t (.agg [.slice ((z::r).map Vx.T)])] _ _) _ _ _
  rcases hc with rfl|rfl|rfl
  all_goals
   apply run_sound 200
   simp-implicitDefEqProofs+decide only[go_sem,hloc,Atr.T,I,sI,h1,h2,hm1,hm2]
   refine CallG.pool _ Tryz.call145 c1 (hbI 0) (by rintro (_|_|_|_|_) hp<;>first|(cases hp;done)|(rw[k0];simp-implicitDefEqProofs+decide only[go_sem])) ?_
   apply run_sound 200
   simp-implicitDefEqProofs+decide only[go_sem,hlI,hloc,Atr.T,I,sI,h1,h2,hm1,hm2,hko,hkf]
   exact endC.one (ws:=[(.fld (m+1) 0,.arr 5 ((z::r).map Vx.T) r.length (r.length+1))]) (acc:=[.fld (m+1) 0]) (.inr rfl) (by simp-implicitDefEqProofs+decide only[go_sem,valC,hm1,hm2];rfl) (by simp-implicitDefEqProofs+decide only[go_sem,reify,reifyL,reify1,hkf,hlI]) (by rintro (_|_|_|_|_) hp<;>first|(cases hp;done)|(rw[hZ];simp-implicitDefEqProofs+decide only[go_sem,hlI])) rfl
 ·have hP:knownL op ⟨a1,a2,a3,a4,a5,a6,a7,a8,ak,al⟩=[(1,1)]:=by unfold knownL;rw[if_neg (by omega),if_pos hc]
  rw[hP]at k0 cs hbI hlI hbZ⊢
  have c1:=cs 0 1 1 rfl i01.2.1 i01.2.1
  have hlen:=readyE_len md s [(1,1)] 1
  obtain⟨z,r,hzr⟩:∃z r,(readyE md s [(1,1)] 1).l=z::r:=by
   cases hq:(readyE md s [(1,1)] 1).l with
   |nil=>rw[hq]at hlen;cases hlen
   |cons a b=>exact⟨a,b,rfl⟩
  have hko:knI h m id md mc tie s [(1,1)] 1 (.obj (m+1))=some (.box [.sl (.fld (m+1) 0) r.length 0 (r.length+1)]):=by unfold knI knH;rw[upd_same,hzr];rfl
  have hkf:knI h m id md mc tie s [(1,1)] 1 (.fld (m+1) 0)=some (.arr 5 ((z::r).map Vx.T) r.length 0):=by unfold knI knH;rw[upd_ne _ _ _ _ (fun e=>by cases e),upd_same,hzr];rfl
  have hZ:∀l,knZ h m id md mc tie s [(1,1)] l=upd (knI h m id md mc tie s [(1,1)] 1) (.fld (m+1) 0) (some (.arr 5 ((z::r).map Vx.T) r.length (r.length+1))) l:=fun l=>by
   show upd (knI h m id md mc tie s [(1,1)] 1) _ (match (readyE md s [(1,1)] 1).l with|[]=>none|z::r=>some (.arr 5 ((z::r).map Vx.T) r.length (r.length+1))) l=_
   rw[hzr]
  rw[show([(1,1)]:List (Int×Int)).length=1 from rfl,hzr]
  show Goes _ (endC _ _ [.t (.agg [.slice ((z::r).map Vx.T)])] _ _) _ _ _
  rcases hc with rfl|rfl|rfl|rfl
  all_goals
   apply run_sound 200
   simp-implicitDefEqProofs+decide only[go_sem,hloc,Atr.T,I,sI,h1,h2,hm1,hm2]
   refine CallG.pool _ Tryz.call145 c1 (hbI 0) (by rintro (_|_|_|_|_) hp<;>first|(cases hp;done)|(rw[k0];simp-implicitDefEqProofs+decide only[go_sem])) ?_
   apply run_sound 200
   simp-implicitDefEqProofs+decide only[go_sem,hlI,hloc,Atr.T,I,sI,h1,h2,hm1,hm2,hko,hkf]
   exact endC.one (ws:=[(.fld (m+1) 0,.arr 5 ((z::r).map Vx.T) r.length (r.length+1))]) (acc:=[.fld (m+1) 0]) (.inr rfl) (by simp-implicitDefEqProofs+decide only[go_sem,valC,hm1,hm2];rfl) (by simp-implicitDefEqProofs+decide only[go_sem,reify,reifyL,reify1,hkf,hlI]) (by rintro (_|_|_|_|_) hp<;>first|(cases hp;done)|(rw[hZ];simp-implicitDefEqProofs+decide only[go_sem,hlI])) rfl
 ·have hP:knownL op ⟨a1,a2,a3,a4,a5,a6,a7,a8,ak,al⟩=[(0,1),(1,1),(-1,1)]:=by unfold knownL;rw[if_neg (by omega),if_neg (by omega),if_pos hc]
  rw[hP]at k0 cs hbI hlI hbZ⊢
  have c1:=cs 0 0 1 rfl i01.1 i01.2.1
  have c2:=cs 1 1 1 rfl i01.2.1 i01.2.1
  have c3:=cs 2 (-1) 1 rfl i01.2.2 i01.2.1
  have hlen:=readyE_len md s [(0,1),(1,1),(-1,1)] 3
  obtain⟨z,r,hzr⟩:∃z r,(readyE md s [(0,1),(1,1),(-1,1)] 3).l=z::r:=by
   cases hq:(readyE md s [(0,1),(1,1),(-1,1)] 3).l with
   |nil=>rw[hq]at hlen;cases hlen
   |cons a b=>exact⟨a,b,rfl⟩
  have hko:knI h m id md mc tie s [(0,1),(1,1),(-1,1)] 3 (.obj (m+1))=some (.box [.sl (.fld (m+1) 0) r.length 0 (r.length+1)]):=by unfold knI knH;rw[upd_same,hzr];rfl
  have hkf:knI h m id md mc tie s [(0,1),(1,1),(-1,1)] 3 (.fld (m+1) 0)=some (.arr 5 ((z::r).map Vx.T) r.length 0):=by unfold knI knH;rw[upd_ne _ _ _ _ (fun e=>by cases e),upd_same,hzr];rfl
  have hZ:∀l,knZ h m id md mc tie s [(0,1),(1,1),(-1,1)] l=upd (knI h m id md mc tie s [(0,1),(1,1),(-1,1)] 3) (.fld (m+1) 0) (some (.arr 5 ((z::r).map Vx.T) r.length (r.length+1))) l:=fun l=>by
   show upd (knI h m id md mc tie s [(0,1),(1,1),(-1,1)] 3) _ (match (readyE md s [(0,1),(1,1),(-1,1)] 3).l with|[]=>none|z::r=>some (.arr 5 ((z::r).map Vx.T) r.length (r.length+1))) l=_
   rw[hzr]
  rw[show([(0,1),(1,1),(-1,1)]:List (Int×Int)).length=3 from rfl,hzr]
  show Goes _ (endC _ _ [.t (.agg [.slice ((z::r).map Vx.T)])] _ _) _ _ _
  subst hc
  all_goals
   apply run_sound 200
   simp-implicitDefEqProofs+decide only[go_sem,hloc,Atr.T,I,sI,h1,h2,hm1,hm2]
   refine CallG.pool _ Tryz.call145 c1 (hbI 0) (by rintro (_|_|_|_|_) hp<;>first|(cases hp;done)|(rw[k0];simp-implicitDefEqProofs+decide only[go_sem])) ?_
   apply run_sound 200
   simp-implicitDefEqProofs+decide only[go_sem,hlI,hloc,Atr.T,I,sI,h1,h2,hm1,hm2,hko,hkf]
   refine CallG.pool _ Tryz.call145 c2 (hbI 1) (by rintro (_|_|_|_|_) hp<;>first|(cases hp;done)|simp-implicitDefEqProofs+decide only[go_sem,hlI]) ?_
   apply run_sound 200
   simp-implicitDefEqProofs+decide only[go_sem,hlI,hloc,Atr.T,I,sI,h1,h2,hm1,hm2,hko,hkf]
   refine CallG.pool _ Tryz.call145 c3 (hbI 2) (by rintro (_|_|_|_|_) hp<;>first|(cases hp;done)|simp-implicitDefEqProofs+decide only[go_sem,hlI]) ?_
   apply run_sound 200
   simp-implicitDefEqProofs+decide only[go_sem,hlI,hloc,Atr.T,I,sI,h1,h2,hm1,hm2,hko,hkf]
   exact endC.one (ws:=[(.fld (m+1) 0,.arr 5 ((z::r).map Vx.T) r.length (r.length+1))]) (acc:=[.fld (m+1) 0]) (.inr rfl) (by simp-implicitDefEqProofs+decide only[go_sem,valC,hm1,hm2];rfl) (by simp-implicitDefEqProofs+decide only[go_sem,reify,reifyL,reify1,hkf,hlI]) (by rintro (_|_|_|_|_) hp<;>first|(cases hp;done)|(rw[hZ];simp-implicitDefEqProofs+decide only[go_sem,hlI])) rfl
 ·have hP:knownL op ⟨a1,a2,a3,a4,a5,a6,a7,a8,ak,al⟩=[(a5,a6)]:=by unfold knownL;rw[if_neg (by omega),if_neg (by omega),if_neg (by omega),if_pos hc]
  rw[hP]at k0 cs hbI hlI hbZ⊢
  have c1:=cs 0 a5 a6 rfl hxp hxq
  have hlen:=readyE_len md s [(a5,a6)] 1
  obtain⟨z,r,hzr⟩:∃z r,(readyE md s [(a5,a6)] 1).l=z::r:=by
   cases hq:(readyE md s [(a5,a6)] 1).l with
   |nil=>rw[hq]at hlen;cases hlen
   |cons a b=>exact⟨a,b,rfl⟩
  have hko:knI h m id md mc tie s [(a5,a6)] 1 (.obj (m+1))=some (.box [.sl (.fld (m+1) 0) r.length 0 (r.length+1)]):=by unfold knI knH;rw[upd_same,hzr];rfl
  have hkf:knI h m id md mc tie s [(a5,a6)] 1 (.fld (m+1) 0)=some (.arr 5 ((z::r).map Vx.T) r.length 0):=by unfold knI knH;rw[upd_ne _ _ _ _ (fun e=>by cases e),upd_same,hzr];rfl
  have hZ:∀l,knZ h m id md mc tie s [(a5,a6)] l=upd (knI h m id md mc tie s [(a5,a6)] 1) (.fld (m+1) 0) (some (.arr 5 ((z::r).map Vx.T) r.length (r.length+1))) l:=fun l=>by
   show upd (knI h m id md mc tie s [(a5,a6)] 1) _ (match (readyE md s [(a5,a6)] 1).l with|[]=>none|z::r=>some (.arr 5 ((z::r).map Vx.T) r.length (r.length+1))) l=_
   rw[hzr]
  rw[show([(a5,a6)]:List (Int×Int)).length=1 from rfl,hzr]
  show Goes _ (endC _ _ [.t (.agg [.slice ((z::r).map Vx.T)])] _ _) _ _ _
  rcases hc with rfl|rfl
  all_goals
   apply run_sound 200
   simp-implicitDefEqProofs+decide only[go_sem,hloc,Atr.T,I,sI,h1,h2,hm1,hm2]
   refine CallG.pool _ Tryz.call145 c1 (hbI 0) (by rintro (_|_|_|_|_) hp<;>first|(cases hp;done)|(rw[k0];simp-implicitDefEqProofs+decide only[go_sem])) ?_
   apply run_sound 200
   simp-implicitDefEqProofs+decide only[go_sem,hlI,hloc,Atr.T,I,sI,h1,h2,hm1,hm2,hko,hkf]
   exact endC.one (ws:=[(.fld (m+1) 0,.arr 5 ((z::r).map Vx.T) r.length (r.length+1))]) (acc:=[.fld (m+1) 0]) (.inr rfl) (by simp-implicitDefEqProofs+decide only[go_sem,valC,hm1,hm2];rfl) (by simp-implicitDefEqProofs+decide only[go_sem,reify,reifyL,reify1,hkf,hlI]) (by rintro (_|_|_|_|_) hp<;>first|(cases hp;done)|(rw[hZ];simp-implicitDefEqProofs+decide only[go_sem,hlI])) rfl
 ·have hP:knownL op ⟨a1,a2,a3,a4,a5,a6,a7,a8,ak,al⟩=[(0,1),(a5,a6)]:=by unfold knownL;rw[if_neg (by omega),if_neg (by omega),if_neg (by omega),if_neg (by omega),if_pos hc]
  rw[hP]at k0 cs hbI hlI hbZ⊢
  have c1:=cs 0 0 1 rfl i01.1 i01.2.1
  have c2:=cs 1 a5 a6 rfl hxp hxq
  have hlen:=readyE_len md s [(0,1),(a5,a6)] 2
  obtain⟨z,r,hzr⟩:∃z r,(readyE md s [(0,1),(a5,a6)] 2).l=z::r:=by
   cases hq:(readyE md s [(0,1),(a5,a6)] 2).l with
   |nil=>rw[hq]at hlen;cases hlen
   |cons a b=>exact⟨a,b,rfl⟩
  have hko:knI h m id md mc tie s [(0,1),(a5,a6)] 2 (.obj (m+1))=some (.box [.sl (.fld (m+1) 0) r.length 0 (r.length+1)]):=by unfold knI knH;rw[upd_same,hzr];rfl
  have hkf:knI h m id md mc tie s [(0,1),(a5,a6)] 2 (.fld (m+1) 0)=some (.arr 5 ((z::r).map Vx.T) r.length 0):=by unfold knI knH;rw[upd_ne _ _ _ _ (fun e=>by cases e),upd_same,hzr];rfl
  have hZ:∀l,knZ h m id md mc tie s [(0,1),(a5,a6)] l=upd (knI h m id md mc tie s [(0,1),(a5,a6)] 2) (.fld (m+1) 0) (some (.arr 5 ((z::r).map Vx.T) r.length (r.length+1))) l:=fun l=>by
   show upd (knI h m id md mc tie s [(0,1),(a5,a6)] 2) _ (match (readyE md s [(0,1),(a5,a6)] 2).l with|[]=>none|z::r=>some (.arr 5 ((z::r).map Vx.T) r.length (r.length+1))) l=_
   rw[hzr]
  rw[show([(0,1),(a5,a6)]:List (Int×Int)).length=2 from rfl,hzr]
  show Goes _ (endC _ _ [.t (.agg [.slice ((z::r).map Vx.T)])] _ _) _ _ _
  subst hc
  all_goals
   apply run_sound 200
   simp-implicitDefEqProofs+decide only[go_sem,hloc,Atr.T,I,sI,h1,h2,hm1,hm2]
   refine CallG.pool _ Tryz.call145 c1 (hbI 0) (by rintro (_|_|_|_|_) hp<;>first|(cases hp;done)|(rw[k0];simp-implicitDefEqProofs+decide only[go_sem])) ?_
   apply run_sound 200
   simp-implicitDefEqProofs+decide only[go_sem,hlI,hloc,Atr.T,I,sI,h1,h2,hm1,hm2,hko,hkf]
   refine CallG.pool _ Tryz.call145 c2 (hbI 1) (by rintro (_|_|_|_|_) hp<;>first|(cases hp;done)|simp-implicitDefEqProofs+decide only[go_sem,hlI]) ?_
   apply run_sound 200
   simp-implicitDefEqProofs+decide only[go_sem,hlI,hloc,Atr.T,I,sI,h1,h2,hm1,hm2,hko,hkf]
   exact endC.one (ws:=[(.fld (m+1) 0,.arr 5 ((z::r).map Vx.T) r.length (r.length+1))]) (acc:=[.fld (m+1) 0]) (.inr rfl) (by simp-implicitDefEqProofs+decide only[go_sem,valC,hm1,hm2];rfl) (by simp-implicitDefEqProofs+decide only[go_sem,reify,reifyL,reify1,hkf,hlI]) (by rintro (_|_|_|_|_) hp<;>first|(cases hp;done)|(rw[hZ];simp-implicitDefEqProofs+decide only[go_sem,hlI])) rfl
 ·have hP:knownL op ⟨a1,a2,a3,a4,a5,a6,a7,a8,ak,al⟩=[(a5,a6),(a7,a8)]:=by unfold knownL;rw[if_neg (by omega),if_neg (by omega),if_neg (by omega),if_neg (by omega),if_neg (by omega),if_pos hc]
  rw[hP]at k0 cs hbI hlI hbZ⊢
  have c1:=cs 0 a5 a6 rfl hxp hxq
  have c2:=cs 1 a7 a8 rfl hxr hxs
  have hlen:=readyE_len md s [(a5,a6),(a7,a8)] 2
  obtain⟨z,r,hzr⟩:∃z r,(readyE md s [(a5,a6),(a7,a8)] 2).l=z::r:=by
   cases hq:(readyE md s [(a5,a6),(a7,a8)] 2).l with
   |nil=>rw[hq]at hlen;cases hlen
   |cons a b=>exact⟨a,b,rfl⟩
  have hko:knI h m id md mc tie s [(a5,a6),(a7,a8)] 2 (.obj (m+1))=some (.box [.sl (.fld (m+1) 0) r.length 0 (r.length+1)]):=by unfold knI knH;rw[upd_same,hzr];rfl
  have hkf:knI h m id md mc tie s [(a5,a6),(a7,a8)] 2 (.fld (m+1) 0)=some (.arr 5 ((z::r).map Vx.T) r.length 0):=by unfold knI knH;rw[upd_ne _ _ _ _ (fun e=>by cases e),upd_same,hzr];rfl
  have hZ:∀l,knZ h m id md mc tie s [(a5,a6),(a7,a8)] l=upd (knI h m id md mc tie s [(a5,a6),(a7,a8)] 2) (.fld (m+1) 0) (some (.arr 5 ((z::r).map Vx.T) r.length (r.length+1))) l:=fun l=>by
   show upd (knI h m id md mc tie s [(a5,a6),(a7,a8)] 2) _ (match (readyE md s [(a5,a6),(a7,a8)] 2).l with|[]=>none|z::r=>some (.arr 5 ((z::r).map Vx.T) r.length (r.length+1))) l=_
   rw[hzr]
  rw[show([(a5,a6),(a7,a8)]:List (Int×Int)).length=2 from rfl,hzr]
  show Goes _ (endC _ _ [.t (.agg [.slice ((z::r).map Vx.T)])] _ _) _ _ _
  subst hc
  all_goals
   apply run_sound 200
   simp-implicitDefEqProofs+decide only[go_sem,hloc,Atr.T,I,sI,h1,h2,hm1,hm2]
   refine CallG.pool _ Tryz.call145 c1 (hbI 0) (by rintro (_|_|_|_|_) hp<;>first|(cases hp;done)|(rw[k0];simp-implicitDefEqProofs+decide only[go_sem])) ?_
   apply run_sound 200
   simp-implicitDefEqProofs+decide only[go_sem,hlI,hloc,Atr.T,I,sI,h1,h2,hm1,hm2,hko,hkf]
   refine CallG.pool _ Tryz.call145 c2 (hbI 1) (by rintro (_|_|_|_|_) hp<;>first|(cases hp;done)|simp-implicitDefEqProofs+decide only[go_sem,hlI]) ?_
   apply run_sound 200
   simp-implicitDefEqProofs+decide only[go_sem,hlI,hloc,Atr.T,I,sI,h1,h2,hm1,hm2,hko,hkf]
   exact endC.one (ws:=[(.fld (m+1) 0,.arr 5 ((z::r).map Vx.T) r.length (r.length+1))]) (acc:=[.fld (m+1) 0]) (.inr rfl) (by simp-implicitDefEqProofs+decide only[go_sem,valC,hm1,hm2];rfl) (by simp-implicitDefEqProofs+decide only[go_sem,reify,reifyL,reify1,hkf,hlI]) (by rintro (_|_|_|_|_) hp<;>first|(cases hp;done)|(rw[hZ];simp-implicitDefEqProofs+decide only[go_sem,hlI])) rfl
 ·have hP:knownL op ⟨a1,a2,a3,a4,a5,a6,a7,a8,ak,al⟩=[(0,1),(1,1)]:=by unfold knownL;rw[if_neg (by omega),if_neg (by omega),if_neg (by omega),if_neg (by omega),if_neg (by omega),if_neg (by omega),if_pos hc]
  rw[hP]at k0 cs hbI hlI hbZ⊢
  have c1:=cs 0 0 1 rfl i01.1 i01.2.1
  have c2:=cs 1 1 1 rfl i01.2.1 i01.2.1
  have hlen:=readyE_len md s [(0,1),(1,1)] 2
  obtain⟨z,r,hzr⟩:∃z r,(readyE md s [(0,1),(1,1)] 2).l=z::r:=by
   cases hq:(readyE md s [(0,1),(1,1)] 2).l with
   |nil=>rw[hq]at hlen;cases hlen
   |cons a b=>exact⟨a,b,rfl⟩
  have hko:knI h m id md mc tie s [(0,1),(1,1)] 2 (.obj (m+1))=some (.box [.sl (.fld (m+1) 0) r.length 0 (r.length+1)]):=by unfold knI knH;rw[upd_same,hzr];rfl
  have hkf:knI h m id md mc tie s [(0,1),(1,1)] 2 (.fld (m+1) 0)=some (.arr 5 ((z::r).map Vx.T) r.length 0):=by unfold knI knH;rw[upd_ne _ _ _ _ (fun e=>by cases e),upd_same,hzr];rfl
  have hZ:∀l,knZ h m id md mc tie s [(0,1),(1,1)] l=upd (knI h m id md mc tie s [(0,1),(1,1)] 2) (.fld (m+1) 0) (some (.arr 5 ((z::r).map Vx.T) r.length (r.length+1))) l:=fun l=>by
   show upd (knI h m id md mc tie s [(0,1),(1,1)] 2) _ (match (readyE md s [(0,1),(1,1)] 2).l with|[]=>none|z::r=>some (.arr 5 ((z::r).map Vx.T) r.length (r.length+1))) l=_
   rw[hzr]
  rw[show([(0,1),(1,1)]:List (Int×Int)).length=2 from rfl,hzr]
  show Goes _ (endC _ _ [.t (.agg [.slice ((z::r).map Vx.T)])] _ _) _ _ _
  subst hc
  all_goals
   apply run_sound 200
   simp-implicitDefEqProofs+decide only[go_sem,hloc,Atr.T,I,sI,h1,h2,hm1,hm2]
   refine CallG.pool _ Tryz.call145 c1 (hbI 0) (by rintro (_|_|_|_|_) hp<;>first|(cases hp;done)|(rw[k0];simp-implicitDefEqProofs+decide only[go_sem])) ?_
   apply run_sound 200
   simp-implicitDefEqProofs+decide only[go_sem,hlI,hloc,Atr.T,I,sI,h1,h2,hm1,hm2,hko,hkf]
   refine CallG.pool _ Tryz.call145 c2 (hbI 1) (by rintro (_|_|_|_|_) hp<;>first|(cases hp;done)|simp-implicitDefEqProofs+decide only[go_sem,hlI]) ?_
   apply run_sound 200
   simp-implicitDefEqProofs+decide only[go_sem,hlI,hloc,Atr.T,I,sI,h1,h2,hm1,hm2,hko,hkf]
   exact endC.one (ws:=[(.fld (m+1) 0,.arr 5 ((z::r).map Vx.T) r.length (r.length+1))]) (acc:=[.fld (m+1) 0]) (.inr rfl) (by simp-implicitDefEqProofs+decide only[go_sem,valC,hm1,hm2];rfl) (by simp-implicitDefEqProofs+decide only[go_sem,reify,reifyL,reify1,hkf,hlI]) (by rintro (_|_|_|_|_) hp<;>first|(cases hp;done)|(rw[hZ];simp-implicitDefEqProofs+decide only[go_sem,hlI])) rfl
 ·have hP:knownL op ⟨a1,a2,a3,a4,a5,a6,a7,a8,ak,al⟩=[]:=by unfold knownL;rw[if_neg (by omega),if_neg (by omega),if_neg (by omega),if_neg (by omega),if_neg (by omega),if_neg (by omega),if_neg (by omega)]
  rw[hP]at k0 cs hbI hlI hbZ⊢
  have hZ:∀l,Lab.pool l=true→knZ h m id md mc tie s [] l=upd (upd h (.obj m) (some (.box [.t (.ptr id)]))) (.obj (m+1)) (some (.box [.nil])) l:=fun l _=>by
   show upd (knI h m id md mc tie s [] 0) (.fld (m+1) 0) none l=_
   rw[←k0 l]
   by_cases e:l=.fld (m+1) 0
   ·subst e;rw[upd_same];unfold knI knH;rw[upd_ne _ _ _ _ (fun e=>by cases e),upd_same];rfl
   ·rw[upd_ne _ _ _ _ e]
  show Goes _ (endC _ _ [.t (.agg [.slice []])] _ _) _ _ _
  rcases hc with rfl|rfl|rfl|rfl|rfl|rfl|rfl|rfl|rfl|rfl|rfl|rfl|rfl
  all_goals
   apply run_sound 200
   simp-implicitDefEqProofs+decide only[go_sem,hloc,Atr.T,I,sI,h1,h2,hm1,hm2]
   exact endC.one (ws:=[]) (.inr rfl) (by simp-implicitDefEqProofs+decide only[go_sem,valC,hm1,hm2];rfl) (by simp-implicitDefEqProofs+decide only[go_sem,reify,reifyL,reify1];rfl) (by rintro (_|_|_|_|_) hp<;>first|(cases hp;done)|(rw[hZ _ hp];simp-implicitDefEqProofs+decide only[go_sem,hloc])) rfl
theorem pk1_ok (h:Heap) (m id a b c:Nat) (md:Int) (s:Bs) (ks xs:List Vx) (k0 x0:Vx) (B:BkM h id 4 (obG id md s) s.met) (ha:h (.obj a)=some (.box [.t (.ptr id)])) (hbk:h (.obj b)=some (.box [.t (.slice (ks.map Vx.T))])) (hc:h (.obj c)=some (.box [.t (.slice (xs.map Vx.T))])) (hk0:ks[0]?=some k0) (hx0:xs[0]?=some x0)
  (hml:s.met.length<60000) (mk:k0.md=md) (mx:x0.md=md) (bk:k0.B 10000000) (bx:x0.B 10000000):
  Ret Tryz.prog 153 [.ptr a,.ptr b,.ptr c] h m [.t (.bool (lessV k0 x0))] (bkU h id 4 (obG id md (lessS s k0 x0)) (lessS s k0 x0).met) m:=by
 have hb:=B.hb
 have hloc:∀d j,h (.loc d j)=none:=fun d j=>hb _ rfl
 have cl:=lessG_ok h m id md s k0 x0 B hml mk mx bk bx
 have hu0:=bkU_self B
 obtain⟨o,ho⟩:=mtR_snoc s.met (lessV k0 x0)
 have hwr:∀l,bkU h id 4 (obG id md (lessS s k0 x0)) (lessS s k0 x0).met l=writes h [(.obj id,obG id md (lessS s k0 x0)),(.fld id 4,o)] l:=fun l=>by
  have:=bkU_writes (h:=h) (id:=id) (f:=4) (o:=obG id md s) (o':=obG id md (lessS s k0 x0)) (met:=s.met) ho l
  rw[hu0]at this
  exact this
 have hlu:∀d j,bkU h id 4 (obG id md (lessS s k0 x0)) (lessS s k0 x0).met (.loc d j)=none:=fun d j=>bkU_hb hb _ rfl
 have gk:(ks.map Vx.T)[0]?=some k0.T:=by rw[List.getElem?_map,hk0];rfl
 have gx:(xs.map Vx.T)[0]?=some x0.T:=by rw[List.getElem?_map,hx0];rfl
 generalize ks.map Vx.T=kt at*
 generalize xs.map Vx.T=xt at*
 have hbU:=bkU_hb (id:=id) (f:=4) (o:=obG id md (lessS s k0 x0)) (met:=(lessS s k0 x0).met) hb
 refine Ret.intro Tryz.func153 rfl (rt:=[3]) rfl (by simp[Tryz.ntmps153]) (by decide) (sites:=fun _=>false) hbU (bkU_keeps B) ?_
 obtain⟨s',hs'⟩:∃s',lessS s k0 x0=s':=⟨_,rfl⟩
 rw[hs']at cl hwr hlu⊢
 generalize lessV k0 x0=v at*
 simp only[Vx_T]at cl gk gx
 have t0:Int.toNat 0=0:=rfl
 have t1:Int.toNat 1=1:=rfl
 apply run_sound 200
 simp-implicitDefEqProofs+decide only[go_sem,ha,hbk,hc,hloc]
 refine Goes.dP ?_
 simp-implicitDefEqProofs+decide only[go_sem,ha,hbk,hc,gk,gx,t0,t1,hloc]
 refine CallD.make _ [(.obj id,obG id md s'),(.fld id 4,o)] 0 Tryz.call132 cl rfl hb (by rintro (_|_|_|_|_) hp<;>first|(cases hp;done)|simp-implicitDefEqProofs+decide only[go_sem,hloc]) (fun l _=>hwr l) rfl (.inr rfl) ?_
 simp-implicitDefEqProofs+decide only[go_sem,hloc,hlu]
 refine⟨.mk (by kernel_rfl),?_⟩
 apply run_sound 200
 simp-implicitDefEqProofs+decide only[go_sem,hloc,hlu]
 exact endF.oneH (.inr rfl) (by simp-implicitDefEqProofs+decide only[go_sem]) rfl (by rintro (_|_|_|_|_) hp<;>first|(cases hp;done)|simp-implicitDefEqProofs+decide only[go_sem,hloc,hlu,hwr]) rfl
theorem pk2_ok (h:Heap) (m id a b c:Nat) (md:Int) (s:Bs) (ks xs:List Vx) (k0 x0:Vx) (B:BkM h id 4 (obG id md s) s.met) (ha:h (.obj a)=some (.box [.t (.ptr id)])) (hbk:h (.obj b)=some (.box [.t (.slice (ks.map Vx.T))])) (hc:h (.obj c)=some (.box [.t (.slice (xs.map Vx.T))])) (hk0:ks[1]?=some k0) (hx0:xs[0]?=some x0)
  (hml:s.met.length<60000) (mk:k0.md=md) (mx:x0.md=md) (bk:k0.B 10000000) (bx:x0.B 10000000):
  Ret Tryz.prog 154 [.ptr a,.ptr b,.ptr c] h m [.t (.bool (lessV k0 x0))] (bkU h id 4 (obG id md (lessS s k0 x0)) (lessS s k0 x0).met) m:=by
 have hb:=B.hb
 have hloc:∀d j,h (.loc d j)=none:=fun d j=>hb _ rfl
 have cl:=lessG_ok h m id md s k0 x0 B hml mk mx bk bx
 have hu0:=bkU_self B
 obtain⟨o,ho⟩:=mtR_snoc s.met (lessV k0 x0)
 have hwr:∀l,bkU h id 4 (obG id md (lessS s k0 x0)) (lessS s k0 x0).met l=writes h [(.obj id,obG id md (lessS s k0 x0)),(.fld id 4,o)] l:=fun l=>by
  have:=bkU_writes (h:=h) (id:=id) (f:=4) (o:=obG id md s) (o':=obG id md (lessS s k0 x0)) (met:=s.met) ho l
  rw[hu0]at this
  exact this
 have hlu:∀d j,bkU h id 4 (obG id md (lessS s k0 x0)) (lessS s k0 x0).met (.loc d j)=none:=fun d j=>bkU_hb hb _ rfl
 have gk:(ks.map Vx.T)[1]?=some k0.T:=by rw[List.getElem?_map,hk0];rfl
 have gx:(xs.map Vx.T)[0]?=some x0.T:=by rw[List.getElem?_map,hx0];rfl
 generalize ks.map Vx.T=kt at*
 generalize xs.map Vx.T=xt at*
 have hbU:=bkU_hb (id:=id) (f:=4) (o:=obG id md (lessS s k0 x0)) (met:=(lessS s k0 x0).met) hb
 refine Ret.intro Tryz.func154 rfl (rt:=[3]) rfl (by simp[Tryz.ntmps154]) (by decide) (sites:=fun _=>false) hbU (bkU_keeps B) ?_
 obtain⟨s',hs'⟩:∃s',lessS s k0 x0=s':=⟨_,rfl⟩
 rw[hs']at cl hwr hlu⊢
 generalize lessV k0 x0=v at*
 simp only[Vx_T]at cl gk gx
 have t0:Int.toNat 0=0:=rfl
 have t1:Int.toNat 1=1:=rfl
 apply run_sound 200
 simp-implicitDefEqProofs+decide only[go_sem,ha,hbk,hc,hloc]
 refine Goes.dP ?_
 simp-implicitDefEqProofs+decide only[go_sem,ha,hbk,hc,gk,gx,t0,t1,hloc]
 refine CallD.make _ [(.obj id,obG id md s'),(.fld id 4,o)] 0 Tryz.call132 cl rfl hb (by rintro (_|_|_|_|_) hp<;>first|(cases hp;done)|simp-implicitDefEqProofs+decide only[go_sem,hloc]) (fun l _=>hwr l) rfl (.inr rfl) ?_
 simp-implicitDefEqProofs+decide only[go_sem,hloc,hlu]
 refine⟨.mk (by kernel_rfl),?_⟩
 apply run_sound 200
 simp-implicitDefEqProofs+decide only[go_sem,hloc,hlu]
 exact endF.oneH (.inr rfl) (by simp-implicitDefEqProofs+decide only[go_sem]) rfl (by rintro (_|_|_|_|_) hp<;>first|(cases hp;done)|simp-implicitDefEqProofs+decide only[go_sem,hloc,hlu,hwr]) rfl
theorem choice_t (h:Heap) (m g a b c:Nat) (hb:∀l,Lab.pool l=false→h l=none):Ret Tryz.prog 152 [.bool true,.fn g [.ptr a,.ptr b,.ptr c]] h m [.t (.int .i64 1)] h m:=by
 have hloc:∀d j,h (.loc d j)=none:=fun d j=>hb _ rfl
 refine Ret.iF Tryz.func152 [4] ?_
 refine SmA ?_
 exact endF.oneH (.inr rfl) (by simp-implicitDefEqProofs+decide only[go_sem]) rfl (by rintro (_|_|_|_|_) hp<;>first|(cases hp;done)|simp-implicitDefEqProofs+decide only[go_sem,hloc]) rfl
theorem choice_f (h h':Heap) (m g a b c:Nat) (r:Bool) (hb:∀l,Lab.pool l=false→h l=none) (he:Entry Tryz.prog g) (hg:Ret Tryz.prog g [.ptr a,.ptr b,.ptr c] h m [.t (.bool r)] h' m):Ret Tryz.prog 152 [.bool false,.fn g [.ptr a,.ptr b,.ptr c]] h m [.t (.int .i64 (if r=true then 2 else 0))] h' m:=by
 have hloc:∀d j,h (.loc d j)=none:=fun d j=>hb _ rfl
 have hb':=hg.1
 have hloc':∀d j,h' (.loc d j)=none:=fun d j=>hb' _ rfl
 have hkp:=hg.2.1
 refine Ret.intro Tryz.func152 rfl (rt:=[4]) rfl (by simp[Tryz.ntmps152]) (by decide) (sites:=fun _=>false) hb' hkp ?_
 apply run_sound 200
 refine SmA ?_
 refine CallG.Q _ he hg ?_
 cases r with
 | true =>
   simp-implicitDefEqProofs+decide only[go_sem,hloc,hloc']
   exact endF.oneH (.inr rfl) (by simp-implicitDefEqProofs+decide only[go_sem,if_true]) rfl (by rintro (_|_|_|_|_) hp<;>first|(cases hp;done)|simp-implicitDefEqProofs+decide only[go_sem,hloc,hloc']) rfl
 | false =>
   simp-implicitDefEqProofs+decide only[go_sem,hloc,hloc']
   exact endF.oneH (.inr rfl) (by simp-implicitDefEqProofs+decide only[go_sem,Bool.false_eq_true,if_false]) rfl (by rintro (_|_|_|_|_) hp<;>first|(cases hp;done)|simp-implicitDefEqProofs+decide only[go_sem,hloc,hloc']) rfl
def pickV (op:Int) (k x:List Vx):Vx×Int:=
 if op=4 then (if lessV (x.getD 0 v0) (k.getD 0 v0)=true then (negV (x.getD 0 v0),1) else (x.getD 0 v0,0))
 else if op=5 then (if lessV (x.getD 0 v0) (k.getD 0 v0)=true then (k.getD 2 v0,1) else if lessV (k.getD 0 v0) (x.getD 0 v0)=true then (k.getD 1 v0,2) else (k.getD 0 v0,0))
 else if op=6 then (if lessV (k.getD 0 v0) (x.getD 0 v0)=true then (x.getD 0 v0,1) else (k.getD 0 v0,0))
 else if op=15 then (if lessV (x.getD 0 v0) (k.getD 0 v0)=true then (k.getD 0 v0,1) else if lessV (k.getD 1 v0) (x.getD 0 v0)=true then (k.getD 1 v0,2) else (x.getD 0 v0,0))
 else if op=16 then (if lessV (x.getD 0 v0) (k.getD 0 v0)=true then (mulV (x.getD 0 v0) (k.getD 1 v0),1) else (x.getD 0 v0,0))
 else if op=21 then (if lessV (x.getD 0 v0) (x.getD 1 v0)=true then (x.getD 1 v0,1) else (x.getD 0 v0,0))
 else if op=22 then (if lessV (x.getD 1 v0) (x.getD 0 v0)=true then (x.getD 1 v0,1) else (x.getD 0 v0,0))
 else if op=23 then (if lessV (x.getD 0 v0) (x.getD 1 v0)=true then (k.getD 1 v0,1) else (k.getD 0 v0,0))
 else (if lessV (k.getD 0 v0) (x.getD 0 v0)=true then (x.getD 1 v0,1) else (x.getD 2 v0,0))
def incS (s:Bs):Bs:=⟨s.k+1,s.met,s.tie⟩
def pickS (op:Int) (s:Bs) (k x:List Vx):Bs:=
 if op=4∨op=16 then (if lessV (x.getD 0 v0) (k.getD 0 v0)=true then incS (lessS s (x.getD 0 v0) (k.getD 0 v0)) else lessS s (x.getD 0 v0) (k.getD 0 v0))
 else if op=5 then (if lessV (x.getD 0 v0) (k.getD 0 v0)=true then lessS s (x.getD 0 v0) (k.getD 0 v0) else lessS (lessS s (x.getD 0 v0) (k.getD 0 v0)) (k.getD 0 v0) (x.getD 0 v0))
 else if op=15 then (if lessV (x.getD 0 v0) (k.getD 0 v0)=true then lessS s (x.getD 0 v0) (k.getD 0 v0) else lessS (lessS s (x.getD 0 v0) (k.getD 0 v0)) (k.getD 1 v0) (x.getD 0 v0))
 else if op=21∨op=23 then lessS s (x.getD 0 v0) (x.getD 1 v0)
 else if op=22 then lessS s (x.getD 1 v0) (x.getD 0 v0)
 else lessS s (k.getD 0 v0) (x.getD 0 v0)
def pkH (h:Heap) (m id:Nat) (ks xs:List Vx):Heap:=upd (upd (upd h (.obj m) (some (.box [.t (.ptr id)]))) (.obj (m+1)) (some (.box [.t (sX ks)]))) (.obj (m+2)) (some (.box [.t (sX xs)]))
theorem pkH_ne {h:Heap} {m id:Nat} {ks xs:List Vx} {l:Lab} (h0:l≠.obj m) (h1:l≠.obj (m+1)) (h2:l≠.obj (m+2)):pkH h m id ks xs l=h l:=by
 unfold pkH;rw[upd_ne _ _ _ _ h2,upd_ne _ _ _ _ h1,upd_ne _ _ _ _ h0]
theorem pkH_M {h:Heap} {m id:Nat} {ks xs:List Vx} {o:Obj} {met:List Bool} (B:BkM h id 4 o met) (hid:id<m):BkM (pkH h m id ks xs) id 4 o met:=
 ⟨upd_hb (upd_hb (upd_hb B.hb)),by rw[pkH_ne (fun e=>by have:=Lab.obj.inj e;omega) (fun e=>by have:=Lab.obj.inj e;omega) (fun e=>by have:=Lab.obj.inj e;omega)];exact B.o,
   by rw[pkH_ne (fun e=>by cases e) (fun e=>by cases e) (fun e=>by cases e)];exact B.f⟩
theorem pkH_get {h:Heap} {m id:Nat} {ks xs:List Vx}:pkH h m id ks xs (.obj m)=some (.box [.t (.ptr id)])∧pkH h m id ks xs (.obj (m+1))=some (.box [.t (sX ks)])∧pkH h m id ks xs (.obj (m+2))=some (.box [.t (sX xs)]):=by
 unfold pkH
 refine⟨?_,?_,upd_same _ _ _⟩
 ·rw[upd_ne _ _ _ _ (fun e=>by have:=Lab.obj.inj e;omega),upd_ne _ _ _ _ (fun e=>by have:=Lab.obj.inj e;omega),upd_same]
 ·rw[upd_ne _ _ _ _ (fun e=>by have:=Lab.obj.inj e;omega),upd_same]
theorem pkH_keeps {h:Heap} {m id:Nat} {ks xs:List Vx}:Keeps h (pkH h m id ks xs):=by
 refine⟨fun id' cs hc=> ?_,fun i o hc=>⟨o,by rw[pkH_ne (fun e=>by cases e) (fun e=>by cases e) (fun e=>by cases e)];exact hc,ArgStep.refl _⟩⟩
 by_cases h2:Lab.obj id'=.obj (m+2)
 ·unfold pkH;rw[h2,upd_same];exact⟨_,rfl⟩
 by_cases h1:Lab.obj id'=.obj (m+1)
 ·unfold pkH;rw[upd_ne _ _ _ _ h2,h1,upd_same];exact⟨_,rfl⟩
 by_cases h0:Lab.obj id'=.obj m
 ·unfold pkH;rw[upd_ne _ _ _ _ h2,upd_ne _ _ _ _ h1,h0,upd_same];exact⟨_,rfl⟩
 rw[pkH_ne h0 h1 h2];exact⟨cs,hc⟩
def sgP (m id:Nat) (l:Lab):Lab:=if l=.obj m then .obj 1 else if l=.obj (m+1) then .obj 2 else if l=.obj (m+2) then .obj 3 else if l=.obj id then .obj 0 else if l=.fld id 4 then .fld 0 4 else l
theorem sgP_pool (m id:Nat) (l:Lab):Lab.pool (sgP m id l)=Lab.pool l:=by
 unfold sgP
 split
 ·subst l;rfl
 split
 ·subst l;rfl
 split
 ·subst l;rfl
 split
 ·subst l;rfl
 split
 ·subst l;rfl
 rfl
theorem sgP0 (m id:Nat):sgP m id (.obj m)=.obj 1:=if_pos rfl
theorem sgP1 (m id:Nat):sgP m id (.obj (m+1))=.obj 2:=by unfold sgP;rw[if_neg (fun e=>by have:=Lab.obj.inj e;omega),if_pos rfl]
theorem sgP2 (m id:Nat):sgP m id (.obj (m+2))=.obj 3:=by unfold sgP;rw[if_neg (fun e=>by have:=Lab.obj.inj e;omega),if_neg (fun e=>by have:=Lab.obj.inj e;omega),if_pos rfl]
theorem sgP3 {m id:Nat} (h:id<m):sgP m id (.obj id)=.obj 0:=by unfold sgP;rw[if_neg (fun e=>by have:=Lab.obj.inj e;omega),if_neg (fun e=>by have:=Lab.obj.inj e;omega),if_neg (fun e=>by have:=Lab.obj.inj e;omega),if_pos rfl]
theorem sgP4 (m id:Nat):sgP m id (.fld id 4)=.fld 0 4:=by unfold sgP;rw[if_neg (fun e=>by cases e),if_neg (fun e=>by cases e),if_neg (fun e=>by cases e),if_neg (fun e=>by cases e),if_pos rfl]
theorem sgP5 (m id d j:Nat):sgP m id (.loc d j)=.loc d j:=by unfold sgP;rw[if_neg (fun e=>by cases e),if_neg (fun e=>by cases e),if_neg (fun e=>by cases e),if_neg (fun e=>by cases e),if_neg (fun e=>by cases e)]
theorem two_writes {h:Heap} {id:Nat} {md:Int} {s:Bs} (B:BkM h id 4 (obG id md s) s.met) (x y:Vx):∃o,∀l,bkU h id 4 (obG id md (lessS s x y)) (lessS s x y).met l=writes h [(.obj id,obG id md (lessS s x y)),(.fld id 4,o)] l:=by
 obtain⟨o,ho⟩:=mtR_snoc s.met (lessV x y)
 refine⟨o,fun l=> ?_⟩
 have:=bkU_writes (h:=h) (id:=id) (f:=4) (o:=obG id md s) (o':=obG id md (lessS s x y)) (met:=s.met) ho l
 rwa [bkU_self B]at this
theorem pkN {m id:Nat} (hid:id<m):((m+1=m)=False)∧((m+2=m)=False)∧((m+2=m+1)=False)∧((m=m+1)=False)∧((m=m+2)=False)∧((m+1=m+2)=False)∧((m=id)=False)∧((m+1=id)=False)∧((m+2=id)=False)∧Int.toNat 0=0∧Int.toNat 1=1∧Int.toNat 2=2:=
 ⟨eq_false (by omega),eq_false (by omega),eq_false (by omega),eq_false (by omega),eq_false (by omega),eq_false (by omega),eq_false (by omega),eq_false (by omega),eq_false (by omega),rfl,rfl,rfl⟩
theorem PkA {a b:Prop} (h:b) (e:a=b:=by simp-implicitDefEqProofs+decide only[go_sem,List.map_cons,List.map_nil,sX,m1,m2,m3,m4,m5,m6,m7,m8,m9,n0,n1,n2,p0,p1,p2,t0,t1,t2,hloc,hloc0];rfl):a:=Eq.mpr e h
theorem PkB {a b:Prop} (h:b) (e:a=b:=by simp-implicitDefEqProofs+decide only[go_sem,List.map_cons,List.map_nil,sX,m1,m2,m3,m4,m5,m6,m7,m8,m9,n0,n1,n2,p0,p1,p2,t0,t1,t2,hloc,hloc0,hlu];rfl):a:=Eq.mpr e h
theorem PkC {a b:Prop} (h:b) (e:a=b:=by simp-implicitDefEqProofs+decide only[go_sem,List.map_cons,List.map_nil,sX,m1,m2,m3,m4,m5,m6,m7,m8,m9,n0,n1,n2,p0,p1,p2,t0,t1,t2,hloc,hloc0,hlu,hlu2];rfl):a:=Eq.mpr e h
theorem PkL {m id:Nat} {pm:Bool} {all:Array Oper} {fs:List Foot} {Q:Prop} (hid:id<m) (h:Q) (hq:lookOk pm all (fs.map (renF (sgP m id))):=by exact lookOk.mk (by simp only[List.map_cons,List.map_nil,List.map_append,renF,sgP0,sgP1,sgP2,sgP3 hid,sgP4,sgP5];kernel_rfl)):lookOk pm all fs∧Q:=⟨lookOk.ren _ (sgP_pool m id) hq,h⟩
theorem Goes.dQ {E:Env} {F:Exit→St→Prop} {k:List Kont} {all:Array Oper} {id:Nat} {s:St} (h:runD E F true all k all.toList [] s) (hm:E.P.follows .mixedOrders=true:=by exact mixed)
  (hp:Calm s:=by exact Calm.of (by repeat first|exact Clean.und|refine Clean.upd ?_ rfl|refine Clean.upd ?_ (by simp only[cleanA,cleanL])) (by repeat first|exact HCalm.hb hb0|exact HCalm.hb hb1|refine HCalm.objB ?_|refine HCalm.row ?_|refine HCalm.box ?_ (by first|rfl|(simp only[cleanA,cleanL];done)))):Goes E F (.code (.region id all true)::k) .normal s:=Goes.drawP hm hp h
theorem CallD.N {E:Env} {F:Exit→St→Prop} {pm:Bool} {all:Array Oper} {o:Oper} {gT:List Nat} {r:List Oper} {fs:List Foot} {g:FuncId} {xs:List AV} {ts:List T} {ws:List (Lab×Obj)} {acc:List Lab} {s:St} {k:List Kont} (rs:List RC) {h h':Heap} (W:List (Lab×Obj)) (he:Entry E.P g) (hP:Ret E.P g ts h s.nxt rs h' (s.nxt+0))
  (hr:runD E F pm all k r (fs++[⟨o.dst,gT++tmpsOf o,acc++[],(ws++W).map (·.1),true,calmD {v:=retVal none rs,w:=ws++W,nx:=0}⟩]) (s.app o.dst {v:=retVal none rs,w:=ws++W,nx:=0}))
  (hws:(ws.all fun q=> !q.1.pool&&(match q.2 with|.arr ..=>true|_=>false))=true:=by rfl) (hb:∀l,Lab.pool l=false→h l=none:=by first|exact hb|exact hb1)
  (hh:∀l,Lab.pool l=true→s.h l=h l:=by rintro (_|_|_|_|_) hp<;>first|(cases hp;done)|(simp-implicitDefEqProofs+decide only[go_sem,hloc,hloc0];done)|(rw[←hH];simp-implicitDefEqProofs+decide only[go_sem,sX,List.map_cons,List.map_nil,hloc,hloc0];done)|(rw[hwr];simp-implicitDefEqProofs+decide only[go_sem,hloc,hloc0];done)|(rw[hwr];simp-implicitDefEqProofs+decide only[go_sem,←hH,hloc,hloc0];done))
  (hW:∀l,Lab.pool l=true→h' l=writes h W l:=by first|exact fun l _=>hwr l|exact fun l _=>hwr2 l) (hWp:(W.all fun q=>Lab.pool q.1)=true:=by rfl):CallD E F pm all o gT r fs g xs ts ws acc s k:=CallD.make rs W 0 he hP hws hb hh hW hWp (.inr rfl) hr
theorem endC.X {P:Program} {rv rv':RV} {y y':AV} {t t':T} {h':Heap} {m':Nat} {e:Exit} {s:St} (hv:valC P s rv=some y:=by simp-implicitDefEqProofs+decide only[go_sem,valC];rfl) (hv':valC P s rv'=some y':=by simp-implicitDefEqProofs+decide only[go_sem,valC];rfl) (hr:reify y=.ret (t,[]):=by rfl) (hr':reify y'=.ret (t',[]):=by rfl)
  (he:e=.normal∨e=.ret:=by exact .inr rfl) (hh:∀l,Lab.pool l=true→h' l=s.h l:=by rintro (_|_|_|_|_) hp<;>first|(cases hp;done)|(rw[hwr];simp-implicitDefEqProofs+decide only[go_sem,hloc,hloc0];done)|(rw[hwr];simp-implicitDefEqProofs+decide only[go_sem,←hH,hloc,hloc0];done)|(rw[hU,hwr2];simp-implicitDefEqProofs+decide only[go_sem,hwr,hloc,hloc0];done)|(rw[hU,hwr2];simp-implicitDefEqProofs+decide only[go_sem,hwr,←hH,hloc,hloc0];done))
  (hn:s.nxt=m':=by rfl):endC P [rv,rv'] [.t t,.t t'] h' m' e s:=endC.twoV he hv hv' hr hr' hh hn
theorem Pk.i {P:Program} {g:FuncId} {fn:Func} {c:Code} {ts:List T} {h h':Heap} {m m':Nat} {rs:List RC} (hf:P.funcs[g]?=some fn) (rv:List RV) (hg:Goes ⟨P,fn.ntmps,fun d=>d==4||d==6||d==7⟩ (endC P rv rs h' m') [.code c] .normal ⟨ofL (argL 0 ts),h,m⟩)
  (hc:fn.body=some c:=by rfl) (hres:fn.results=(rv.map RV.var).toArray:=by rfl) (hts:ts.length≤fn.ntmps:=by exact Nat.le_of_ble_eq_true rfl) (hok:okC fn.ntmps c=true:=by decide) (hn:∀l,Lab.pool l=false→h' l=none:=by first|exact bkU_hb hb|exact hbF)
  (hk:Keeps h h':=by exact keeps_then hpk (fun id2 cs hc=>(bkU_keeps B).1 id2 cs hc) (fun i=>by unfold bkU;rw[upd_ne _ _ _ _ (fun e=>by cases e),upd_ne _ _ _ _ (fun e=>by cases e),←hHe,pkH_ne (fun e=>by cases e) (fun e=>by cases e) (fun e=>by cases e)])):Ret P g ts h m rs h' m':=Ret.introC hf hc hres hts hok hn hk hg
set_option maxHeartbeats 4000000 in
theorem pick4_ok (h:Heap) (m id:Nat) (md:Int) (s:Bs) (k0 x0:Vx) (B0:BkM h id 4 (obG id md s) s.met) (hid:id<m) (n0:h (.obj m)=none) (n1:h (.obj (m+1))=none) (n2:h (.obj (m+2))=none) (hml:s.met.length<50000) (hkb:s.k<1000000) (gk0:k0.md=md∧k0.B 1000000) (gx0:x0.md=md∧x0.B 1000000):
  Ret Tryz.prog 92 [.ptr id,.int .i64 4,sX [k0],sX [x0]] h m [.t (pickV 4 [k0] [x0]).1.T,.t (.int .i64 (pickV 4 [k0] [x0]).2)] (bkU (pkH h m id [k0] [x0]) id 4 (obG id md (pickS 4 s [k0] [x0])) (pickS 4 s [k0] [x0]).met) (m+3):=by
 have hb0:=B0.hb
 have hloc0:∀d j,h (.loc d j)=none:=fun d j=>hb0 _ rfl
 have B:=pkH_M (ks:=[k0]) (xs:=[x0]) B0 hid
 obtain⟨p0,p1,p2⟩:=pkH_get (h:=h) (m:=m) (id:=id) (ks:=[k0]) (xs:=[x0])
 have hpk:=pkH_keeps (h:=h) (m:=m) (id:=id) (ks:=[k0]) (xs:=[x0])
 have hH:∀l,upd (upd (upd h (.obj m) (some (.box [.t (.ptr id)]))) (.obj (m+1)) (some (.box [.t (sX [k0])]))) (.obj (m+2)) (some (.box [.t (sX [x0])])) l=pkH h m id [k0] [x0] l:=fun _=>rfl
 obtain⟨H,hHe⟩:∃H,pkH h m id [k0] [x0]=H:=⟨_,rfl⟩
 rw[hHe]at B p0 p1 p2 hpk hH⊢
 have hb:=B.hb
 have hloc:∀d j,H (.loc d j)=none:=fun d j=>hb _ rfl
 have cl:=lessG_ok H (m+3) id md s x0 k0 B (by omega) gx0.1 gk0.1 (gx0.2.mono (by decide)) (gk0.2.mono (by decide))
 obtain⟨o,hwr⟩:=two_writes B x0 k0
 have hlu:∀d j,bkU H id 4 (obG id md (lessS s x0 k0)) (lessS s x0 k0).met (.loc d j)=none:=fun d j=>bkU_hb hb _ rfl
 obtain⟨m1,m2,m3,m4,m5,m6,m7,m8,m9,t0,t1,t2⟩:=pkN hid
 obtain⟨s1,hs1⟩:∃s1,lessS s x0 k0=s1:=⟨_,rfl⟩
 obtain⟨v,hv⟩:∃v,lessV x0 k0=v:=⟨_,rfl⟩
 have hmet1:s1.met.length=s.met.length+1:=by rw[←hs1];unfold lessS;simp
 have hk1:s1.k=s.k:=by rw[←hs1];rfl
 have BB:=bkU_M (id:=id) (f:=4) (o:=obG id md s1) (met:=s1.met) hb
 rw[hs1]at cl hwr hlu
 rw[hv]at cl
 have hpv:pickV 4 [k0] [x0]=(if v=true then (negV x0,1) else (x0,0)):=by rw[←hv];rfl
 have hps:pickS 4 s [k0] [x0]=(if v=true then incS s1 else s1):=by rw[←hv,←hs1];rfl
 rw[hpv,hps]
 have hb1:=BB.hb
 have ko:=BB.o
 have cn:=negE_ok (bkU H id 4 (obG id md s1) s1.met) (m+3) id md (mtC id 4 s1.met) s1.tie ⟨s1.k,0⟩ x0 hb1 ko (by show s1.k<_;omega) (fun _=>⟨gx0.1,gx0.2.mono (by decide)⟩)
 rw[show(negE ⟨s1.k,0⟩ x0)=⟨negV x0,⟨s1.k+1,0⟩⟩ from rfl]at cn
 have hup:upd (bkU H id 4 (obG id md s1) s1.met) (.obj id) (some (bankE md (mtC id 4 s1.met) (s1.k+1) s1.tie 0))=bkU H id 4 (obG id md (incS s1)) s1.met:=bkU_up
 have hFin:∀l,bkU H id 4 (obG id md (incS s1)) (incS s1).met l=upd (bkU H id 4 (obG id md s1) s1.met) (.obj id) (some (bankE md (mtC id 4 s1.met) (s1.k+1) s1.tie 0)) l:=fun l=>(congrFun hup l).symm
 dsimp only at cn
 rw[hup]at cn
 have hlu2:∀d j,bkU H id 4 (obG id md (incS s1)) s1.met (.loc d j)=none:=fun d j=>bkU_hb hb _ rfl
 generalize negV x0=w at*
 refine Pk.i Tryz.func92 [.c 8 68,.s 9] ?_
 simp only[sX,List.map_cons,List.map_nil,Vx_T]at cl cn hH p0 p1 p2⊢
 cases v
 ·simp only[Bool.false_eq_true,if_false]
  apply run_sound 200
  refine PkA ?_
  refine Goes.dQ ?_
  refine PkA ?_
  refine CallD.N _ [(.obj id,obG id md s1),(.fld id 4,o)] Tryz.call132 cl ?_
  refine PkB ?_
  refine PkL hid ?_
  apply run_sound 200
  refine PkB ?_
  exact endC.X
 ·simp only[if_true]
  apply run_sound 200
  refine PkA ?_
  refine Goes.dQ ?_
  refine PkA ?_
  refine CallD.N _ [(.obj id,obG id md s1),(.fld id 4,o)] Tryz.call132 cl ?_
  refine PkB ?_
  refine PkL hid ?_
  apply run_sound 200
  refine PkB ?_
  refine Goes.wk (show Wk _ _ ⟨ofL [(4,.bp (.obj m) 0),(6,.bp (.obj (m+1)) 0),(7,.bp (.obj (m+2)) 0),(8,.bp (.loc 8 0) 0)],ofH (bkU H id 4 (obG id md s1) s1.met) [(.loc 8 0,.box [.t (.bool false),.nil,.nil,.t (.int .u64 0),.t (.int .i64 0)])],m+3⟩ from Wk.boxes _ _ hb1 rfl rfl (by simp-implicitDefEqProofs+decide only[go_sem,List.map_cons,List.map_nil,sX,m1,m2,m3,m4,m5,m6,m7,m8,m9,n0,n1,n2,p0,p1,p2,t0,t1,t2,hloc,hloc0,hlu]<;>first|rfl|skip) (by rintro (_|_|_|_|_) hp<;>first|(cases hp;done)|(rw[hwr];simp-implicitDefEqProofs+decide only[go_sem,hloc,hloc0];done)|(rw[hwr];simp-implicitDefEqProofs+decide only[go_sem,←hH,hloc,hloc0])) (by simp-implicitDefEqProofs+decide only[go_sem]<;>first|rfl|skip) (by simp-implicitDefEqProofs+decide only[go_sem]<;>first|rfl|exact⟨rfl,rfl,rfl⟩)) ?_
  have qn:∀j,j≠id→bkU H id 4 (obG id md s1) s1.met (.obj j)=H (.obj j):=fun j hj=>by unfold bkU;rw[upd_ne _ _ _ _ (fun e=>by cases e),upd_ne _ _ _ _ (fun e=>hj (Lab.obj.inj e))]
  have q0:=(qn m (by omega)).trans p0
  have q1:=(qn (m+1) (by omega)).trans p1
  have q2:=(qn (m+2) (by omega)).trans p2
  have hb:=hb1
  refine Goes.dQ ?_
  simp-implicitDefEqProofs+decide only[go_sem,ofH,q0,q1,q2,t0,t1,t2,hlu,hlu2]
  refine CallD.make _ [(.obj id,obG id md (incS s1))] 0 Tryz.call146 cn rfl hb1 (by rintro (_|_|_|_|_) hp<;>first|(cases hp;done)|simp-implicitDefEqProofs+decide only[go_sem,hlu]) (fun l _=>(congrFun hup l).symm) rfl (.inr rfl) ?_
  simp-implicitDefEqProofs+decide only[go_sem,ofH,q0,q1,q2,t0,t1,t2,hlu,hlu2]
  refine PkL hid ?_
  apply run_sound 200
  simp-implicitDefEqProofs+decide only[go_sem,ofH,q0,q1,q2,t0,t1,t2,hlu,hlu2]
  exact endC.twoV (.inr rfl) (by simp-implicitDefEqProofs+decide only[go_sem,valC];rfl) (by simp-implicitDefEqProofs+decide only[go_sem,valC];rfl) rfl rfl (by rintro (_|_|_|_|_) hp<;>first|(cases hp;done)|(rw[hFin];simp-implicitDefEqProofs+decide only[go_sem,hlu];done)|(rw[hFin];rfl)) rfl
set_option maxHeartbeats 4000000 in
theorem pick5_ok (h:Heap) (m id:Nat) (md:Int) (s:Bs) (k0 k1 k2 x0:Vx) (B0:BkM h id 4 (obG id md s) s.met) (hid:id<m) (n0:h (.obj m)=none) (n1:h (.obj (m+1))=none) (n2:h (.obj (m+2))=none) (hml:s.met.length<50000) (hkb:s.k<1000000) (gk0:k0.md=md∧k0.B 1000000) (gk1:k1.md=md∧k1.B 1000000) (gk2:k2.md=md∧k2.B 1000000) (gx0:x0.md=md∧x0.B 1000000):
  Ret Tryz.prog 92 [.ptr id,.int .i64 5,sX [k0,k1,k2],sX [x0]] h m [.t (pickV 5 [k0,k1,k2] [x0]).1.T,.t (.int .i64 (pickV 5 [k0,k1,k2] [x0]).2)] (bkU (pkH h m id [k0,k1,k2] [x0]) id 4 (obG id md (pickS 5 s [k0,k1,k2] [x0])) (pickS 5 s [k0,k1,k2] [x0]).met) (m+3):=by
 have hb0:=B0.hb
 have hloc0:∀d j,h (.loc d j)=none:=fun d j=>hb0 _ rfl
 have B:=pkH_M (ks:=[k0,k1,k2]) (xs:=[x0]) B0 hid
 obtain⟨p0,p1,p2⟩:=pkH_get (h:=h) (m:=m) (id:=id) (ks:=[k0,k1,k2]) (xs:=[x0])
 have hpk:=pkH_keeps (h:=h) (m:=m) (id:=id) (ks:=[k0,k1,k2]) (xs:=[x0])
 have hH:∀l,upd (upd (upd h (.obj m) (some (.box [.t (.ptr id)]))) (.obj (m+1)) (some (.box [.t (sX [k0,k1,k2])]))) (.obj (m+2)) (some (.box [.t (sX [x0])])) l=pkH h m id [k0,k1,k2] [x0] l:=fun _=>rfl
 obtain⟨H,hHe⟩:∃H,pkH h m id [k0,k1,k2] [x0]=H:=⟨_,rfl⟩
 rw[hHe]at B p0 p1 p2 hpk hH⊢
 have hb:=B.hb
 have hloc:∀d j,H (.loc d j)=none:=fun d j=>hb _ rfl
 have cl:=lessG_ok H (m+3) id md s x0 k0 B (by omega) gx0.1 gk0.1 (gx0.2.mono (by decide)) (gk0.2.mono (by decide))
 obtain⟨o,hwr⟩:=two_writes B x0 k0
 have hlu:∀d j,bkU H id 4 (obG id md (lessS s x0 k0)) (lessS s x0 k0).met (.loc d j)=none:=fun d j=>bkU_hb hb _ rfl
 obtain⟨m1,m2,m3,m4,m5,m6,m7,m8,m9,t0,t1,t2⟩:=pkN hid
 obtain⟨s1,hs1⟩:∃s1,lessS s x0 k0=s1:=⟨_,rfl⟩
 obtain⟨v,hv⟩:∃v,lessV x0 k0=v:=⟨_,rfl⟩
 have hmet1:s1.met.length=s.met.length+1:=by rw[←hs1];unfold lessS;simp
 have hk1:s1.k=s.k:=by rw[←hs1];rfl
 have BB:=bkU_M (id:=id) (f:=4) (o:=obG id md s1) (met:=s1.met) hb
 rw[hs1]at cl hwr hlu
 rw[hv]at cl
 obtain⟨v2,hv2⟩:∃v2,lessV k0 x0=v2:=⟨_,rfl⟩
 have hpv:pickV 5 [k0,k1,k2] [x0]=(if v=true then (k2,1) else if v2=true then (k1,2) else (k0,0)):=by rw[←hv,←hv2];rfl
 have hps:pickS 5 s [k0,k1,k2] [x0]=(if v=true then s1 else lessS s1 k0 x0):=by rw[←hv,←hs1];rfl
 rw[hpv,hps]
 have hb1:=BB.hb
 have qn:∀j,j≠id→bkU H id 4 (obG id md s1) s1.met (.obj j)=H (.obj j):=fun j hj=>by unfold bkU;rw[upd_ne _ _ _ _ (fun e=>by cases e),upd_ne _ _ _ _ (fun e=>hj (Lab.obj.inj e))]
 have c2:=pk1_ok (bkU H id 4 (obG id md s1) s1.met) (m+3) id m (m+1) (m+2) md s1 [k0,k1,k2] [x0] k0 x0 BB ((qn m (by omega)).trans p0) ((qn (m+1) (by omega)).trans p1) ((qn (m+2) (by omega)).trans p2) rfl rfl (by omega) gk0.1 gx0.1 (gk0.2.mono (by decide)) (gx0.2.mono (by decide))
 obtain⟨o2,hwr2⟩:=two_writes BB k0 x0
 have hU:∀l,bkU H id 4 (obG id md (lessS s1 k0 x0)) (lessS s1 k0 x0).met l=bkU (bkU H id 4 (obG id md s1) s1.met) id 4 (obG id md (lessS s1 k0 x0)) (lessS s1 k0 x0).met l:=fun l=>(congrFun bkU_U l).symm
 have hlu2:∀d j,bkU (bkU H id 4 (obG id md s1) s1.met) id 4 (obG id md (lessS s1 k0 x0)) (lessS s1 k0 x0).met (.loc d j)=none:=fun d j=>bkU_hb hb1 _ rfl
 rw[hv2]at c2
 have cf:=choice_f _ _ (m+3) 153 m (m+1) (m+2) v2 hb1 Tryz.call153 c2
 have ct:=choice_t (bkU H id 4 (obG id md s1) s1.met) (m+3) 153 m (m+1) (m+2) hb1
 have ch0:=chosen_ok [k0,k2,k1] 0 k0 rfl
 have ch1:=chosen_ok [k0,k2,k1] 1 k2 rfl
 have ch2:=chosen_ok [k0,k2,k1] 2 k1 rfl
 have hbF:=bkU_hb (id:=id) (f:=4) (o:=obG id md (if v=true then s1 else lessS s1 k0 x0)) (met:=(if v=true then s1 else lessS s1 k0 x0).met) hb
 refine Pk.i Tryz.func92 [.c 8 68,.s 9] ?_
 obtain⟨s2,hs2⟩:∃s2,lessS s1 k0 x0=s2:=⟨_,rfl⟩
 rw[hs2]at hwr2 hU hlu2 cf⊢
 simp only[sX,List.map_cons,List.map_nil,Vx_T]at cl ch0 ch1 ch2 hH p0 p1 p2⊢
 clear c2 hbF hpv hps
 cases v with
 | true =>
   simp only[if_true]
   apply run_sound 200
   refine PkA ?_
   refine Goes.dQ ?_
   refine PkA ?_
   refine CallD.N _ [(.obj id,obG id md s1),(.fld id 4,o)] Tryz.call132 cl ?_
   refine PkB ?_
   refine CallD.look _ Tryz.call152 ct rfl hb1 (by rintro (_|_|_|_|_) hp<;>first|(cases hp;done)|(rw[hwr];simp-implicitDefEqProofs+decide only[go_sem,hloc,hloc0];done)|(rw[hwr];simp-implicitDefEqProofs+decide only[go_sem,←hH,hloc,hloc0])) ?_
   refine PkB ?_
   refine CallD.PS _ Tryz.call151 ch1 ?_
   refine PkB ?_
   refine PkL hid ?_
   apply run_sound 200
   refine PkC ?_
   exact endC.X
 | false =>
   cases v2 with
   | false =>
     simp only[Bool.false_eq_true,if_false,if_true]at cf⊢
     apply run_sound 200
     refine PkA ?_
     refine Goes.dQ ?_
     refine PkA ?_
     refine CallD.N _ [(.obj id,obG id md s1),(.fld id 4,o)] Tryz.call132 cl ?_
     refine PkB ?_
     refine CallD.N _ [(.obj id,obG id md s2),(.fld id 4,o2)] Tryz.call152 cf ?_
     refine PkC ?_
     refine CallD.PS _ Tryz.call151 ch0 ?_
     refine PkC ?_
     refine PkL hid ?_
     apply run_sound 200
     refine PkC ?_
     exact endC.X
   | true =>
     simp only[Bool.false_eq_true,if_false,if_true]at cf⊢
     apply run_sound 200
     refine PkA ?_
     refine Goes.dQ ?_
     refine PkA ?_
     refine CallD.N _ [(.obj id,obG id md s1),(.fld id 4,o)] Tryz.call132 cl ?_
     refine PkB ?_
     refine CallD.N _ [(.obj id,obG id md s2),(.fld id 4,o2)] Tryz.call152 cf ?_
     refine PkC ?_
     refine CallD.PS _ Tryz.call151 ch2 ?_
     refine PkC ?_
     refine PkL hid ?_
     apply run_sound 200
     refine PkC ?_
     exact endC.X
set_option maxHeartbeats 4000000 in
theorem pick6_ok (h:Heap) (m id:Nat) (md:Int) (s:Bs) (k0 x0:Vx) (B0:BkM h id 4 (obG id md s) s.met) (hid:id<m) (n0:h (.obj m)=none) (n1:h (.obj (m+1))=none) (n2:h (.obj (m+2))=none) (hml:s.met.length<50000) (hkb:s.k<1000000) (gk0:k0.md=md∧k0.B 1000000) (gx0:x0.md=md∧x0.B 1000000):
  Ret Tryz.prog 92 [.ptr id,.int .i64 6,sX [k0],sX [x0]] h m [.t (pickV 6 [k0] [x0]).1.T,.t (.int .i64 (pickV 6 [k0] [x0]).2)] (bkU (pkH h m id [k0] [x0]) id 4 (obG id md (pickS 6 s [k0] [x0])) (pickS 6 s [k0] [x0]).met) (m+3):=by
 have hb0:=B0.hb
 have hloc0:∀d j,h (.loc d j)=none:=fun d j=>hb0 _ rfl
 have B:=pkH_M (ks:=[k0]) (xs:=[x0]) B0 hid
 obtain⟨p0,p1,p2⟩:=pkH_get (h:=h) (m:=m) (id:=id) (ks:=[k0]) (xs:=[x0])
 have hpk:=pkH_keeps (h:=h) (m:=m) (id:=id) (ks:=[k0]) (xs:=[x0])
 have hH:∀l,upd (upd (upd h (.obj m) (some (.box [.t (.ptr id)]))) (.obj (m+1)) (some (.box [.t (sX [k0])]))) (.obj (m+2)) (some (.box [.t (sX [x0])])) l=pkH h m id [k0] [x0] l:=fun _=>rfl
 obtain⟨H,hHe⟩:∃H,pkH h m id [k0] [x0]=H:=⟨_,rfl⟩
 rw[hHe]at B p0 p1 p2 hpk hH⊢
 have hb:=B.hb
 have hloc:∀d j,H (.loc d j)=none:=fun d j=>hb _ rfl
 have cl:=lessG_ok H (m+3) id md s k0 x0 B (by omega) gk0.1 gx0.1 (gk0.2.mono (by decide)) (gx0.2.mono (by decide))
 obtain⟨o,hwr⟩:=two_writes B k0 x0
 have hlu:∀d j,bkU H id 4 (obG id md (lessS s k0 x0)) (lessS s k0 x0).met (.loc d j)=none:=fun d j=>bkU_hb hb _ rfl
 obtain⟨m1,m2,m3,m4,m5,m6,m7,m8,m9,t0,t1,t2⟩:=pkN hid
 obtain⟨s1,hs1⟩:∃s1,lessS s k0 x0=s1:=⟨_,rfl⟩
 obtain⟨v,hv⟩:∃v,lessV k0 x0=v:=⟨_,rfl⟩
 have hmet1:s1.met.length=s.met.length+1:=by rw[←hs1];unfold lessS;simp
 have hk1:s1.k=s.k:=by rw[←hs1];rfl
 have BB:=bkU_M (id:=id) (f:=4) (o:=obG id md s1) (met:=s1.met) hb
 rw[hs1]at cl hwr hlu
 rw[hv]at cl
 have hpv:pickV 6 [k0] [x0]=(if v=true then (x0,1) else (k0,0)):=by rw[←hv];rfl
 have hps:pickS 6 s [k0] [x0]=s1:=hs1
 rw[hpv,hps]
 have cc:=choice_ok v
 have ch0:=chosen_ok [k0,x0] 0 k0 rfl
 have ch1:=chosen_ok [k0,x0] 1 x0 rfl
 refine Pk.i Tryz.func92 [.c 8 68,.s 9] ?_
 simp only[sX,List.map_cons,List.map_nil,Vx_T]at cl ch0 ch1 hH p0 p1 p2⊢
 cases v
 ·simp only[Bool.false_eq_true,if_false]at cc⊢
  apply run_sound 200
  refine PkA ?_
  refine Goes.dQ ?_
  refine PkA ?_
  refine CallD.N _ [(.obj id,obG id md s1),(.fld id 4,o)] Tryz.call132 cl ?_
  refine PkB ?_
  refine CallD.P _ Tryz.call152 cc ?_
  refine PkB ?_
  refine CallD.PS _ Tryz.call151 ch0 ?_
  refine PkB ?_
  refine PkL hid ?_
  apply run_sound 200
  refine PkB ?_
  exact endC.X
 ·simp only[if_true]at cc⊢
  apply run_sound 200
  refine PkA ?_
  refine Goes.dQ ?_
  refine PkA ?_
  refine CallD.N _ [(.obj id,obG id md s1),(.fld id 4,o)] Tryz.call132 cl ?_
  refine PkB ?_
  refine CallD.P _ Tryz.call152 cc ?_
  refine PkB ?_
  refine CallD.PS _ Tryz.call151 ch1 ?_
  refine PkB ?_
  refine PkL hid ?_
  apply run_sound 200
  refine PkB ?_
  exact endC.X
set_option maxHeartbeats 4000000 in
theorem pick15_ok (h:Heap) (m id:Nat) (md:Int) (s:Bs) (k0 k1 x0:Vx) (B0:BkM h id 4 (obG id md s) s.met) (hid:id<m) (n0:h (.obj m)=none) (n1:h (.obj (m+1))=none) (n2:h (.obj (m+2))=none) (hml:s.met.length<50000) (hkb:s.k<1000000) (gk0:k0.md=md∧k0.B 1000000) (gk1:k1.md=md∧k1.B 1000000) (gx0:x0.md=md∧x0.B 1000000):
  Ret Tryz.prog 92 [.ptr id,.int .i64 15,sX [k0,k1],sX [x0]] h m [.t (pickV 15 [k0,k1] [x0]).1.T,.t (.int .i64 (pickV 15 [k0,k1] [x0]).2)] (bkU (pkH h m id [k0,k1] [x0]) id 4 (obG id md (pickS 15 s [k0,k1] [x0])) (pickS 15 s [k0,k1] [x0]).met) (m+3):=by
 have hb0:=B0.hb
 have hloc0:∀d j,h (.loc d j)=none:=fun d j=>hb0 _ rfl
 have B:=pkH_M (ks:=[k0,k1]) (xs:=[x0]) B0 hid
 obtain⟨p0,p1,p2⟩:=pkH_get (h:=h) (m:=m) (id:=id) (ks:=[k0,k1]) (xs:=[x0])
 have hpk:=pkH_keeps (h:=h) (m:=m) (id:=id) (ks:=[k0,k1]) (xs:=[x0])
 have hH:∀l,upd (upd (upd h (.obj m) (some (.box [.t (.ptr id)]))) (.obj (m+1)) (some (.box [.t (sX [k0,k1])]))) (.obj (m+2)) (some (.box [.t (sX [x0])])) l=pkH h m id [k0,k1] [x0] l:=fun _=>rfl
 obtain⟨H,hHe⟩:∃H,pkH h m id [k0,k1] [x0]=H:=⟨_,rfl⟩
 rw[hHe]at B p0 p1 p2 hpk hH⊢
 have hb:=B.hb
 have hloc:∀d j,H (.loc d j)=none:=fun d j=>hb _ rfl
 have cl:=lessG_ok H (m+3) id md s x0 k0 B (by omega) gx0.1 gk0.1 (gx0.2.mono (by decide)) (gk0.2.mono (by decide))
 obtain⟨o,hwr⟩:=two_writes B x0 k0
 have hlu:∀d j,bkU H id 4 (obG id md (lessS s x0 k0)) (lessS s x0 k0).met (.loc d j)=none:=fun d j=>bkU_hb hb _ rfl
 obtain⟨m1,m2,m3,m4,m5,m6,m7,m8,m9,t0,t1,t2⟩:=pkN hid
 obtain⟨s1,hs1⟩:∃s1,lessS s x0 k0=s1:=⟨_,rfl⟩
 obtain⟨v,hv⟩:∃v,lessV x0 k0=v:=⟨_,rfl⟩
 have hmet1:s1.met.length=s.met.length+1:=by rw[←hs1];unfold lessS;simp
 have hk1:s1.k=s.k:=by rw[←hs1];rfl
 have BB:=bkU_M (id:=id) (f:=4) (o:=obG id md s1) (met:=s1.met) hb
 rw[hs1]at cl hwr hlu
 rw[hv]at cl
 obtain⟨v2,hv2⟩:∃v2,lessV k1 x0=v2:=⟨_,rfl⟩
 have hpv:pickV 15 [k0,k1] [x0]=(if v=true then (k0,1) else if v2=true then (k1,2) else (x0,0)):=by rw[←hv,←hv2];rfl
 have hps:pickS 15 s [k0,k1] [x0]=(if v=true then s1 else lessS s1 k1 x0):=by rw[←hv,←hs1];rfl
 rw[hpv,hps]
 have hb1:=BB.hb
 have qn:∀j,j≠id→bkU H id 4 (obG id md s1) s1.met (.obj j)=H (.obj j):=fun j hj=>by unfold bkU;rw[upd_ne _ _ _ _ (fun e=>by cases e),upd_ne _ _ _ _ (fun e=>hj (Lab.obj.inj e))]
 have c2:=pk2_ok (bkU H id 4 (obG id md s1) s1.met) (m+3) id m (m+1) (m+2) md s1 [k0,k1] [x0] k1 x0 BB ((qn m (by omega)).trans p0) ((qn (m+1) (by omega)).trans p1) ((qn (m+2) (by omega)).trans p2) rfl rfl (by omega) gk1.1 gx0.1 (gk1.2.mono (by decide)) (gx0.2.mono (by decide))
 obtain⟨o2,hwr2⟩:=two_writes BB k1 x0
 have hU:∀l,bkU H id 4 (obG id md (lessS s1 k1 x0)) (lessS s1 k1 x0).met l=bkU (bkU H id 4 (obG id md s1) s1.met) id 4 (obG id md (lessS s1 k1 x0)) (lessS s1 k1 x0).met l:=fun l=>(congrFun bkU_U l).symm
 have hlu2:∀d j,bkU (bkU H id 4 (obG id md s1) s1.met) id 4 (obG id md (lessS s1 k1 x0)) (lessS s1 k1 x0).met (.loc d j)=none:=fun d j=>bkU_hb hb1 _ rfl
 rw[hv2]at c2
 have cf:=choice_f _ _ (m+3) 154 m (m+1) (m+2) v2 hb1 Tryz.call154 c2
 have ct:=choice_t (bkU H id 4 (obG id md s1) s1.met) (m+3) 154 m (m+1) (m+2) hb1
 have ch0:=chosen_ok [x0,k0,k1] 0 x0 rfl
 have ch1:=chosen_ok [x0,k0,k1] 1 k0 rfl
 have ch2:=chosen_ok [x0,k0,k1] 2 k1 rfl
 have hbF:=bkU_hb (id:=id) (f:=4) (o:=obG id md (if v=true then s1 else lessS s1 k1 x0)) (met:=(if v=true then s1 else lessS s1 k1 x0).met) hb
 refine Pk.i Tryz.func92 [.c 8 68,.s 9] ?_
 obtain⟨s2,hs2⟩:∃s2,lessS s1 k1 x0=s2:=⟨_,rfl⟩
 rw[hs2]at hwr2 hU hlu2 cf⊢
 simp only[sX,List.map_cons,List.map_nil,Vx_T]at cl ch0 ch1 ch2 hH p0 p1 p2⊢
 clear c2 hbF hpv hps
 cases v with
 | true =>
   simp only[if_true]
   apply run_sound 200
   refine PkA ?_
   refine Goes.dQ ?_
   refine PkA ?_
   refine CallD.N _ [(.obj id,obG id md s1),(.fld id 4,o)] Tryz.call132 cl ?_
   refine PkB ?_
   refine CallD.look _ Tryz.call152 ct rfl hb1 (by rintro (_|_|_|_|_) hp<;>first|(cases hp;done)|(rw[hwr];simp-implicitDefEqProofs+decide only[go_sem,hloc,hloc0];done)|(rw[hwr];simp-implicitDefEqProofs+decide only[go_sem,←hH,hloc,hloc0])) ?_
   refine PkB ?_
   refine CallD.PS _ Tryz.call151 ch1 ?_
   refine PkB ?_
   refine PkL hid ?_
   apply run_sound 200
   refine PkC ?_
   exact endC.X
 | false =>
   cases v2 with
   | false =>
     simp only[Bool.false_eq_true,if_false,if_true]at cf⊢
     apply run_sound 200
     refine PkA ?_
     refine Goes.dQ ?_
     refine PkA ?_
     refine CallD.N _ [(.obj id,obG id md s1),(.fld id 4,o)] Tryz.call132 cl ?_
     refine PkB ?_
     refine CallD.N _ [(.obj id,obG id md s2),(.fld id 4,o2)] Tryz.call152 cf ?_
     refine PkC ?_
     refine CallD.PS _ Tryz.call151 ch0 ?_
     refine PkC ?_
     refine PkL hid ?_
     apply run_sound 200
     refine PkC ?_
     exact endC.X
   | true =>
     simp only[Bool.false_eq_true,if_false,if_true]at cf⊢
     apply run_sound 200
     refine PkA ?_
     refine Goes.dQ ?_
     refine PkA ?_
     refine CallD.N _ [(.obj id,obG id md s1),(.fld id 4,o)] Tryz.call132 cl ?_
     refine PkB ?_
     refine CallD.N _ [(.obj id,obG id md s2),(.fld id 4,o2)] Tryz.call152 cf ?_
     refine PkC ?_
     refine CallD.PS _ Tryz.call151 ch2 ?_
     refine PkC ?_
     refine PkL hid ?_
     apply run_sound 200
     refine PkC ?_
     exact endC.X
set_option maxHeartbeats 4000000 in
theorem pick16_ok (h:Heap) (m id:Nat) (md:Int) (s:Bs) (k0 k1 x0:Vx) (B0:BkM h id 4 (obG id md s) s.met) (hid:id<m) (n0:h (.obj m)=none) (n1:h (.obj (m+1))=none) (n2:h (.obj (m+2))=none) (hml:s.met.length<50000) (hkb:s.k<1000000) (gk0:k0.md=md∧k0.B 1000000) (gk1:k1.md=md∧k1.B 1000000) (gx0:x0.md=md∧x0.B 1000000):
  Ret Tryz.prog 92 [.ptr id,.int .i64 16,sX [k0,k1],sX [x0]] h m [.t (pickV 16 [k0,k1] [x0]).1.T,.t (.int .i64 (pickV 16 [k0,k1] [x0]).2)] (bkU (pkH h m id [k0,k1] [x0]) id 4 (obG id md (pickS 16 s [k0,k1] [x0])) (pickS 16 s [k0,k1] [x0]).met) (m+3):=by
 have hb0:=B0.hb
 have hloc0:∀d j,h (.loc d j)=none:=fun d j=>hb0 _ rfl
 have B:=pkH_M (ks:=[k0,k1]) (xs:=[x0]) B0 hid
 obtain⟨p0,p1,p2⟩:=pkH_get (h:=h) (m:=m) (id:=id) (ks:=[k0,k1]) (xs:=[x0])
 have hpk:=pkH_keeps (h:=h) (m:=m) (id:=id) (ks:=[k0,k1]) (xs:=[x0])
 have hH:∀l,upd (upd (upd h (.obj m) (some (.box [.t (.ptr id)]))) (.obj (m+1)) (some (.box [.t (sX [k0,k1])]))) (.obj (m+2)) (some (.box [.t (sX [x0])])) l=pkH h m id [k0,k1] [x0] l:=fun _=>rfl
 obtain⟨H,hHe⟩:∃H,pkH h m id [k0,k1] [x0]=H:=⟨_,rfl⟩
 rw[hHe]at B p0 p1 p2 hpk hH⊢
 have hb:=B.hb
 have hloc:∀d j,H (.loc d j)=none:=fun d j=>hb _ rfl
 have cl:=lessG_ok H (m+3) id md s x0 k0 B (by omega) gx0.1 gk0.1 (gx0.2.mono (by decide)) (gk0.2.mono (by decide))
 obtain⟨o,hwr⟩:=two_writes B x0 k0
 have hlu:∀d j,bkU H id 4 (obG id md (lessS s x0 k0)) (lessS s x0 k0).met (.loc d j)=none:=fun d j=>bkU_hb hb _ rfl
 obtain⟨m1,m2,m3,m4,m5,m6,m7,m8,m9,t0,t1,t2⟩:=pkN hid
 obtain⟨s1,hs1⟩:∃s1,lessS s x0 k0=s1:=⟨_,rfl⟩
 obtain⟨v,hv⟩:∃v,lessV x0 k0=v:=⟨_,rfl⟩
 have hmet1:s1.met.length=s.met.length+1:=by rw[←hs1];unfold lessS;simp
 have hk1:s1.k=s.k:=by rw[←hs1];rfl
 have BB:=bkU_M (id:=id) (f:=4) (o:=obG id md s1) (met:=s1.met) hb
 rw[hs1]at cl hwr hlu
 rw[hv]at cl
 have hpv:pickV 16 [k0,k1] [x0]=(if v=true then (mulV x0 k1,1) else (x0,0)):=by rw[←hv];rfl
 have hps:pickS 16 s [k0,k1] [x0]=(if v=true then incS s1 else s1):=by rw[←hv,←hs1];rfl
 rw[hpv,hps]
 have hb1:=BB.hb
 have ko:=BB.o
 have cn:=mulE_ok (bkU H id 4 (obG id md s1) s1.met) (m+3) id md (mtC id 4 s1.met) s1.tie ⟨s1.k,0⟩ x0 k1 hb1 ko (by show s1.k<_;omega) (fun _=>⟨gx0.1,gx0.2.mono (by decide)⟩) (fun _=>⟨gk1.1,gk1.2.mono (by decide)⟩)
 rw[show(opE mulV ⟨s1.k,0⟩ x0 k1)=⟨mulV x0 k1,⟨s1.k+1,0⟩⟩ from rfl]at cn
 have hup:upd (bkU H id 4 (obG id md s1) s1.met) (.obj id) (some (bankE md (mtC id 4 s1.met) (s1.k+1) s1.tie 0))=bkU H id 4 (obG id md (incS s1)) s1.met:=bkU_up
 have hFin:∀l,bkU H id 4 (obG id md (incS s1)) (incS s1).met l=upd (bkU H id 4 (obG id md s1) s1.met) (.obj id) (some (bankE md (mtC id 4 s1.met) (s1.k+1) s1.tie 0)) l:=fun l=>(congrFun hup l).symm
 dsimp only at cn
 rw[hup]at cn
 have hlu2:∀d j,bkU H id 4 (obG id md (incS s1)) s1.met (.loc d j)=none:=fun d j=>bkU_hb hb _ rfl
 generalize mulV x0 k1=w at*
 refine Pk.i Tryz.func92 [.c 8 68,.s 9] ?_
 simp only[sX,List.map_cons,List.map_nil,Vx_T]at cl cn hH p0 p1 p2⊢
 cases v
 ·simp only[Bool.false_eq_true,if_false]
  apply run_sound 200
  refine PkA ?_
  refine Goes.dQ ?_
  refine PkA ?_
  refine CallD.N _ [(.obj id,obG id md s1),(.fld id 4,o)] Tryz.call132 cl ?_
  refine PkB ?_
  refine PkL hid ?_
  apply run_sound 200
  refine PkB ?_
  exact endC.X
 ·simp only[if_true]
  apply run_sound 200
  refine PkA ?_
  refine Goes.dQ ?_
  refine PkA ?_
  refine CallD.N _ [(.obj id,obG id md s1),(.fld id 4,o)] Tryz.call132 cl ?_
  refine PkB ?_
  refine PkL hid ?_
  apply run_sound 200
  refine PkB ?_
  refine Goes.wk (show Wk _ _ ⟨ofL [(4,.bp (.obj m) 0),(6,.bp (.obj (m+1)) 0),(7,.bp (.obj (m+2)) 0),(8,.bp (.loc 8 0) 0)],ofH (bkU H id 4 (obG id md s1) s1.met) [(.loc 8 0,.box [.t (.bool false),.nil,.nil,.t (.int .u64 0),.t (.int .i64 0)])],m+3⟩ from Wk.boxes _ _ hb1 rfl rfl (by simp-implicitDefEqProofs+decide only[go_sem,List.map_cons,List.map_nil,sX,m1,m2,m3,m4,m5,m6,m7,m8,m9,n0,n1,n2,p0,p1,p2,t0,t1,t2,hloc,hloc0,hlu]<;>first|rfl|skip) (by rintro (_|_|_|_|_) hp<;>first|(cases hp;done)|(rw[hwr];simp-implicitDefEqProofs+decide only[go_sem,hloc,hloc0];done)|(rw[hwr];simp-implicitDefEqProofs+decide only[go_sem,←hH,hloc,hloc0])) (by simp-implicitDefEqProofs+decide only[go_sem]<;>first|rfl|skip) (by simp-implicitDefEqProofs+decide only[go_sem]<;>first|rfl|exact⟨rfl,rfl,rfl⟩)) ?_
  have qn:∀j,j≠id→bkU H id 4 (obG id md s1) s1.met (.obj j)=H (.obj j):=fun j hj=>by unfold bkU;rw[upd_ne _ _ _ _ (fun e=>by cases e),upd_ne _ _ _ _ (fun e=>hj (Lab.obj.inj e))]
  have q0:=(qn m (by omega)).trans p0
  have q1:=(qn (m+1) (by omega)).trans p1
  have q2:=(qn (m+2) (by omega)).trans p2
  have hb:=hb1
  refine Goes.dQ ?_
  simp-implicitDefEqProofs+decide only[go_sem,ofH,q0,q1,q2,t0,t1,t2,hlu,hlu2]
  refine CallD.make _ [(.obj id,obG id md (incS s1))] 0 Tryz.call56 cn rfl hb1 (by rintro (_|_|_|_|_) hp<;>first|(cases hp;done)|simp-implicitDefEqProofs+decide only[go_sem,hlu]) (fun l _=>(congrFun hup l).symm) rfl (.inr rfl) ?_
  simp-implicitDefEqProofs+decide only[go_sem,ofH,q0,q1,q2,t0,t1,t2,hlu,hlu2]
  refine PkL hid ?_
  apply run_sound 200
  simp-implicitDefEqProofs+decide only[go_sem,ofH,q0,q1,q2,t0,t1,t2,hlu,hlu2]
  exact endC.twoV (.inr rfl) (by simp-implicitDefEqProofs+decide only[go_sem,valC];rfl) (by simp-implicitDefEqProofs+decide only[go_sem,valC];rfl) rfl rfl (by rintro (_|_|_|_|_) hp<;>first|(cases hp;done)|(rw[hFin];simp-implicitDefEqProofs+decide only[go_sem,hlu];done)|(rw[hFin];rfl)) rfl
set_option maxHeartbeats 4000000 in
theorem pick21_ok (h:Heap) (m id:Nat) (md:Int) (s:Bs) (x0 x1:Vx) (B0:BkM h id 4 (obG id md s) s.met) (hid:id<m) (n0:h (.obj m)=none) (n1:h (.obj (m+1))=none) (n2:h (.obj (m+2))=none) (hml:s.met.length<50000) (hkb:s.k<1000000) (gx0:x0.md=md∧x0.B 1000000) (gx1:x1.md=md∧x1.B 1000000):
  Ret Tryz.prog 92 [.ptr id,.int .i64 21,sX [],sX [x0,x1]] h m [.t (pickV 21 [] [x0,x1]).1.T,.t (.int .i64 (pickV 21 [] [x0,x1]).2)] (bkU (pkH h m id [] [x0,x1]) id 4 (obG id md (pickS 21 s [] [x0,x1])) (pickS 21 s [] [x0,x1]).met) (m+3):=by
 have hb0:=B0.hb
 have hloc0:∀d j,h (.loc d j)=none:=fun d j=>hb0 _ rfl
 have B:=pkH_M (ks:=[]) (xs:=[x0,x1]) B0 hid
 obtain⟨p0,p1,p2⟩:=pkH_get (h:=h) (m:=m) (id:=id) (ks:=[]) (xs:=[x0,x1])
 have hpk:=pkH_keeps (h:=h) (m:=m) (id:=id) (ks:=[]) (xs:=[x0,x1])
 have hH:∀l,upd (upd (upd h (.obj m) (some (.box [.t (.ptr id)]))) (.obj (m+1)) (some (.box [.t (sX [])]))) (.obj (m+2)) (some (.box [.t (sX [x0,x1])])) l=pkH h m id [] [x0,x1] l:=fun _=>rfl
 obtain⟨H,hHe⟩:∃H,pkH h m id [] [x0,x1]=H:=⟨_,rfl⟩
 rw[hHe]at B p0 p1 p2 hpk hH⊢
 have hb:=B.hb
 have hloc:∀d j,H (.loc d j)=none:=fun d j=>hb _ rfl
 have cl:=lessG_ok H (m+3) id md s x0 x1 B (by omega) gx0.1 gx1.1 (gx0.2.mono (by decide)) (gx1.2.mono (by decide))
 obtain⟨o,hwr⟩:=two_writes B x0 x1
 have hlu:∀d j,bkU H id 4 (obG id md (lessS s x0 x1)) (lessS s x0 x1).met (.loc d j)=none:=fun d j=>bkU_hb hb _ rfl
 obtain⟨m1,m2,m3,m4,m5,m6,m7,m8,m9,t0,t1,t2⟩:=pkN hid
 obtain⟨s1,hs1⟩:∃s1,lessS s x0 x1=s1:=⟨_,rfl⟩
 obtain⟨v,hv⟩:∃v,lessV x0 x1=v:=⟨_,rfl⟩
 have hmet1:s1.met.length=s.met.length+1:=by rw[←hs1];unfold lessS;simp
 have hk1:s1.k=s.k:=by rw[←hs1];rfl
 have BB:=bkU_M (id:=id) (f:=4) (o:=obG id md s1) (met:=s1.met) hb
 rw[hs1]at cl hwr hlu
 rw[hv]at cl
 have hpv:pickV 21 [] [x0,x1]=(if v=true then (x1,1) else (x0,0)):=by rw[←hv];rfl
 have hps:pickS 21 s [] [x0,x1]=s1:=hs1
 rw[hpv,hps]
 have cc:=choice_ok v
 have ch0:=chosen_ok [x0,x1] 0 x0 rfl
 have ch1:=chosen_ok [x0,x1] 1 x1 rfl
 refine Pk.i Tryz.func92 [.c 8 68,.s 9] ?_
 simp only[sX,List.map_cons,List.map_nil,Vx_T]at cl ch0 ch1 hH p0 p1 p2⊢
 cases v
 ·simp only[Bool.false_eq_true,if_false]at cc⊢
  apply run_sound 200
  refine PkA ?_
  refine Goes.dQ ?_
  refine PkA ?_
  refine CallD.N _ [(.obj id,obG id md s1),(.fld id 4,o)] Tryz.call132 cl ?_
  refine PkB ?_
  refine CallD.P _ Tryz.call152 cc ?_
  refine PkB ?_
  refine CallD.PS _ Tryz.call151 ch0 ?_
  refine PkB ?_
  refine PkL hid ?_
  apply run_sound 200
  refine PkB ?_
  exact endC.X
 ·simp only[if_true]at cc⊢
  apply run_sound 200
  refine PkA ?_
  refine Goes.dQ ?_
  refine PkA ?_
  refine CallD.N _ [(.obj id,obG id md s1),(.fld id 4,o)] Tryz.call132 cl ?_
  refine PkB ?_
  refine CallD.P _ Tryz.call152 cc ?_
  refine PkB ?_
  refine CallD.PS _ Tryz.call151 ch1 ?_
  refine PkB ?_
  refine PkL hid ?_
  apply run_sound 200
  refine PkB ?_
  exact endC.X
set_option maxHeartbeats 4000000 in
theorem pick22_ok (h:Heap) (m id:Nat) (md:Int) (s:Bs) (x0 x1:Vx) (B0:BkM h id 4 (obG id md s) s.met) (hid:id<m) (n0:h (.obj m)=none) (n1:h (.obj (m+1))=none) (n2:h (.obj (m+2))=none) (hml:s.met.length<50000) (hkb:s.k<1000000) (gx0:x0.md=md∧x0.B 1000000) (gx1:x1.md=md∧x1.B 1000000):
  Ret Tryz.prog 92 [.ptr id,.int .i64 22,sX [],sX [x0,x1]] h m [.t (pickV 22 [] [x0,x1]).1.T,.t (.int .i64 (pickV 22 [] [x0,x1]).2)] (bkU (pkH h m id [] [x0,x1]) id 4 (obG id md (pickS 22 s [] [x0,x1])) (pickS 22 s [] [x0,x1]).met) (m+3):=by
 have hb0:=B0.hb
 have hloc0:∀d j,h (.loc d j)=none:=fun d j=>hb0 _ rfl
 have B:=pkH_M (ks:=[]) (xs:=[x0,x1]) B0 hid
 obtain⟨p0,p1,p2⟩:=pkH_get (h:=h) (m:=m) (id:=id) (ks:=[]) (xs:=[x0,x1])
 have hpk:=pkH_keeps (h:=h) (m:=m) (id:=id) (ks:=[]) (xs:=[x0,x1])
 have hH:∀l,upd (upd (upd h (.obj m) (some (.box [.t (.ptr id)]))) (.obj (m+1)) (some (.box [.t (sX [])]))) (.obj (m+2)) (some (.box [.t (sX [x0,x1])])) l=pkH h m id [] [x0,x1] l:=fun _=>rfl
 obtain⟨H,hHe⟩:∃H,pkH h m id [] [x0,x1]=H:=⟨_,rfl⟩
 rw[hHe]at B p0 p1 p2 hpk hH⊢
 have hb:=B.hb
 have hloc:∀d j,H (.loc d j)=none:=fun d j=>hb _ rfl
 have cl:=lessG_ok H (m+3) id md s x1 x0 B (by omega) gx1.1 gx0.1 (gx1.2.mono (by decide)) (gx0.2.mono (by decide))
 obtain⟨o,hwr⟩:=two_writes B x1 x0
 have hlu:∀d j,bkU H id 4 (obG id md (lessS s x1 x0)) (lessS s x1 x0).met (.loc d j)=none:=fun d j=>bkU_hb hb _ rfl
 obtain⟨m1,m2,m3,m4,m5,m6,m7,m8,m9,t0,t1,t2⟩:=pkN hid
 obtain⟨s1,hs1⟩:∃s1,lessS s x1 x0=s1:=⟨_,rfl⟩
 obtain⟨v,hv⟩:∃v,lessV x1 x0=v:=⟨_,rfl⟩
 have hmet1:s1.met.length=s.met.length+1:=by rw[←hs1];unfold lessS;simp
 have hk1:s1.k=s.k:=by rw[←hs1];rfl
 have BB:=bkU_M (id:=id) (f:=4) (o:=obG id md s1) (met:=s1.met) hb
 rw[hs1]at cl hwr hlu
 rw[hv]at cl
 have hpv:pickV 22 [] [x0,x1]=(if v=true then (x1,1) else (x0,0)):=by rw[←hv];rfl
 have hps:pickS 22 s [] [x0,x1]=s1:=hs1
 rw[hpv,hps]
 have cc:=choice_ok v
 have ch0:=chosen_ok [x0,x1] 0 x0 rfl
 have ch1:=chosen_ok [x0,x1] 1 x1 rfl
 refine Pk.i Tryz.func92 [.c 8 68,.s 9] ?_
 simp only[sX,List.map_cons,List.map_nil,Vx_T]at cl ch0 ch1 hH p0 p1 p2⊢
 cases v
 ·simp only[Bool.false_eq_true,if_false]at cc⊢
  apply run_sound 200
  refine PkA ?_
  refine Goes.dQ ?_
  refine PkA ?_
  refine CallD.N _ [(.obj id,obG id md s1),(.fld id 4,o)] Tryz.call132 cl ?_
  refine PkB ?_
  refine CallD.P _ Tryz.call152 cc ?_
  refine PkB ?_
  refine CallD.PS _ Tryz.call151 ch0 ?_
  refine PkB ?_
  refine PkL hid ?_
  apply run_sound 200
  refine PkB ?_
  exact endC.X
 ·simp only[if_true]at cc⊢
  apply run_sound 200
  refine PkA ?_
  refine Goes.dQ ?_
  refine PkA ?_
  refine CallD.N _ [(.obj id,obG id md s1),(.fld id 4,o)] Tryz.call132 cl ?_
  refine PkB ?_
  refine CallD.P _ Tryz.call152 cc ?_
  refine PkB ?_
  refine CallD.PS _ Tryz.call151 ch1 ?_
  refine PkB ?_
  refine PkL hid ?_
  apply run_sound 200
  refine PkB ?_
  exact endC.X
set_option maxHeartbeats 4000000 in
theorem pick23_ok (h:Heap) (m id:Nat) (md:Int) (s:Bs) (k0 k1 x0 x1:Vx) (B0:BkM h id 4 (obG id md s) s.met) (hid:id<m) (n0:h (.obj m)=none) (n1:h (.obj (m+1))=none) (n2:h (.obj (m+2))=none) (hml:s.met.length<50000) (hkb:s.k<1000000) (gk0:k0.md=md∧k0.B 1000000) (gk1:k1.md=md∧k1.B 1000000) (gx0:x0.md=md∧x0.B 1000000) (gx1:x1.md=md∧x1.B 1000000):
  Ret Tryz.prog 92 [.ptr id,.int .i64 23,sX [k0,k1],sX [x0,x1]] h m [.t (pickV 23 [k0,k1] [x0,x1]).1.T,.t (.int .i64 (pickV 23 [k0,k1] [x0,x1]).2)] (bkU (pkH h m id [k0,k1] [x0,x1]) id 4 (obG id md (pickS 23 s [k0,k1] [x0,x1])) (pickS 23 s [k0,k1] [x0,x1]).met) (m+3):=by
 have hb0:=B0.hb
 have hloc0:∀d j,h (.loc d j)=none:=fun d j=>hb0 _ rfl
 have B:=pkH_M (ks:=[k0,k1]) (xs:=[x0,x1]) B0 hid
 obtain⟨p0,p1,p2⟩:=pkH_get (h:=h) (m:=m) (id:=id) (ks:=[k0,k1]) (xs:=[x0,x1])
 have hpk:=pkH_keeps (h:=h) (m:=m) (id:=id) (ks:=[k0,k1]) (xs:=[x0,x1])
 have hH:∀l,upd (upd (upd h (.obj m) (some (.box [.t (.ptr id)]))) (.obj (m+1)) (some (.box [.t (sX [k0,k1])]))) (.obj (m+2)) (some (.box [.t (sX [x0,x1])])) l=pkH h m id [k0,k1] [x0,x1] l:=fun _=>rfl
 obtain⟨H,hHe⟩:∃H,pkH h m id [k0,k1] [x0,x1]=H:=⟨_,rfl⟩
 rw[hHe]at B p0 p1 p2 hpk hH⊢
 have hb:=B.hb
 have hloc:∀d j,H (.loc d j)=none:=fun d j=>hb _ rfl
 have cl:=lessG_ok H (m+3) id md s x0 x1 B (by omega) gx0.1 gx1.1 (gx0.2.mono (by decide)) (gx1.2.mono (by decide))
 obtain⟨o,hwr⟩:=two_writes B x0 x1
 have hlu:∀d j,bkU H id 4 (obG id md (lessS s x0 x1)) (lessS s x0 x1).met (.loc d j)=none:=fun d j=>bkU_hb hb _ rfl
 obtain⟨m1,m2,m3,m4,m5,m6,m7,m8,m9,t0,t1,t2⟩:=pkN hid
 obtain⟨s1,hs1⟩:∃s1,lessS s x0 x1=s1:=⟨_,rfl⟩
 obtain⟨v,hv⟩:∃v,lessV x0 x1=v:=⟨_,rfl⟩
 have hmet1:s1.met.length=s.met.length+1:=by rw[←hs1];unfold lessS;simp
 have hk1:s1.k=s.k:=by rw[←hs1];rfl
 have BB:=bkU_M (id:=id) (f:=4) (o:=obG id md s1) (met:=s1.met) hb
 rw[hs1]at cl hwr hlu
 rw[hv]at cl
 have hpv:pickV 23 [k0,k1] [x0,x1]=(if v=true then (k1,1) else (k0,0)):=by rw[←hv];rfl
 have hps:pickS 23 s [k0,k1] [x0,x1]=s1:=hs1
 rw[hpv,hps]
 have cc:=choice_ok v
 have ch0:=chosen_ok [k0,k1] 0 k0 rfl
 have ch1:=chosen_ok [k0,k1] 1 k1 rfl
 refine Pk.i Tryz.func92 [.c 8 68,.s 9] ?_
 simp only[sX,List.map_cons,List.map_nil,Vx_T]at cl ch0 ch1 hH p0 p1 p2⊢
 cases v
 ·simp only[Bool.false_eq_true,if_false]at cc⊢
  apply run_sound 200
  refine PkA ?_
  refine Goes.dQ ?_
  refine PkA ?_
  refine CallD.N _ [(.obj id,obG id md s1),(.fld id 4,o)] Tryz.call132 cl ?_
  refine PkB ?_
  refine CallD.P _ Tryz.call152 cc ?_
  refine PkB ?_
  refine CallD.PS _ Tryz.call151 ch0 ?_
  refine PkB ?_
  refine PkL hid ?_
  apply run_sound 200
  refine PkB ?_
  exact endC.X
 ·simp only[if_true]at cc⊢
  apply run_sound 200
  refine PkA ?_
  refine Goes.dQ ?_
  refine PkA ?_
  refine CallD.N _ [(.obj id,obG id md s1),(.fld id 4,o)] Tryz.call132 cl ?_
  refine PkB ?_
  refine CallD.P _ Tryz.call152 cc ?_
  refine PkB ?_
  refine CallD.PS _ Tryz.call151 ch1 ?_
  refine PkB ?_
  refine PkL hid ?_
  apply run_sound 200
  refine PkB ?_
  exact endC.X
set_option maxHeartbeats 4000000 in
theorem pick24_ok (h:Heap) (m id:Nat) (md:Int) (s:Bs) (k0 x0 x1 x2:Vx) (B0:BkM h id 4 (obG id md s) s.met) (hid:id<m) (n0:h (.obj m)=none) (n1:h (.obj (m+1))=none) (n2:h (.obj (m+2))=none) (hml:s.met.length<50000) (hkb:s.k<1000000) (gk0:k0.md=md∧k0.B 1000000) (gx0:x0.md=md∧x0.B 1000000) (gx1:x1.md=md∧x1.B 1000000) (gx2:x2.md=md∧x2.B 1000000):
  Ret Tryz.prog 92 [.ptr id,.int .i64 24,sX [k0],sX [x0,x1,x2]] h m [.t (pickV 24 [k0] [x0,x1,x2]).1.T,.t (.int .i64 (pickV 24 [k0] [x0,x1,x2]).2)] (bkU (pkH h m id [k0] [x0,x1,x2]) id 4 (obG id md (pickS 24 s [k0] [x0,x1,x2])) (pickS 24 s [k0] [x0,x1,x2]).met) (m+3):=by
 have hb0:=B0.hb
 have hloc0:∀d j,h (.loc d j)=none:=fun d j=>hb0 _ rfl
 have B:=pkH_M (ks:=[k0]) (xs:=[x0,x1,x2]) B0 hid
 obtain⟨p0,p1,p2⟩:=pkH_get (h:=h) (m:=m) (id:=id) (ks:=[k0]) (xs:=[x0,x1,x2])
 have hpk:=pkH_keeps (h:=h) (m:=m) (id:=id) (ks:=[k0]) (xs:=[x0,x1,x2])
 have hH:∀l,upd (upd (upd h (.obj m) (some (.box [.t (.ptr id)]))) (.obj (m+1)) (some (.box [.t (sX [k0])]))) (.obj (m+2)) (some (.box [.t (sX [x0,x1,x2])])) l=pkH h m id [k0] [x0,x1,x2] l:=fun _=>rfl
 obtain⟨H,hHe⟩:∃H,pkH h m id [k0] [x0,x1,x2]=H:=⟨_,rfl⟩
 rw[hHe]at B p0 p1 p2 hpk hH⊢
 have hb:=B.hb
 have hloc:∀d j,H (.loc d j)=none:=fun d j=>hb _ rfl
 have cl:=lessG_ok H (m+3) id md s k0 x0 B (by omega) gk0.1 gx0.1 (gk0.2.mono (by decide)) (gx0.2.mono (by decide))
 obtain⟨o,hwr⟩:=two_writes B k0 x0
 have hlu:∀d j,bkU H id 4 (obG id md (lessS s k0 x0)) (lessS s k0 x0).met (.loc d j)=none:=fun d j=>bkU_hb hb _ rfl
 obtain⟨m1,m2,m3,m4,m5,m6,m7,m8,m9,t0,t1,t2⟩:=pkN hid
 obtain⟨s1,hs1⟩:∃s1,lessS s k0 x0=s1:=⟨_,rfl⟩
 obtain⟨v,hv⟩:∃v,lessV k0 x0=v:=⟨_,rfl⟩
 have hmet1:s1.met.length=s.met.length+1:=by rw[←hs1];unfold lessS;simp
 have hk1:s1.k=s.k:=by rw[←hs1];rfl
 have BB:=bkU_M (id:=id) (f:=4) (o:=obG id md s1) (met:=s1.met) hb
 rw[hs1]at cl hwr hlu
 rw[hv]at cl
 have hpv:pickV 24 [k0] [x0,x1,x2]=(if v=true then (x1,1) else (x2,0)):=by rw[←hv];rfl
 have hps:pickS 24 s [k0] [x0,x1,x2]=s1:=hs1
 rw[hpv,hps]
 have cc:=choice_ok v
 have ch0:=chosen_ok [x2,x1] 0 x2 rfl
 have ch1:=chosen_ok [x2,x1] 1 x1 rfl
 refine Pk.i Tryz.func92 [.c 8 68,.s 9] ?_
 simp only[sX,List.map_cons,List.map_nil,Vx_T]at cl ch0 ch1 hH p0 p1 p2⊢
 cases v
 ·simp only[Bool.false_eq_true,if_false]at cc⊢
  apply run_sound 200
  refine PkA ?_
  refine Goes.dQ ?_
  refine PkA ?_
  refine CallD.N _ [(.obj id,obG id md s1),(.fld id 4,o)] Tryz.call132 cl ?_
  refine PkB ?_
  refine CallD.P _ Tryz.call152 cc ?_
  refine PkB ?_
  refine CallD.PS _ Tryz.call151 ch0 ?_
  refine PkB ?_
  refine PkL hid ?_
  apply run_sound 200
  refine PkB ?_
  exact endC.X
 ·simp only[if_true]at cc⊢
  apply run_sound 200
  refine PkA ?_
  refine Goes.dQ ?_
  refine PkA ?_
  refine CallD.N _ [(.obj id,obG id md s1),(.fld id 4,o)] Tryz.call132 cl ?_
  refine PkB ?_
  refine CallD.P _ Tryz.call152 cc ?_
  refine PkB ?_
  refine CallD.PS _ Tryz.call151 ch1 ?_
  refine PkB ?_
  refine PkL hid ?_
  apply run_sound 200
  refine PkB ?_
  exact endC.X
end Go.Fm
