/- A function whose results stand in variables in memory. -/
import Derived.Test.YteodjhhobkcnjaaGreatFyB
set_option linter.unusedVariables false
set_option linter.unusedSimpArgs false
namespace Go.Fm

inductive RV where
 |s (t:Nat)|c (t:Nat) (ty:TypeId)
def RV.var:RV→ResultVar
 |.s t=>.tmp t
 |.c t ty=>.cell t ty
def valC (P:Program) (s:St):RV→Option AV
 |.s t=>some (s.f t)
 | .c t ty => match s.f t with
   | .bp l j => match s.h l with
     |some (.box cs)=>cutA (tiOf P ty) cs j
     |_=>none
   |_=>none
def valsC (P:Program) (s:St):List RV→Option (List AV)
 |[]=>some []
 | v :: r => match valC P s v, valsC P s r with
   |some x,some xs=>some (x::xs)
   |_,_=>none
theorem valsC_get {P:Program} {s:St}:∀{rv:List RV} {xs:List AV},valsC P s rv=some xs→xs.length=rv.length∧∀(j:Nat) (v:RV) (x:AV),rv[j]?=some v→xs[j]?=some x→valC P s v=some x
 |[],xs,h=>by cases h;exact⟨rfl,fun j v x h=>by simp at h⟩
 | v :: r, xs, h => by
   unfold valsC at h
   split at h
   ·rename_i x xs' h1 h2
    cases h
    obtain⟨g1,g2⟩:=valsC_get h2
    refine⟨by simp[g1],fun j v' x' hv hx=> ?_⟩
    cases j with
    |zero=>simp at hv hx;subst hv;subst hx;exact h1
    |succ j=>exact g2 j v' x' (by simpa using hv) (by simpa using hx)
   ·cases h

def Stands (P:Program) (tmps:Array Value) (w:World):RV→Value→Prop
 |.s t,u=>u=tmps.getD t undef
 |.c t ty,u=>∃ad,tmps.getD t undef=.pointer (some ad)∧(loadVar ty ad).run P w=.ok u w

def endC (P:Program) (rv:List RV) (rs:List RC) (h':Heap) (m':Nat):Exit→St→Prop:=fun e s=>
 (e=.normal∨e=.ret)∧(∃(xs:List AV) (fl:List Bool),valsC P s rv=some xs∧fl.length=rv.length∧FinOk (xs.zip fl) s.h rs h')∧s.nxt=m'

section
variable {P:Program} {κ:Kap} {n:Nat} {a:Act} {w:World} {s:St} {φ:Inj} {S:Addr→Prop} {H H1:Heap}

theorem load_box (M:Mem κ φ S s.h s.nxt w) {l:Lab} {j b:Nat} {cs:List AV} {t:TypeId} {y:AV} (hl:s.h l=some (.box cs)) (hb:φ l=some b) (hcut:cutA (tiOf P t) cs j=some y):
  ∃v,(loadVar t ⟨b,j,none⟩).run P w=.ok v w∧RepA φ s.h w S y v:=by
 obtain⟨b',vs,ty,h1,h2,h3,h4,_,h5⟩:=M.objs l _ hl
 rw[hb]at h1
 cases h1
 obtain⟨g1,g2,g3,g4⟩:=cutA_rep hcut vs h3 h4 h5
 have hr:=run_loadAt_cells (P:=P) (w:=w) (t:=t) (ad:=⟨b,j,none⟩) (u:=fun k=>vs.getD (j+k) undef) rfl g2 g3 (fun k hk=>by
   rw[cell?_eq h2]
   simp[show j+k<vs.size by omega])
 have hr':(loadVar t ⟨b,j,none⟩).run P w=_:=hr
 refine⟨_,hr',?_⟩
 cases hi:(tiOf P t).isAgg with
 | true =>
   rw[hi]at g4
   simp only[if_true]at g4⊢
   have e:((List.range (tiOf P t).size).map fun k=>vs.getD (j+k) undef).toArray=vs.extract j (j+(tiOf P t).size):=by
    apply Array.ext
    ·simp;omega
    ·intro k h1 h2
     simp at h1⊢
     rw[Array.getElem?_eq_getElem (by omega)]
     rfl
   rw[e];exact g4
 | false =>
   rw[hi]at g4
   simpa using g4

theorem resultsC_run {fn:Func} {rv:List RV} (hres:fn.results=(rv.map RV.var).toArray) (tmps:Array Value) (vs:List Value) (hlen:vs.length=rv.length)
  (hv:∀(j:Nat) (v:RV) (u:Value),rv[j]?=some v→vs[j]?=some u→Stands P tmps w v u):
  (results fn tmps).run P w=.ok (resV vs) w:=by
 have key : ∀ (f : ResultVar → Sem Value) (_ : ∀ t, f (.tmp t) = pure (tmps.getD t undef)) (_ : ∀ t ty, f (.cell t ty) = (do loadVar ty (← asAddr (tmps.getD t undef)))) (l : List RV) (us : List Value), us.length = l.length →
   (∀(j:Nat) (v:RV) (u:Value),l[j]?=some v→us[j]?=some u→Stands P tmps w v u)→
   ((l.map RV.var).mapM f).run P w=.ok us w:=by
  intro f hf hg l
  induction l with
  |nil=>intro us h _;rw[List.length_eq_zero_iff.1 h];simp
  | cons x r ih =>
    intro us h h2
    match us,h with
    | u :: us, h =>
      have h0:=h2 0 x u rfl rfl
      have ih:=ih us (by simpa using h) fun j v u' hv hu=>h2 (j+1) v u' (by simpa using hv) (by simpa using hu)
      have hx:(f x.var).run P w=.ok u w:=by
       cases x with
       |s t=>simp only[RV.var,hf,Sem.run_pure];rw[show u=_ from h0]
       | c t ty =>
         obtain⟨ad,g1,g2⟩:=h0
         simp only[RV.var,hg,g1,asAddr,Sem.run_bind,Sem.run_pure,Result.andThen_ok,g2]
      simp at ih
      simp[hx,ih]
 unfold results
 rw[hres,List.mapM_toArray]
 simp only[map_eq_pure_bind,bind_assoc,pure_bind,Sem.run_bind]
 rw[key _ (fun t=>rfl) (fun t ty=>rfl) rv vs hlen hv]
 match vs with
 |[]=>rfl
 |[x]=>rfl
 |x::y::r=>simp[resV]
end

section
variable {P:Program} {g:FuncId} {fn:Func} {c:Code} {ts:List T} {h h':Heap} {m m':Nat} {rs:List RC}

theorem RetA.introC {as : List AV} (hf : P.funcs[g]? = some fn) (hb : fn.body = some c) {rv : List RV} (hres : fn.results = (rv.map RV.var).toArray) (hts : as.length ≤ fn.ntmps) (hok : okC fn.ntmps c = true) {sites : Sites}
  (hn':∀l,Lab.pool l=false→h' l=none) (hbox:Keeps h h')
  (hg:Goes ⟨P,fn.ntmps,sites⟩ (endC P rv rs h' m') [.code c] .normal ⟨ofL (argA 0 as),h,m⟩):RetA P g as h m rs h' m':=by
 refine⟨hn',hbox,fun φ0 S0 w0 vs hh M hlen hvs=> ?_⟩
 refine calls_of_wp hf hb ?_
 have hc:Conc ⟨w0,φ0,S0⟩ fn.ntmps ⟨ofL (argA 0 as),h,m⟩ {tmps:=vs.toArray++Array.replicate (fn.ntmps-vs.toArray.size) undef,defers:=[]} w0:=by
  refine⟨rfl,by simp;omega,φ0,S0,M,fun t=> ?_⟩
  show RepA φ0 h w0 S0 (ofL (argA 0 as) t) _
  rw[argA_get,if_pos (Nat.zero_le _),Nat.sub_zero]
  cases ht:as[t]? with
  |none=>exact .und _
  | some x =>
    have hlt:=(List.getElem?_eq_some_iff.1 ht).1
    have hv:vs[t]?=some (vs[t]'(by omega)):=List.getElem?_eq_getElem _
    have:((vs.toArray++Array.replicate (fn.ntmps-vs.toArray.size) undef).getD t undef)=vs[t]'(by omega):=by
     simp[Array.getElem?_append,hlt,hlen]
    rw[this]
    exact hvs t x _ ht hv
 refine wp_mono (hg (okK_code.2 ⟨hok,rfl⟩) _ _ _ hc) ?_
 rintro e a w ⟨s,⟨he,⟨xs,fl,hxs,hfl,ws,os,acc,h1,h2,h3⟩,hnx⟩,hd,hs,φ,S,M',hsl⟩
 obtain⟨hxl,hxg⟩:=valsC_get hxs
 -- the values
 have vals : ∃ us : List Value, us.length = rv.length ∧ (∀ (j : Nat) (v : RV) (u : Value), rv[j]? = some v → us[j]? = some u → Stands P a.tmps w v u) ∧
   ∀(j:Nat) (x:AV) (u:Value),xs[j]?=some x→us[j]?=some u→RepA φ s.h w S x u:=by
  have each : ∀ (v : RV) (x : AV), valC P s v = some x → ∃ u, Stands P a.tmps w v u ∧ RepA φ s.h w S x u := by
   intro v x hv
   cases v with
   | s t =>
     cases hv
     exact⟨_,rfl,hsl t⟩
   | c t ty =>
     unfold valC at hv
     simp only at hv
     split at hv
     ·rename_i l j hft
      split at hv
      ·rename_i cs hl
       have hr:=hsl t
       rw[hft]at hr
       obtain⟨b,cs',q1,q2,q3⟩:=repA_bp hr
       obtain⟨u,g1,g2⟩:=load_box (P:=P) M' hl q2 hv
       exact⟨u,⟨_,q3,g1⟩,g2⟩
      ·cases hv
     ·cases hv
  have all : ∀ (rv : List RV) (xs : List AV), xs.length = rv.length → (∀ (j : Nat) (v : RV) (x : AV), rv[j]? = some v → xs[j]? = some x → valC P s v = some x) → ∃ us : List Value, us.length = rv.length ∧ (∀ (j : Nat) (v : RV) (u : Value), rv[j]? = some v → us[j]? = some u → Stands P a.tmps w v u) ∧
    ∀(j:Nat) (x:AV) (u:Value),xs[j]?=some x→us[j]?=some u→RepA φ s.h w S x u:=by
   intro rv
   induction rv with
   |nil=>intro xs hl _;exact⟨[],rfl,fun j v u h=>by simp at h,fun j x u _ h=>by simp at h⟩
   | cons v r ih =>
     intro xs hl hg
     match xs,hl with
     | x :: xs, hl =>
       obtain⟨u,k1,k2⟩:=each v x (hg 0 v x rfl rfl)
       obtain⟨us,m1,m2,m3⟩:=ih xs (by simpa using hl) fun j v x hv hx=>hg (j+1) v x (by simpa using hv) (by simpa using hx)
       refine⟨u::us,by simp[m1],fun j v' u' hv hu=> ?_,fun j x' u' hx hu=> ?_⟩
       ·cases j with
        |zero=>simp at hv hu;subst hv;subst hu;exact k1
        |succ j=>exact m2 j v' u' (by simpa using hv) (by simpa using hu)
       ·cases j with
        |zero=>simp at hx hu;subst hx;subst hu;exact k2
        |succ j=>exact m3 j x' u' (by simpa using hx) (by simpa using hu)
  exact all rv xs hxl hxg
 obtain⟨us,u1,u2,u3⟩:=vals
 have hx:∀(j:Nat) (x:AV×Bool) (u:Value),(xs.zip fl)[j]?=some x→us[j]?=some u→RepA φ s.h w S x.1 u:=by
  intro j x u hj hu
  rw[List.getElem?_zip_eq_some]at hj
  exact u3 j x.1 u hj.1 hu
 obtain⟨φ',S',M2,q1,q2⟩:=fin_sim (κ:=⟨w0,φ0,S0⟩) M' (fun l hl=>M.dom l (hh l hl)) (us:=us) (by simp[hfl,hxl,u1]) hx h1 h2 h3 hn'
 rw[hnx]at M2
 have q1:rs.length=us.length:=by rw[q1];simp[hfl,hxl,u1]
 have hv:RepA φ' (resH h' rs) w S' (rsA rs) (resV us):=by
  have tup:RepA φ' (resH h' rs) w S' (.tup (rsAs 0 rs)) (.tuple us.toArray):=by
   refine .tup _ _ (by simp[rsAs_length,q1]) fun j x v hj hv=> ?_
   rw[rsAs_get,Option.map_eq_some_iff]at hj
   obtain⟨r,hr,rfl⟩:=hj
   rw[Nat.zero_add]
   exact q2 j r v hr (by simpa using hv)
  match rs,us,q1,q2,tup with
  |[],[],_,_,tup=>exact tup
  |[r],[t],_,q2,_=>exact q2 0 r _ rfl rfl
  |r::r'::rs',t::t'::rt',_,_,tup=>exact tup
 have main:bodyPost P fn (fun e w'=>∃v φ' S',e=.returned v∧Mem ⟨w0,φ0,S0⟩ φ' S' (resH h' rs) m' w'∧RepA φ' (resH h' rs) w' S' (rsA rs) v) .normal a w:=
  ⟨hd,_,resultsC_run hres a.tmps us u1 u2,_,φ',S',rfl,M2,hv⟩
 rcases he with rfl|rfl
 ·exact main
 ·exact main

theorem Ret.introC (hf:P.funcs[g]?=some fn) (hb:fn.body=some c) {rv:List RV} (hres:fn.results=(rv.map RV.var).toArray) (hts:ts.length≤fn.ntmps) (hok:okC fn.ntmps c=true) {sites:Sites}
  (hn':∀l,Lab.pool l=false→h' l=none) (hbox:Keeps h h')
  (hg:Goes ⟨P,fn.ntmps,sites⟩ (endC P rv rs h' m') [.code c] .normal ⟨ofL (argL 0 ts),h,m⟩):Ret P g ts h m rs h' m':=
 RetA.introC hf hb hres (by simpa using hts) hok hn' hbox (by rw[argA_map];exact hg)
theorem Pure.introC (hf:P.funcs[g]?=some fn) (hb:fn.body=some c) {rv:List RV} (hres:fn.results=(rv.map RV.var).toArray) (hts:ts.length≤fn.ntmps) (hok:okC fn.ntmps c=true) {sites:Sites}
  (hg:Goes ⟨P,fn.ntmps,sites⟩ (endC P rv rs (fun _=>none) 0) [.code c] .normal ⟨ofL (argL 0 ts),fun _=>none,0⟩):Pure P g ts rs:=
 Ret.introC hf hb hres hts hok (fun _ _=>rfl) (Keeps.none _) hg

theorem endC.one {rv:RV} {y:AV} {t:T} {ws:List (Lab×Obj)} {acc:List Lab} {e:Exit} {s:St} (he:e=.normal∨e=.ret) (hv:valC P s rv=some y) (hr:(reify y).run s.h=some ((t,ws),acc))
  (hh:∀l,Lab.pool l=true→h' l=writes s.h ws l) (hn:s.nxt=m'):endC P [rv] [.t t] h' m' e s:=by
 refine⟨he,⟨[y],[false],by simp[valsC,hv],rfl,ws,[none],acc,?_,rfl,hh⟩,hn⟩
 have:([y]:List AV).zip [false]=[(y,false)]:=rfl
 rw[this]
 obtain⟨k,hk⟩:∃k,reify y=k:=⟨_,rfl⟩
 have gen:∀(k:Rd (T×List (Lab×Obj))) (acc:List Lab) (H:Heap),k.run H=some ((t,ws),acc)→((k.bind fun r=>Rd.ret (RC.t r.1,r.2,(none:Option Lab))).bind fun y=>(Rd.ret (([],[],[]):List RC×List (Lab×Obj)×List (Option Lab))).bind fun z=>Rd.ret (y.1::z.1,y.2.1++z.2.1,y.2.2::z.2.2)).run H=some (([.t t],ws,[none]),acc):=by
  intro k
  induction k with
  |ret a=>intro acc H h;simp only[Rd.run,Option.some.injEq,Prod.mk.injEq]at h;obtain⟨rfl,rfl⟩:=h;simp[Rd.bind,Rd.run]
  |fail=>intro acc H h;simp[Rd.run]at h
  | ask l k ih =>
    intro acc H h
    obtain⟨acc',h1,rfl⟩:=Rd.run_ask_some h
    have:=ih (H l) acc' H h1
    simp only[Rd.bind,Rd.run]
    simp only[Rd.bind]at this
    rw[this];rfl
 exact gen _ _ _ hr
end
theorem Pure.J {P:Program} {g:FuncId} {fn:Func} {c:Code} {ts:List T} {rs:List RC} (hf:P.funcs[g]?=some fn) (rv:List RV) (hg:run ⟨P,fn.ntmps,fun _=>false⟩ (endC P rv rs (fun _=>none) 0) 200 [.code c] .normal ⟨ofL (argL 0 ts),fun _=>none,0⟩)
 (hb:fn.body=some c:=by rfl) (hres:fn.results=(rv.map RV.var).toArray:=by rfl) (hts:ts.length≤fn.ntmps:=by exact Nat.le_of_ble_eq_true rfl) (hok:okC fn.ntmps c=true:=by decide):Pure P g ts rs:=Pure.introC hf hb hres hts hok (run_sound 200 _ _ _ hg)
end Go.Fm
/- Ends with rows of one's own, told as plain data. -/
namespace Go.Fm
theorem endF.row1 {t:Nat} {lab:Lab} {v len size frz:Nat} {es:List T} {h':Heap} {m':Nat} {e:Exit} {s:St} (he:e=.normal∨e=.ret)
  (hy:s.f t=.sl lab v 0 len) (hl:s.h lab=some (.arr size es v frz)) (hlen:len=es.length)
  (hh:∀l,Lab.pool l=true→h' l=upd s.h lab (some (.arr size es v es.length)) l) (hn:s.nxt=m'):endF [t] [.t (.slice es)] h' m' e s:=by
 refine endF.mk (ws:=[(lab,.arr size es v es.length)]) (os:=[none]) (acc:=[lab]) [false] he rfl ?_ rfl hh hn
 have:finL (([t].map s.f).zip [false])=finL [(.sl lab v 0 len,false)]:=by rw[List.map_cons,hy];rfl
 rw[this]
 have h2:es.take len=es:=List.take_of_length_le (by omega)
 simp[finL,fin1,Rd.bind]
 simp[reify,reify1,Rd.bind,Rd.run,hl,h2]

theorem endF.row2 {t u:Nat} {la lb:Lab} {va vb na nb sa sb fa fb:Nat} {ea eb:List T} {h':Heap} {m':Nat} {e:Exit} {s:St} (he:e=.normal∨e=.ret)
  (hx:s.f t=.sl la va 0 na) (hla:s.h la=some (.arr sa ea va fa)) (hna:na=ea.length) (hp:Lab.pool la=false)
  (hy:s.f u=.sl lb vb 0 nb) (hlb:s.h lb=some (.arr sb eb vb fb)) (hnb:nb=eb.length) (hp2:Lab.pool lb=false)
  (hh:∀l,Lab.pool l=true→h' l=s.h l) (hn:s.nxt=m'):endF [t,u] [.t (.slice ea),.t (.slice eb)] h' m' e s:=by
 refine endF.mk (ws:=[(la,.arr sa ea va ea.length),(lb,.arr sb eb vb eb.length)]) (os:=[none,none]) (acc:=[la,lb]) [false,false] he rfl ?_ rfl (fun l hl=> ?_) hn
 ·have:finL (([t,u].map s.f).zip [false,false])=finL [(.sl la va 0 na,false),(.sl lb vb 0 nb,false)]:=by rw[List.map_cons,List.map_cons,hx,hy];rfl
  rw[this]
  have h1:ea.take na=ea:=List.take_of_length_le (by omega)
  have h2:eb.take nb=eb:=List.take_of_length_le (by omega)
  simp[finL,fin1,Rd.bind]
  simp[reify,reify1,Rd.bind,Rd.run,hla,hlb,h1,h2]
 ·show _=upd (upd s.h la _) lb _ l
  rw[upd_ne _ _ _ _ (fun e=>by subst e;rw[hp2]at hl;cases hl),upd_ne _ _ _ _ (fun e=>by subst e;rw[hp]at hl;cases hl)]
  exact hh l hl

end Go.Fm
/- Calls that write to objects, in an open region; loops that keep variables. -/
namespace Go.Fm
section
variable {E:Env} {F:Exit→St→Prop} {pm:Bool} {all:Array Oper} {o:Oper} {gT:List Nat} {r:List Oper} {fs:List Foot} {g:FuncId} {xs:List AV} {ts:List T} {ws:List (Lab×Obj)} {acc:List Lab} {s:St} {k:List Kont}

theorem CallD.pool (rs:List RC) {h h':Heap} (W:List (Lab×Obj)) (he:Entry E.P g) (hP:Ret E.P g ts h s.nxt rs h' s.nxt) (hw:ws=[]) (hb:∀l,Lab.pool l=false→h l=none) (hh:∀l,Lab.pool l=true→s.h l=h l)
  (hW:∀l,Lab.pool l=true→h' l=writes h W l) (hWp:(W.all fun q=>Lab.pool q.1)=true)
  (hr:runD E F pm all k r (fs++[⟨o.dst,gT++tmpsOf o,acc++[],W.map (·.1),true,calmD {v:=retVal none rs,w:=W}⟩]) (s.app o.dst {v:=retVal none rs,w:=W})):CallD E F pm all o gT r fs g xs ts ws acc s k:=
 ⟨{v:=retVal none rs,w:=W},[],true,he,TakesD.pool rs _ h' W (by rw[poolH_eq hb hh];exact hP) hw (fun l hl=>by rw[hW l hl,writes_wr,writes_wr,hh l hl]) (fun q hq=>List.all_eq_true.1 hWp q hq) rfl,runD_sound _ _ _ hr⟩

theorem CallD.make (rs:List RC) {h h':Heap} (W:List (Lab×Obj)) (d:Nat) (he:Entry E.P g) (hP:Ret E.P g ts h s.nxt rs h' (s.nxt+d)) (hws:(ws.all fun q=> !q.1.pool&&(match q.2 with|.arr ..=>true|_=>false))=true) (hb:∀l,Lab.pool l=false→h l=none) (hh:∀l,Lab.pool l=true→s.h l=h l)
  (hW:∀l,Lab.pool l=true→h' l=writes h W l) (hWp:(W.all fun q=>Lab.pool q.1)=true) (hne:W≠[]∨d=0)
  (hr:runD E F pm all k r (fs++[⟨o.dst,gT++tmpsOf o,acc++[],(ws++W).map (·.1),true,calmD {v:=retVal none rs,w:=ws++W,nx:=d}⟩]) (s.app o.dst {v:=retVal none rs,w:=ws++W,nx:=d})):CallD E F pm all o gT r fs g xs ts ws acc s k:=
 ⟨{v:=retVal none rs,w:=ws++W,nx:=d},[],true,he,TakesD.make rs _ h' W (s.nxt+d) (by rw[poolH_eq hb hh];exact hP) (Nat.le_add_right _ _) hws (fun l hl=>by rw[hW l hl,writes_wr,writes_wr,hh l hl]) (fun q hq=>List.all_eq_true.1 hWp q hq) (hne.imp id fun h=>by omega) (by rw[Nat.add_sub_cancel_left]),runD_sound _ _ _ hr⟩
end

theorem Wk.boxes {n:Nat} {s:St} {base:Heap} {m:Nat} (l:List (Nat×AV)) (hl:List (Lab×Obj)) (hb:∀lab,Lab.pool lab=false→base lab=none) (hn:s.nxt=m)
  (hloc:(hl.all fun p=> !p.1.pool&&(match p.2 with|.box cs=>refsInL (hl.map (·.1)) cs|_=>true))=true)
  (h2:∀p∈hl,s.h p.1=some p.2) (h3:∀lab,Lab.pool lab=true→s.h lab=base lab) (h1:∀p∈l,s.f p.1=p.2) (h4:∀p∈l,refsIn (hl.map (·.1)) p.2=true):Wk n s ⟨ofL l,ofH base hl,m⟩:=by
 subst hn
 have hloc:∀p∈hl,Lab.pool p.1=false∧(match p.2 with|.box cs=>refsInL (hl.map (·.1)) cs|_=>true)=true:=fun p hp=>by
  have:=List.all_eq_true.1 hloc p hp
  simpa using this
 refine Wk.mk l hl hb h1 h2 (fun lab hp=> ?_) h4 (fun p hp _ cs hc=> ?_)
 ·have:lab∉hl.map (·.1):=fun hm=>by
   obtain⟨p,hp',rfl⟩:=List.mem_map.1 hm
   rw[(hloc p hp').1]at hp;cases hp
  rw[ofH_out this,h3 lab hp]
 ·have:=(hloc p hp).2
  rw[hc]at this
  exact(refsInL_iff _ _).1 this
end Go.Fm
/- Nothing in a variable's cell, as an empty row of one's own. -/
namespace Go.Fm

theorem Wk.nilCell {n:Nat} {s:St} {l0 lab:Lab} {j size:Nat} {cs:List AV} (hd:s.h l0=some (.box cs)) (hj:cs[j]?=some .nil) (hl:s.h lab=none) (hp0:Lab.pool l0=false) (hp:Lab.pool lab=false) (hsz:size≠0):
  Wk n s ⟨s.f,upd (upd s.h l0 (some (.box (cs.set j (.sl lab 0 0 0))))) lab (some (.arr size [] 0 0)),s.nxt⟩:=by
 rintro κ a w ⟨hdf,hs,φ,S,M,hsl⟩
 have hφ:=M.dom lab hl
 have hne:l0≠lab:=fun e=>by rw[e,hl]at hd;cases hd
 have get:∀l',upd (upd s.h l0 (some (.box (cs.set j (.sl lab 0 0 0))))) lab (some (.arr size [] 0 0)) l'=if l'=lab then some (.arr size [] 0 0) else if l'=l0 then some (.box (cs.set j (.sl lab 0 0 0))) else s.h l':=fun l'=>rfl
 generalize hH:upd (upd s.h l0 (some (.box (cs.set j (.sl lab 0 0 0))))) lab (some (.arr size [] 0 0))=H at get⊢
 have hlab:H lab=some (.arr size [] 0 0):=by rw[get,if_pos rfl]
 have hl0:H l0=some (.box (cs.set j (.sl lab 0 0 0))):=by rw[get,if_neg hne,if_pos rfl]
 have hoth:∀l',l'≠lab→l'≠l0→H l'=s.h l':=fun l' h1 h2=>by rw[get,if_neg h1,if_neg h2]
 have hstep:∀l' o,s.h l'=some o→∃o',H l'=some o'∧LStep φ φ w w l' o o':=by
  intro l' o ho
  by_cases e:l'=lab
  ·subst e;rw[hl]at ho;cases ho
  ·by_cases e2:l'=l0
   ·subst e2;rw[hd]at ho;cases ho;exact⟨_,hl0,rfl⟩
   ·exact⟨o,by rw[hoth _ e e2];exact ho,LStep.refl o fun b cs ty fr _ h=>⟨cs,ty,fr,h,Nat.le_refl _⟩⟩
 have av:∀y v,RepA φ s.h w S y v→RepA φ H w S y v:=fun y v h=>h.mono (fun _ _ h=>h) (fun _ h=>h) (fun _ _ _ h=>h) hstep
 refine⟨hdf,hs,φ,S,?_,fun t=>av _ _ (hsl t)⟩
 refine{M with dom:=fun l' h=> ?_,objs:=fun l' o ho=> ?_,stab:= ?_,nx:=fun id hid=> ?_}
 ·by_cases e:l'=lab
  ·subst e;exact hφ
  ·have h:H l'=none:=h
   by_cases e2:l'=l0
   ·subst e2;rw[hl0]at h;cases h
   ·rw[hoth _ e e2]at h;exact M.dom l' h
 ·have ho:H l'=some o:=ho
  by_cases e:l'=lab
  ·subst e
   rw[hlab]at ho;cases ho
   exact⟨hsz,fun _ h=>(by cases h),fun _ h=>(by cases h),Nat.le_refl _,fun _=>rfl,fun b h=>by rw[hφ]at h;cases h⟩
  ·by_cases e2:l'=l0
   ·subst e2
    rw[hl0]at ho;cases ho
    obtain⟨b,vs,ty,g1,g2,g3,g4,g5,g6⟩:=M.objs l' _ hd
    refine⟨b,vs,ty,g1,g2,by simpa using g3,g4,fun hpp=>(by rw[hp0]at hpp;cases hpp),fun i c v hi hv=> ?_⟩
    by_cases ei:i=j
    ·subst ei
     have hlt:=(List.getElem?_eq_some_iff.1 hj).1
     rw[List.getElem?_set_self hlt]at hi
     cases hi
     have h0:=g6 i .nil v hj hv
     cases h0
     refine .sl lab 0 0 0 _ (.arr size [] 0 0) hlab trivial fun size' es' v' frz' e=> ?_
     cases e
     exact⟨Nat.le_refl _,fun _=>⟨Nat.le_refl _,none,0,rfl,Nat.le_refl _,fun _=>⟨rfl,rfl⟩,fun b h=>by rw[hφ]at h;cases h⟩⟩
    ·rw[List.getElem?_set_ne (Ne.symm ei)]at hi
     exact av _ _ (g6 i c v hi hv)
   ·rw[hoth _ e e2]at ho
    exact(M.objs l' o ho).mono (fun _ _ h=>h) (fun _ h=>h) (fun _ _ _ h=>h) hstep rfl fun _ _=>rfl
 ·rintro ad h ⟨l',o,h1,h2,h3⟩
  have h1:H l'=some o:=h1
  by_cases e:l'=lab
  ·subst e;rw[hφ]at h2;cases h2
  ·by_cases e2:l'=l0
   ·subst e2
    rw[hl0]at h1;cases h1
    exact M.stab ad h ⟨l',_,hd,h2,trivial⟩
   ·rw[hoth _ e e2]at h1;exact M.stab ad h ⟨l',o,h1,h2,h3⟩
 ·show H (.obj id)=none
  rw[hoth _ (fun e=>by rw[←e]at hp;cases hp) (fun e=>by rw[←e]at hp0;cases hp0)];exact M.nx id hid
end Go.Fm
/- Rows inside a row: many rows of one's own at once; rows of one's own told as plain data at a function's end. -/
namespace Go.Fm

def rowsH (base:Heap) (D K:Nat) (r:Nat→Obj):Heap
 |.loc d k=>if d=D then (if k<K then some (r k) else none) else base (.loc d k)
 |l=>base l
theorem rowsH_loc (base:Heap) (D K:Nat) (r:Nat→Obj) (d k:Nat):rowsH base D K r (.loc d k)=if d=D then (if k<K then some (r k) else none) else base (.loc d k):=rfl
theorem rowsH_pool {base:Heap} {D K:Nat} {r:Nat→Obj} {l:Lab} (h:Lab.pool l=true):rowsH base D K r l=base l:=by cases l<;>first|rfl|cases h
theorem rowsH_get {base:Heap} {D K:Nat} {r:Nat→Obj} {k:Nat} (h:k<K):rowsH base D K r (.loc D k)=some (r k):=by rw[rowsH_loc,if_pos rfl,if_pos h]
def rowsL (D K:Nat) (r:Nat→Obj):List (Lab×Obj):=(List.range K).map fun k=>(.loc D k,r k)
theorem rowsL_lab (D K:Nat) (r:Nat→Obj):(rowsL D K r).map (·.1)=(List.range K).map fun k=>Lab.loc D k:=by simp[rowsL]
theorem rowsH_ofH {base:Heap} {D K:Nat} {r:Nat→Obj} (hb:∀lab,Lab.pool lab=false→base lab=none):rowsH base D K r=ofH base (rowsL D K r):=by
 funext l
 by_cases hm:l∈(rowsL D K r).map (·.1)
 ·rw[rowsL_lab,List.mem_map]at hm
  obtain⟨k,hk,rfl⟩:=hm
  have hk:=List.mem_range.1 hk
  refine(ofH_in (H:=rowsH base D K r) (fun p hp=> ?_) _ ?_).symm
  ·obtain⟨j,hj,rfl⟩:=List.mem_map.1 hp
   exact rowsH_get (List.mem_range.1 hj)
  ·rw[rowsL_lab];exact List.mem_map.2 ⟨k,List.mem_range.2 hk,rfl⟩
 ·rw [ofH_out hm]
  cases l with
  | loc d k =>
    rw[rowsH_loc]
    by_cases e:d=D
    ·subst e
     rw[if_pos rfl,if_neg fun hk=>hm (by rw[rowsL_lab];exact List.mem_map.2 ⟨k,List.mem_range.2 hk,rfl⟩),hb _ rfl]
    ·rw[if_neg e]
  |_=>rfl
theorem ofH_append (base:Heap):∀a b:List (Lab×Obj),ofH base (a++b)=ofH (ofH base b) a
 |[],_=>rfl
 |(l,o)::r,b=>by rw[List.cons_append,ofH,ofH,ofH_append base r b]

theorem Wk.nest {n:Nat} {s:St} {base:Heap} {m:Nat} (l:List (Nat×AV)) (hl:List (Lab×Obj)) (D K:Nat) (r:Nat→Obj) (hb:∀lab,Lab.pool lab=false→base lab=none) (hn:s.nxt=m)
  (hpl:(hl.all fun p=> !p.1.pool)=true) (hD:(hl.all fun p=>match p.1 with|.loc d _=>d !=D|_=>true)=true) (hrow:∀k,k<K→∃size es v frz,r k=.arr size es v frz)
  (h2:∀p∈hl,s.h p.1=some p.2) (hr:∀k,k<K→s.h (.loc D k)=some (r k))
  (h3:∀lab,Lab.pool lab=true→s.h lab=base lab) (h1:∀p∈l,s.f p.1=p.2) (h4:∀p∈l,refsIn (hl.map (·.1)) p.2=true)
  (h5:∀p∈hl,∀cs,p.2=.box cs→∀c∈cs,refsIn (hl.map (·.1)) c=true∨∃k ver off len,k<K∧c=.sl (.loc D k) ver off len):Wk n s ⟨ofL l,ofH (rowsH base D K r) hl,m⟩:=by
 subst hn
 rw[rowsH_ofH hb,←ofH_append]
 have hmap:(hl++rowsL D K r).map (·.1)=hl.map (·.1)++(List.range K).map fun k=>Lab.loc D k:=by rw[List.map_append,rowsL_lab]
 have hpool:∀p∈hl,Lab.pool p.1=false:=fun p hp=>by simpa using List.all_eq_true.1 hpl p hp
 have hmono:∀x:AV,refsIn (hl.map (·.1)) x=true→refsIn ((hl++rowsL D K r).map (·.1)) x=true:=by
  have hc:∀lab:Lab,(lab.pool||(hl.map (·.1)).contains lab)=true→(lab.pool||((hl++rowsL D K r).map (·.1)).contains lab)=true:=fun lab h=>by
   rw[Bool.or_eq_true]at h⊢
   refine h.imp id fun h=> ?_
   rw[List.contains_iff_mem]at h⊢
   rw[List.map_append]
   exact List.mem_append_left _ h
  have key : ∀ (k : Nat) (x : AV), SizeOf.sizeOf x < k → refsIn (hl.map (·.1)) x = true → refsIn ((hl ++ rowsL D K r).map (·.1)) x = true := fun k => by
   induction k with
   |zero=>intro x hx;omega
   | succ k ih =>
     intro x hx h
     cases x with
     |sl l'=>exact hc l' h
     |ep l'=>exact hc l' h
     |bp l'=>exact hc l' h
     |mp l'=>exact hc l' h
     |sb l'=>exact hc l' h
     | agg cs =>
       rw[refsIn,refsInL_iff]at h⊢
       exact fun c hm=>ih c (by have:=List.sizeOf_lt_of_mem hm;simp at hx;omega) (h c hm)
     | tup cs =>
       rw[refsIn,refsInL_iff]at h⊢
       exact fun c hm=>ih c (by have:=List.sizeOf_lt_of_mem hm;simp at hx;omega) (h c hm)
     |_=>rfl
  exact fun x=>key _ x (Nat.lt_succ_self _)
 have hin:∀p∈hl++rowsL D K r,s.h p.1=some p.2:=fun p hp=>by
  rcases List.mem_append.1 hp with hp|hp
  ·exact h2 p hp
  ·obtain⟨k,hk,rfl⟩:=List.mem_map.1 hp
   exact hr k (List.mem_range.1 hk)
 refine Wk.mk l (hl++rowsL D K r) hb h1 hin (fun lab hp=> ?_) (fun p hp=>hmono _ (h4 p hp)) (fun p hp hpp cs hc c hcm=> ?_)
 ·have:lab∉(hl++rowsL D K r).map (·.1):=fun hm=>by
   rw[hmap,List.mem_append]at hm
   rcases hm with hm|hm
   ·obtain⟨p,hp',rfl⟩:=List.mem_map.1 hm
    rw[hpool p hp']at hp;cases hp
   ·obtain⟨k,_,rfl⟩:=List.mem_map.1 hm
    cases hp
  rw[ofH_out this,h3 lab hp]
 ·rcases List.mem_append.1 hp with hp|hp
  ·rcases h5 p hp cs hc c hcm with h|⟨k,ver,off,len,hk,rfl⟩
   ·exact hmono c h
   ·have hc:((hl++rowsL D K r).map (·.1)).contains (Lab.loc D k)=true:=by
     rw[List.contains_iff_mem,hmap]
     exact List.mem_append_right _ (List.mem_map.2 ⟨k,List.mem_range.2 hk,rfl⟩)
    rw[refsIn,hc,Bool.or_true]
  ·obtain⟨k,hk,rfl⟩:=List.mem_map.1 hp
   obtain⟨size,es,v,frz,e⟩:=hrow k (List.mem_range.1 hk)
   simp only[e]at hc
   cases hc

theorem Wk.nilCells {n : Nat} {s : St} {d0 j0 D K : Nat} (hd : s.h (.loc d0 j0) = some (.box (List.replicate K .nil))) (hne : d0 ≠ D) (hl : ∀ k, s.h (.loc D k) = none) :
  Wk n s ⟨s.f,rowsH (upd s.h (.loc d0 j0) (some (.box ((List.range K).map fun k=>.sl (.loc D k) 0 0 0)))) D K (fun _=>.arr 1 [] 0 0),s.nxt⟩:=by
 have key:∀k,k≤K→Wk n s ⟨s.f,rowsH (upd s.h (.loc d0 j0) (some (.box (((List.range k).map fun k=>.sl (.loc D k) 0 0 0)++List.replicate (K-k) .nil)))) D k (fun _=>.arr 1 [] 0 0),s.nxt⟩:=fun k=>by
  induction k with
  | zero =>
    intro _
    have:rowsH (upd s.h (.loc d0 j0) (some (.box (((List.range 0).map fun k=>.sl (.loc D k) 0 0 0)++List.replicate (K-0) .nil)))) D 0 (fun _=>.arr 1 [] 0 0)=s.h:=by
     funext l
     cases l with
     | loc d k =>
       rw[rowsH_loc]
       by_cases e:d=D
       ·subst e;rw[if_pos rfl,if_neg (by omega),hl]
       ·rw[if_neg e]
        by_cases e2:Lab.loc d k=.loc d0 j0
        ·rw[e2,upd_same,hd];simp
        ·rw[upd_ne _ _ _ _ e2]
     |obj i=>exact upd_ne _ _ _ _ (fun e=>by cases e)
     |arg i=>exact upd_ne _ _ _ _ (fun e=>by cases e)
     |fld i j=>exact upd_ne _ _ _ _ (fun e=>by cases e)
     |res j=>exact upd_ne _ _ _ _ (fun e=>by cases e)
    rw[this]
    exact Wk.refl s
  | succ k ih =>
    intro hk
    refine Wk.trans (ih (by omega)) ?_
    have hrep:List.replicate (K-k) AV.nil=.nil::List.replicate (K-(k+1)) .nil:=by rw[show K-k=(K-(k+1))+1 by omega];rfl
    obtain⟨cs,hcs⟩:∃cs,(((List.range k).map fun k=>AV.sl (.loc D k) 0 0 0)++List.replicate (K-k) .nil)=cs:=⟨_,rfl⟩
    have hset:cs.set k (.sl (.loc D k) 0 0 0)=((List.range (k+1)).map fun k=>AV.sl (.loc D k) 0 0 0)++List.replicate (K-(k+1)) .nil:=by
     rw[←hcs,hrep,List.set_append_right _ _ (by simp),List.length_map,List.length_range,Nat.sub_self,List.set_cons_zero,List.range_succ,List.map_append,List.append_assoc];rfl
    have hget:cs[k]?=some .nil:=by rw[←hcs,hrep,List.getElem?_append_right (by simp)];simp
    rw[hcs]
    have W:=Wk.nilCell (n:=n) (s:=⟨s.f,rowsH (upd s.h (.loc d0 j0) (some (.box cs))) D k (fun _=>.arr 1 [] 0 0),s.nxt⟩) (l0:=.loc d0 j0) (lab:=.loc D k) (j:=k) (size:=1) (cs:=cs)
     (by dsimp only;rw[rowsH_loc,if_neg hne,upd_same]) hget (by dsimp only;rw[rowsH_loc,if_pos rfl,if_neg (by omega)]) rfl rfl (by decide)
    rw[hset]at W
    have hh : upd (upd (rowsH (upd s.h (.loc d0 j0) (some (.box cs))) D k (fun _ => .arr 1 [] 0 0)) (.loc d0 j0) (some (.box (((List.range (k + 1)).map fun k => AV.sl (.loc D k) 0 0 0) ++ List.replicate (K - (k + 1)) .nil)))) (.loc D k) (some (.arr 1 [] 0 0))
     =rowsH (upd s.h (.loc d0 j0) (some (.box (((List.range (k+1)).map fun k=>AV.sl (.loc D k) 0 0 0)++List.replicate (K-(k+1)) .nil)))) D (k+1) (fun _=>.arr 1 [] 0 0):=by
     funext l
     cases l with
     | loc d j =>
       rw[rowsH_loc]
       by_cases e:d=D
       ·subst e
        rw[if_pos rfl]
        by_cases e2:j=k
        ·subst e2;rw[upd_same,if_pos (by omega)]
        ·rw[upd_ne _ _ _ _ (fun e=>by cases e;exact e2 rfl),upd_ne _ _ _ _ (fun e=>by cases e;exact hne rfl),rowsH_loc,if_pos rfl]
         by_cases e3:j<k
         ·rw[if_pos e3,if_pos (by omega)]
         ·rw[if_neg e3,if_neg (by omega)]
       ·rw[if_neg e,upd_ne _ _ _ _ (fun e2=>by cases e2;exact e rfl)]
        by_cases e2:Lab.loc d j=.loc d0 j0
        ·rw[e2,upd_same,upd_same]
        ·rw[upd_ne _ _ _ _ e2,upd_ne _ _ _ _ e2,rowsH_loc,if_neg e,upd_ne _ _ _ _ e2]
     |obj i=>rfl
     |arg i=>rfl
     |fld i j=>rfl
     |res j=>rfl
    rw[←hh]
    exact W
 have:=key K (Nat.le_refl _)
 rw[Nat.sub_self,List.replicate_zero,List.append_nil]at this
 exact this
end Go.Fm
/- At a function's end: rows inside a row, told as plain data. -/
namespace Go.Fm
section
variable {κ:Kap} {φ:Inj} {S:Addr→Prop} {H:Heap} {n:Nat} {w:World}

theorem repT_of_own (M:Mem κ φ S H n w) {l:Lab} {size:Nat} {es:List T} {v frz off len:Nat} {u:Value} {S':Addr→Prop} (hl:H l=some (.arr size es v frz)) (hSS:∀a,S a→S' a) (hS:∀b o,φ l=some b→S' ⟨b,o,none⟩)
  (hh:Hdr φ w l size es.length off len u):RepT φ.objs w S' (.slice ((es.drop off).take len)) u:=by
 obtain⟨o1,o2,o3,o4,o5,o6⟩:=M.objs l _ hl
 obtain⟨h1,ad,cap,rfl,h2,h3,h4⟩:=hh
 have hlen:((es.drop off).take len).length=len:=by simp;omega
 have hget:∀i e,((es.drop off).take len)[i]?=some e→i<len∧es[off+i]?=some e:=by
  intro i e h
  rw[List.getElem?_take]at h
  split at h
  ·rw[List.getElem?_drop]at h;exact⟨by assumption,h⟩
  ·cases h
 rw[show(Value.slice ad len cap)=.slice ad ((es.drop off).take len).length cap by rw[hlen]]
 by_cases hz:len=0
 ·subst hz
  have:((es.drop off).take 0)=[]:=by simp
  rw[this]
  exact .slice [] ad ⟨0,0,none⟩ cap 0 (fun _ _=>undef) (by simp) (fun h=>(h rfl).elim) (by simp) (by simp) (by simp) (by simp)
 ·cases hφ:φ l with
  | none =>
    have:=o5 hφ
    subst this
    simp at h1;omega
  | some b =>
    obtain⟨rfl,cs0,ty0,fr0,m1,m2⟩:=h4 b hφ (.inr (by omega))
    obtain⟨cs,ty,g1,g2,g3,g4⟩:=o6 b hφ
    have hcell:∀i j e c,((es.drop off).take len)[i]?=some e→e.cells[j]?=some c→
     w.cell? ⟨b,off*size+i*size+j,none⟩=some (cs.getD (off*size+i*size+j) undef)∧S' ⟨b,off*size+i*size+j,none⟩∧RepT φ.objs w S' c (cs.getD (off*size+i*size+j) undef):=by
     intro i j e c he hc
     obtain⟨hi,he'⟩:=hget i e he
     obtain⟨x,k1,k2⟩:=g3 (off+i) j e c he' hc
     have ea:(off+i)*size+j=off*size+i*size+j:=by rw[Nat.add_mul]
     rw[ea]at k1
     refine⟨?_,hS _ _ hφ,?_⟩
     ·rw[cell?_eq g1,k1];simp[k1]
     ·have k2:=k2.mono (fun _ _ h=>h) hSS fun _ _ _ h=>h
      simpa [k1] using k2
    exact .slice _ _ ⟨b,off*size,none⟩ cap size (fun i j=>cs.getD (off*size+i*size+j) undef) (by rw[hlen];exact h2) (fun _=>⟨rfl,rfl⟩)
     (fun e he=>o2 e (List.mem_of_mem_drop (List.mem_of_mem_take he))) (fun e he=>o3 e (List.mem_of_mem_drop (List.mem_of_mem_take he)))
     (fun i j e c he hc=>⟨(hcell i j e c he hc).1,(hcell i j e c he hc).2.1⟩) (fun i j e c he hc=>(hcell i j e c he hc).2.2)
end

theorem Wk.dissolve {n : Nat} {s : St} {base : Heap} {m t0 : Nat} {d0 j0 D K : Nat} {cs : List AV} {rows : Nat → List T} (hb : ∀ lab, Lab.pool lab = false → base lab = none) (h3 : ∀ lab, Lab.pool lab = true → s.h lab = base lab) (hn : s.nxt = m)
  (hs:s.f t0=.sb (.loc d0 j0) K) (hbox:s.h (.loc d0 j0)=some (.box cs)) (hcs:cs.length=K)
  (hrow:∀k,k<K→∃ver frz,cs[k]?=some (.sl (.loc D k) ver 0 (rows k).length)∧s.h (.loc D k)=some (.arr 1 (rows k) ver frz)):
  Wk n s ⟨ofL [(t0,.t (.slice ((List.range K).map fun k=>.slice (rows k))))],base,m⟩:=by
 subst hn
 rintro κ a w ⟨hd,hsz,φ,S,M,hsl⟩
 let φ':Inj:=fun lab=>if Lab.pool lab=true then φ lab else none
 let S':Addr→Prop:=fun a=>S a∨(a.spot=none∧∃lab,Lab.pool lab=false∧φ lab=some a.block)
 have hSS:∀a,S a→S' a:=fun a h=>.inl h
 have p1:∀lab,Lab.pool lab=true→φ' lab=φ lab:=fun lab h=>by show(if _ then _ else _)=_;rw[if_pos h]
 have p2:∀lab b,φ' lab=some b→Lab.pool lab=true∧φ lab=some b:=fun lab b h=>by
  have h:(if Lab.pool lab=true then φ lab else none)=some b:=h
  split at h
  ·rename_i hp;exact⟨hp,h⟩
  ·cases h
 have p3:∀lab o,base lab=some o→Lab.pool lab=true∧s.h lab=some o:=fun lab o h=>by
  cases hp:Lab.pool lab with
  |false=>rw[hb lab hp]at h;cases h
  |true=>exact⟨rfl,by rw[h3 lab hp];exact h⟩
 have tv:∀t v,RepT φ.objs w S' t v→RepT φ'.objs w S' t v:=fun t v h=>h.mono (fun id b e=>by show φ' (.obj id)=_;rw[p1 _ rfl];exact e) (fun _ h=>h) fun _ _ _ h=>h
 refine⟨hd,hsz,φ',S',?_,fun t=> ?_⟩
 ·refine { inj := fun l1 l2 b e1 e2 => M.inj _ _ _ (p2 _ _ e1).2 (p2 _ _ e2).2, dom := fun lab h => ?_, lt := fun lab b h => M.lt _ _ (p2 _ _ h).2, objs := fun lab o ho => ?_, stab := ?_, slt := ?_, nx := fun id hid => (h3 (.obj id) rfl).symm.trans (M.nx id hid),
           sub:=fun a h=>.inl (M.sub a h),sup:= ?_,grow:=M.grow,os:=M.os,tape:=M.tape,output:=M.output,keep:=M.keep,keepS:=M.keepS,old:=fun lab b h hlt=>M.old _ _ (p2 _ _ h).2 hlt,loc0:=M.loc0,
           objk:=fun lab b hf h=>by rw[p1 lab (by cases lab<;>first|rfl|cases hf)];exact M.objk lab b hf h}
  ·cases hp:Lab.pool lab with
   |false=>show(if _ then _ else _)=_;rw[if_neg (by rw[hp];simp)]
   |true=>rw[p1 lab hp];exact M.dom lab (by rw[h3 lab hp];exact h)
  ·obtain⟨q1,q2⟩:=p3 lab o ho
   have O:=(M.objs lab o q2).mono (S':=S') (fun _ _ h=>h) hSS (fun _ _ _ h=>h) (fun l o h=>⟨o,h,LStep.refl o fun b cs ty fr _ h=>⟨cs,ty,fr,h,Nat.le_refl _⟩⟩) rfl fun _ _=>rfl
   exact O.poolO q1 fun l hl=>⟨p1 l hl,(h3 l hl).symm⟩
  ·rintro ad ha ⟨lab,o,e1,e2,e3⟩
   obtain⟨q1,q2⟩:=p3 lab o e1
   obtain⟨_,q3⟩:=p2 _ _ e2
   rcases ha with ha|⟨_,lab2,hp2,hφ2⟩
   ·exact M.stab ad ha ⟨lab,o,q2,q3,e3⟩
   ·have:=M.inj _ _ _ q3 hφ2
    rw[this,hp2]at q1;cases q1
  ·rintro a (h|⟨h1,lab,_,h2⟩)
   ·exact M.slt a h
   ·exact⟨M.lt _ _ h2,h1⟩
  ·rintro a (h|⟨h1,lab,_,h2⟩)
   ·exact M.sup a h
   ·rcases Nat.lt_or_ge a.block κ.w0.heap.size with g|g
    ·exact .inr (.inr ⟨lab,M.old lab _ h2 g⟩)
    ·exact .inr (.inl g)
 ·show RepA φ' base w S' (ofL [(t0,_)] t) _
  by_cases e:t=t0
  ·subst e
   rw[ofL,upd_same]
   have h0:=hsl t
   rw[hs]at h0
   generalize a.tmps.getD t undef=v at h0⊢
   cases h0 with
   | sb _ _ b cap cs' ho hφ hcap =>
     rw[hbox]at ho
     cases ho
     obtain⟨b',vs,ty,g1,g2,g3,g4,g5,g6⟩:=M.objs _ _ hbox
     rw[hφ]at g1
     cases g1
     refine .t _ _ ?_
     have hvs:∀i,i<K→vs[i]?=some (vs.getD i undef):=fun i hi=>by
      have:i<vs.size:=by omega
      simp[this]
     have hrep:∀i,i<K→RepT φ'.objs w S' (.slice (rows i)) (vs.getD i undef):=fun i hi=>by
      obtain⟨ver,frz,h1,h2⟩:=hrow i hi
      have hA:=g6 i _ _ h1 (hvs i hi)
      generalize vs.getD i undef=u at hA⊢
      cases hA with
      | sl _ _ _ _ _ o ho hv hh =>
        rw[h2]at ho
        cases ho
        have hd:=(hh _ _ _ _ rfl).2 rfl
        have:=repT_of_own (S':=S') M h2 hSS (fun b o hb=>.inr ⟨rfl,_,rfl,hb⟩) hd
        rw[List.drop_zero,List.take_length]at this
        exact tv _ _ this
     have hlen:((List.range K).map fun k=>T.slice (rows k)).length=K:=by simp
     have hget:∀(i j:Nat) (e c:T),((List.range K).map fun k=>T.slice (rows k))[i]?=some e→e.cells[j]?=some c→i<K∧j=0∧c=.slice (rows i):=by
      intro i j e c he hc
      have hi:i<K:=by have:=(List.getElem?_eq_some_iff.1 he).1;simpa using this
      rw[List.getElem?_map,List.getElem?_range hi]at he
      cases he
      cases j with
      |zero=>cases hc;exact⟨hi,rfl,rfl⟩
      |succ j=>simp[T.cells]at hc
     rw[show(Value.slice (some ⟨b,0,none⟩) K cap)=.slice (some ⟨b,0,none⟩) ((List.range K).map fun k=>T.slice (rows k)).length cap by rw[hlen]]
     refine .slice _ _ ⟨b,0,none⟩ cap 1 (fun i j=>vs.getD i undef) (by rw[hlen];exact hcap) (fun _=>⟨rfl,rfl⟩) ?_ ?_ ?_ ?_
     ·intro e he
      obtain⟨k,_,rfl⟩:=List.mem_map.1 he
      rfl
     ·intro e he c hc
      obtain⟨k,_,rfl⟩:=List.mem_map.1 he
      have:c=.slice (rows k):=by simpa [T.cells] using hc
      subst this;trivial
     ·intro i j e c he hc
      obtain⟨hi,rfl,rfl⟩:=hget i j e c he hc
      refine⟨?_,.inr ⟨rfl,_,rfl,hφ⟩⟩
      rw[cell?_eq g2]
      have:=hvs i hi
      simpa using this
     ·intro i j e c he hc
      obtain⟨hi,rfl,rfl⟩:=hget i j e c he hc
      exact hrep i hi
  ·rw[ofL,upd_ne _ _ _ _ e]
   exact .und _
def endW (n:Nat) (F:Exit→St→Prop):Exit→St→Prop:=fun e s=>∃s',Wk n s s'∧F e s'
theorem Goes.weakF {E:Env} {F:Exit→St→Prop} {c:Code} {s:St} (h:Goes E (endW E.n F) [.code c] .normal s):Goes E F [.code c] .normal s:=fun ok κ a w hc=>
 wp_mono (h ok κ a w hc) fun _ _ _ ⟨_,⟨s',hw,hF⟩,hc'⟩=>⟨s',hF,hw κ _ _ hc'⟩
end Go.Fm
/- A row in an object's cell, told as plain data from then on. -/
namespace Go.Fm

theorem repT_of_row {κ:Kap} {φ:Inj} {S:Addr→Prop} {H:Heap} {n:Nat} {w:World} (M:Mem κ φ S H n w) {l:Lab} {size:Nat} {es:List T} {v frz:Nat} {u:Value} {S':Addr→Prop} (hl:H l=some (.arr size es v frz)) (hSS:∀a,S a→S' a) (hS:∀b o,φ l=some b→o<es.length*size→S' ⟨b,o,none⟩)
  (hh:Hdr φ w l size es.length 0 es.length u):RepT φ.objs w S' (.slice es) u:=by
 obtain⟨o1,o2,o3,o4,o5,o6⟩:=M.objs l _ hl
 obtain⟨h1,ad,cap,rfl,h2,h3,h4⟩:=hh
 by_cases hz:es.length=0
 ·obtain rfl:es=[]:=List.length_eq_zero_iff.1 hz
  exact .slice [] ad ⟨0,0,none⟩ cap 0 (fun _ _=>undef) (by simp) (fun h=>(h rfl).elim) (by simp) (by simp) (by simp) (by simp)
 ·cases hφ:φ l with
  | none =>
    have:=o5 hφ
    subst this
    simp at hz
  | some b =>
    obtain⟨rfl,cs0,ty0,fr0,m1,m2⟩:=h4 b hφ (.inl rfl)
    obtain⟨cs,ty,g1,g2,g3,g4⟩:=o6 b hφ
    have hcell:∀i j e c,es[i]?=some e→e.cells[j]?=some c→
     w.cell? ⟨b,0*size+i*size+j,none⟩=some (cs.getD (0*size+i*size+j) undef)∧S' ⟨b,0*size+i*size+j,none⟩∧RepT φ.objs w S' c (cs.getD (0*size+i*size+j) undef):=by
     intro i j e c he hc
     obtain⟨x,k1,k2⟩:=g3 i j e c he hc
     rw[Nat.zero_mul,Nat.zero_add]
     have hi:=(List.getElem?_eq_some_iff.1 he).1
     have hj:j<size:=by rw[←o2 e (List.mem_of_getElem? he)];exact(List.getElem?_eq_some_iff.1 hc).1
     refine⟨?_,hS _ _ hφ ?_,?_⟩
     ·rw[cell?_eq g1,k1];simp[k1]
     ·have:=Nat.mul_le_mul_right size (show i+1≤es.length by omega)
      rw[Nat.add_mul,Nat.one_mul]at this
      omega
     ·have k2:=k2.mono (fun _ _ h=>h) hSS fun _ _ _ h=>h
      simpa [k1] using k2
    exact .slice _ _ ⟨b,0*size,none⟩ cap size (fun i j=>cs.getD (0*size+i*size+j) undef) h2 (fun _=>⟨rfl,rfl⟩) o2 o3
     (fun i j e c he hc=>⟨(hcell i j e c he hc).1,(hcell i j e c he hc).2.1⟩) (fun i j e c he hc=>(hcell i j e c he hc).2.2)

theorem Wk.still {n : Nat} {s : St} {l0 lab : Lab} {j size ver frz : Nat} {cs : List AV} {es : List T} (hd : s.h l0 = some (.box cs)) (hj : cs[j]? = some (.sl lab ver 0 es.length)) (hl : s.h lab = some (.arr size es ver frz)) :
  Wk n s ⟨s.f,upd (upd s.h lab (some (.arr size es ver es.length))) l0 (some (.box (cs.set j (.t (.slice es))))),s.nxt⟩:=by
 rintro κ a w ⟨hdf,hs,φ,S,M,hsl⟩
 have hne:l0≠lab:=fun e=>by rw[e,hl]at hd;cases hd
 have get:∀l',upd (upd s.h lab (some (.arr size es ver es.length))) l0 (some (.box (cs.set j (.t (.slice es))))) l'=if l'=l0 then some (.box (cs.set j (.t (.slice es)))) else if l'=lab then some (.arr size es ver es.length) else s.h l':=fun l'=>rfl
 generalize hH:upd (upd s.h lab (some (.arr size es ver es.length))) l0 (some (.box (cs.set j (.t (.slice es)))))=H at get⊢
 have hlab:H lab=some (.arr size es ver es.length):=by rw[get,if_neg (Ne.symm hne),if_pos rfl]
 have hl0:H l0=some (.box (cs.set j (.t (.slice es)))):=by rw[get,if_pos rfl]
 have hoth:∀l',l'≠lab→l'≠l0→H l'=s.h l':=fun l' h1 h2=>by rw[get,if_neg h2,if_neg h1]
 have hstep:∀l' o,s.h l'=some o→∃o',H l'=some o'∧LStep φ φ w w l' o o':=by
  intro l' o ho
  by_cases e:l'=lab
  ·subst e
   rw[hl]at ho;cases ho
   exact⟨_,hlab,Nat.le_refl _,fun _=>⟨rfl,Nat.le_refl _,rfl,fun b cs ty fr _ h=>⟨cs,ty,fr,h,Nat.le_refl _⟩⟩⟩
  ·by_cases e2:l'=l0
   ·subst e2;rw[hd]at ho;cases ho;exact⟨_,hl0,rfl⟩
   ·exact⟨o,by rw[hoth _ e e2];exact ho,LStep.refl o fun b cs ty fr _ h=>⟨cs,ty,fr,h,Nat.le_refl _⟩⟩
 let S':Addr→Prop:=fun a=>S a∨(a.spot=none∧φ lab=some a.block∧a.off<es.length*size)
 have hSS:∀a,S a→S' a:=fun a h=>.inl h
 have av:∀y v,RepA φ s.h w S y v→RepA φ H w S' y v:=fun y v h=>h.mono (fun _ _ h=>h) hSS (fun _ _ _ h=>h) hstep
 have frle:frz≤es.length:=(M.objs lab _ hl).2.2.2.1
 refine⟨hdf,hs,φ,S',?_,fun t=>av _ _ (hsl t)⟩
 refine{M with dom:=fun l' h=> ?_,objs:=fun l' o ho=> ?_,stab:= ?_,slt:= ?_,nx:=fun id hid=> ?_,sub:=fun a h=>.inl (M.sub a h),sup:= ?_}
 ·have h:H l'=none:=h
  by_cases e:l'=lab
  ·subst e;rw[hlab]at h;cases h
  ·by_cases e2:l'=l0
   ·subst e2;rw[hl0]at h;cases h
   ·rw[hoth _ e e2]at h;exact M.dom l' h
 ·have ho:H l'=some o:=ho
  by_cases e:l'=lab
  ·subst e
   rw[hlab]at ho;cases ho
   have O:=(M.objs l' _ hl).mono (S':=S') (fun _ _ h=>h) hSS (fun _ _ _ h=>h) hstep rfl fun _ _=>rfl
   obtain⟨h1,h2,h3,h4,h5,h6⟩:=O
   refine⟨h1,h2,h3,Nat.le_refl _,h5,fun b hb=> ?_⟩
   obtain⟨cs',ty,g1,g2,g3,_⟩:=h6 b hb
   refine⟨cs',ty,g1,g2,g3,fun i k hi hk=>.inr ⟨rfl,hb,?_⟩⟩
   have:=Nat.mul_le_mul_right size (show i+1≤es.length by omega)
   rw[Nat.add_mul,Nat.one_mul]at this
   show i*size+k<_
   omega
  ·by_cases e2:l'=l0
   ·subst e2
    rw[hl0]at ho;cases ho
    obtain⟨b,vs,ty,g1,g2,g3,g4,g5,g6⟩:=M.objs l' _ hd
    refine⟨b,vs,ty,g1,g2,by simpa using g3,g4,fun hpp c hc=> ?_,fun i c v hi hv=> ?_⟩
    ·rcases List.mem_or_eq_of_mem_set hc with h|h
     ·exact g5 hpp c h
     ·subst h;trivial
    ·by_cases ei:i=j
     ·subst ei
      have hlt:=(List.getElem?_eq_some_iff.1 hj).1
      rw[List.getElem?_set_self hlt]at hi
      cases hi
      have h0:=g6 i _ v hj hv
      cases h0 with
      | sl _ _ _ _ _ o ho hv2 hh =>
        rw[hl]at ho
        cases ho
        exact .t _ _ (repT_of_row M hl hSS (fun b o hb hlt=>.inr ⟨rfl,hb,hlt⟩) ((hh _ _ _ _ rfl).2 rfl))
     ·rw[List.getElem?_set_ne (Ne.symm ei)]at hi
      exact av _ _ (g6 i c v hi hv)
   ·rw[hoth _ e e2]at ho
    exact(M.objs l' o ho).mono (fun _ _ h=>h) hSS (fun _ _ _ h=>h) hstep rfl fun _ _=>rfl
 ·rintro ad ha ⟨l',o,h1,h2,h3⟩
  have h1:H l'=some o:=h1
  rcases ha with ha|⟨_,hφ,hoff⟩
  ·by_cases e:l'=lab
   ·subst e
    rw[hlab]at h1;cases h1
    exact M.stab ad ha ⟨l',_,hl,h2,Nat.le_trans (Nat.mul_le_mul_right size frle) h3⟩
   ·by_cases e2:l'=l0
    ·subst e2
     rw[hl0]at h1;cases h1
     exact M.stab ad ha ⟨l',_,hd,h2,trivial⟩
    ·rw[hoth _ e e2]at h1;exact M.stab ad ha ⟨l',o,h1,h2,h3⟩
  ·have:=M.inj _ _ _ h2 hφ
   subst this
   rw[hlab]at h1;cases h1
   have h3:es.length*size≤ad.off:=h3
   omega
 ·rintro a (h|⟨h1,h2,_⟩)
  ·exact M.slt a h
  ·exact⟨M.lt _ _ h2,h1⟩
 ·show H (.obj id)=none
  have h0:=M.nx id hid
  rw[hoth _ (fun e=>by rw[←e,h0]at hl;cases hl) (fun e=>by rw[←e,h0]at hd;cases hd)];exact h0
 ·rintro a (h|⟨h1,h2,_⟩)
  ·exact M.sup a h
  ·rcases Nat.lt_or_ge a.block κ.w0.heap.size with g|g
   ·exact .inr (.inr ⟨lab,M.old lab _ h2 g⟩)
   ·exact .inr (.inl g)
end Go.Fm
