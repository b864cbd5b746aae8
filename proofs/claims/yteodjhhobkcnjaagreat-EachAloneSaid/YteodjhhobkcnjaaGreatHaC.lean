/- A function whose results stand in variables in memory. -/
import Derived.Test.YteodjhhobkcnjaaGreatHaB
set_option linter.unusedVariables false
set_option linter.unusedSimpArgs false
namespace Go.Fm
inductive RV where
 |s (t:Nat)|c (t:Nat) (ty:TypeId)
def RV.var:RV→ResultVar
 |.s t=>.tmp t
 |.c t ty=>.cell t ty
def valC (P:Program) (s:St):RV→Option AV
 |.s t=>some (s.f t)
 | .c t ty => match s.f t with
   | .bp l j => match s.h l with
     |some (.box cs)=>cutA (tiOf P ty) cs j
     |_=>none
   |_=>none
def valsC (P:Program) (s:St):List RV→Option (List AV)
 |[]=>some []
 | v :: r => match valC P s v, valsC P s r with
   |some x,some xs=>some (x::xs)
   |_,_=>none
theorem valsC_get {P:Program} {s:St}:∀{rv:List RV} {xs:List AV},valsC P s rv=some xs→xs.length=rv.length∧∀(j:Nat) (v:RV) (x:AV),rv[j]?=some v→xs[j]?=some x→valC P s v=some x
 |[],xs,h=>by cases h;exact⟨rfl,fun j v x h=>by simp at h⟩
 | v :: r, xs, h => by
   unfold valsC at h
   split at h
   ·rename_i x xs' h1 h2
    cases h
    obtain⟨g1,g2⟩:=valsC_get h2
    refine⟨by simp[g1],fun j v' x' hv hx=> ?_⟩
    cases j with
    |zero=>simp at hv hx;subst hv;subst hx;exact h1
    |succ j=>exact g2 j v' x' (by simpa using hv) (by simpa using hx)
   ·cases h
def Stands (P:Program) (tmps:Array Value) (w:World):RV→Value→Prop
 |.s t,u=>u=tmps.getD t undef
 |.c t ty,u=>∃ad,tmps.getD t undef=.pointer (some ad)∧(loadVar ty ad).run P w=.ok u w
def endC (P:Program) (rv:List RV) (rs:List RC) (h':Heap) (m':Nat):Exit→St→Prop:=fun e s=>
 (e=.normal∨e=.ret)∧(∃(xs:List AV) (fl:List Bool),valsC P s rv=some xs∧fl.length=rv.length∧FinOk (xs.zip fl) s.h rs h')∧s.nxt=m'
section
variable {P:Program} {κ:Kap} {n:Nat} {a:Act} {w:World} {s:St} {φ:Inj} {S:Addr→Prop} {H H1:Heap}
theorem load_box (M:Mem κ φ S s.h s.nxt w) {l:Lab} {j b:Nat} {cs:List AV} {t:TypeId} {y:AV} (hl:s.h l=some (.box cs)) (hb:φ l=some b) (hcut:cutA (tiOf P t) cs j=some y):
  ∃v,(loadVar t ⟨b,j,none⟩).run P w=.ok v w∧RepA φ s.h w S y v:=by
 obtain⟨b',vs,ty,h1,h2,h3,h4,_,h5⟩:=M.objs l _ hl
 rw[hb]at h1
 cases h1
 obtain⟨g1,g2,g3,g4⟩:=cutA_rep hcut vs h3 h4 h5
 have hr:=run_loadAt_cells (P:=P) (w:=w) (t:=t) (ad:=⟨b,j,none⟩) (u:=fun k=>vs.getD (j+k) undef) rfl g2 g3 (fun k hk=>by
   rw[cell?_eq h2]
   simp[show j+k<vs.size by omega])
 have hr':(loadVar t ⟨b,j,none⟩).run P w=_:=hr
 refine⟨_,hr',?_⟩
 cases hi:(tiOf P t).isAgg with
 | true =>
   rw[hi]at g4
   simp only[if_true]at g4⊢
   have e:((List.range (tiOf P t).size).map fun k=>vs.getD (j+k) undef).toArray=vs.extract j (j+(tiOf P t).size):=by
    apply Array.ext
    ·simp;omega
    ·intro k h1 h2
     simp at h1⊢
     rw[Array.getElem?_eq_getElem (by omega)]
     rfl
   rw[e];exact g4
 | false =>
   rw[hi]at g4
   simpa using g4
theorem resultsC_run {fn:Func} {rv:List RV} (hres:fn.results=(rv.map RV.var).toArray) (tmps:Array Value) (vs:List Value) (hlen:vs.length=rv.length)
  (hv:∀(j:Nat) (v:RV) (u:Value),rv[j]?=some v→vs[j]?=some u→Stands P tmps w v u):
  (results fn tmps).run P w=.ok (resV vs) w:=by
 have key : ∀ (f : ResultVar → Sem Value) (_ : ∀ t, f (.tmp t) = pure (tmps.getD t undef)) (_ : ∀ t ty, f (.cell t ty) = (do loadVar ty (← asAddr (tmps.getD t undef)))) (l : List RV) (us : List Value), us.length = l.length →
   (∀(j:Nat) (v:RV) (u:Value),l[j]?=some v→us[j]?=some u→Stands P tmps w v u)→
   ((l.map RV.var).mapM f).run P w=.ok us w:=by
  intro f hf hg l
  induction l with
  |nil=>intro us h _;rw[List.length_eq_zero_iff.1 h];simp
  | cons x r ih =>
    intro us h h2
    match us,h with
    | u :: us, h =>
      have h0:=h2 0 x u rfl rfl
      have ih:=ih us (by simpa using h) fun j v u' hv hu=>h2 (j+1) v u' (by simpa using hv) (by simpa using hu)
      have hx:(f x.var).run P w=.ok u w:=by
       cases x with
       |s t=>simp only[RV.var,hf,Sem.run_pure];rw[show u=_ from h0]
       | c t ty =>
         obtain⟨ad,g1,g2⟩:=h0
         simp only[RV.var,hg,g1,asAddr,Sem.run_bind,Sem.run_pure,Result.andThen_ok,g2]
      simp at ih
      simp[hx,ih]
 unfold results
 rw[hres,List.mapM_toArray]
 simp only[map_eq_pure_bind,bind_assoc,pure_bind,Sem.run_bind]
 rw[key _ (fun t=>rfl) (fun t ty=>rfl) rv vs hlen hv]
 match vs with
 |[]=>rfl
 |[x]=>rfl
 |x::y::r=>simp[resV]
end
section
variable {P:Program} {g:FuncId} {fn:Func} {c:Code} {ts:List T} {h h':Heap} {m m':Nat} {rs:List RC}
theorem RetA.introC {as : List AV} (hf : P.funcs[g]? = some fn) (hb : fn.body = some c) {rv : List RV} (hres : fn.results = (rv.map RV.var).toArray) (hts : as.length ≤ fn.ntmps) (hok : okC fn.ntmps c = true) {sites : Sites}
  (hn':∀l,Lab.pool l=false→h' l=none) (hbox:Keeps h h')
  (hg:Goes ⟨P,fn.ntmps,sites⟩ (endC P rv rs h' m') [.code c] .normal ⟨ofL (argA 0 as),h,m⟩):RetA P g as h m rs h' m':=by
 refine⟨hn',hbox,fun φ0 S0 w0 vs hh M hlen hvs=> ?_⟩
 refine calls_of_wp hf hb ?_
 have hc:Conc ⟨w0,φ0,S0,h⟩ fn.ntmps ⟨ofL (argA 0 as),h,m⟩ {tmps:=vs.toArray++Array.replicate (fn.ntmps-vs.toArray.size) undef,defers:=[]} w0:=by
  refine⟨rfl,by simp;omega,φ0,S0,M,fun t=> ?_⟩
  show RepA φ0 h w0 S0 (ofL (argA 0 as) t) _
  rw[argA_get,if_pos (Nat.zero_le _),Nat.sub_zero]
  cases ht:as[t]? with
  |none=>exact .und _
  | some x =>
    have hlt:=(List.getElem?_eq_some_iff.1 ht).1
    have hv:vs[t]?=some (vs[t]'(by omega)):=List.getElem?_eq_getElem _
    have:((vs.toArray++Array.replicate (fn.ntmps-vs.toArray.size) undef).getD t undef)=vs[t]'(by omega):=by
     simp[Array.getElem?_append,hlt,hlen]
    rw[this]
    exact hvs t x _ ht hv
 refine wp_mono (hg (okK_code.2 ⟨hok,rfl⟩) _ _ _ hc) ?_
 rintro e a w ⟨s,⟨he,⟨xs,fl,hxs,hfl,ws,os,acc,h1,h2,h3⟩,hnx⟩,hd,hs,φ,S,M',hsl⟩
 obtain⟨hxl,hxg⟩:=valsC_get hxs
 -- the values
 have vals : ∃ us : List Value, us.length = rv.length ∧ (∀ (j : Nat) (v : RV) (u : Value), rv[j]? = some v → us[j]? = some u → Stands P a.tmps w v u) ∧
   ∀(j:Nat) (x:AV) (u:Value),xs[j]?=some x→us[j]?=some u→RepA φ s.h w S x u:=by
  have each : ∀ (v : RV) (x : AV), valC P s v = some x → ∃ u, Stands P a.tmps w v u ∧ RepA φ s.h w S x u := by
   intro v x hv
   cases v with
   | s t =>
     cases hv
     exact⟨_,rfl,hsl t⟩
   | c t ty =>
     unfold valC at hv
     simp only at hv
     split at hv
     ·rename_i l j hft
      split at hv
      ·rename_i cs hl
       have hr:=hsl t
       rw[hft]at hr
       obtain⟨b,cs',q1,q2,q3⟩:=repA_bp hr
       obtain⟨u,g1,g2⟩:=load_box (P:=P) M' hl q2 hv
       exact⟨u,⟨_,q3,g1⟩,g2⟩
      ·cases hv
     ·cases hv
  have all : ∀ (rv : List RV) (xs : List AV), xs.length = rv.length → (∀ (j : Nat) (v : RV) (x : AV), rv[j]? = some v → xs[j]? = some x → valC P s v = some x) → ∃ us : List Value, us.length = rv.length ∧ (∀ (j : Nat) (v : RV) (u : Value), rv[j]? = some v → us[j]? = some u → Stands P a.tmps w v u) ∧
    ∀(j:Nat) (x:AV) (u:Value),xs[j]?=some x→us[j]?=some u→RepA φ s.h w S x u:=by
   intro rv
   induction rv with
   |nil=>intro xs hl _;exact⟨[],rfl,fun j v u h=>by simp at h,fun j x u _ h=>by simp at h⟩
   | cons v r ih =>
     intro xs hl hg
     match xs,hl with
     | x :: xs, hl =>
       obtain⟨u,k1,k2⟩:=each v x (hg 0 v x rfl rfl)
       obtain⟨us,m1,m2,m3⟩:=ih xs (by simpa using hl) fun j v x hv hx=>hg (j+1) v x (by simpa using hv) (by simpa using hx)
       refine⟨u::us,by simp[m1],fun j v' u' hv hu=> ?_,fun j x' u' hx hu=> ?_⟩
       ·cases j with
        |zero=>simp at hv hu;subst hv;subst hu;exact k1
        |succ j=>exact m2 j v' u' (by simpa using hv) (by simpa using hu)
       ·cases j with
        |zero=>simp at hx hu;subst hx;subst hu;exact k2
        |succ j=>exact m3 j x' u' (by simpa using hx) (by simpa using hu)
  exact all rv xs hxl hxg
 obtain⟨us,u1,u2,u3⟩:=vals
 have hx:∀(j:Nat) (x:AV×Bool) (u:Value),(xs.zip fl)[j]?=some x→us[j]?=some u→RepA φ s.h w S x.1 u:=by
  intro j x u hj hu
  rw[List.getElem?_zip_eq_some]at hj
  exact u3 j x.1 u hj.1 hu
 obtain⟨φ',S',M2,q1,q2⟩:=fin_sim (κ:=⟨w0,φ0,S0,h⟩) M' (fun l hl=>M.dom l (hh l hl)) (us:=us) (by simp[hfl,hxl,u1]) hx h1 h2 h3 hn'
 rw[hnx]at M2
 have q1:rs.length=us.length:=by rw[q1];simp[hfl,hxl,u1]
 have hv:RepA φ' (resH h' rs) w S' (rsA rs) (resV us):=by
  have tup:RepA φ' (resH h' rs) w S' (.tup (rsAs 0 rs)) (.tuple us.toArray):=by
   refine .tup _ _ (by simp[rsAs_length,q1]) fun j x v hj hv=> ?_
   rw[rsAs_get,Option.map_eq_some_iff]at hj
   obtain⟨r,hr,rfl⟩:=hj
   rw[Nat.zero_add]
   exact q2 j r v hr (by simpa using hv)
  match rs,us,q1,q2,tup with
  |[],[],_,_,tup=>exact tup
  |[r],[t],_,q2,_=>exact q2 0 r _ rfl rfl
  |r::r'::rs',t::t'::rt',_,_,tup=>exact tup
 have main:bodyPost P fn (fun e w'=>∃v φ' S',e=.returned v∧Mem ⟨w0,φ0,S0,h⟩ φ' S' (resH h' rs) m' w'∧RepA φ' (resH h' rs) w' S' (rsA rs) v) .normal a w:=
  ⟨hd,_,resultsC_run hres a.tmps us u1 u2,_,φ',S',rfl,M2,hv⟩
 rcases he with rfl|rfl
 ·exact main
 ·exact main
theorem Ret.introC (hf:P.funcs[g]?=some fn) (hb:fn.body=some c) {rv:List RV} (hres:fn.results=(rv.map RV.var).toArray) (hts:ts.length≤fn.ntmps) (hok:okC fn.ntmps c=true) {sites:Sites}
  (hn':∀l,Lab.pool l=false→h' l=none) (hbox:Keeps h h')
  (hg:Goes ⟨P,fn.ntmps,sites⟩ (endC P rv rs h' m') [.code c] .normal ⟨ofL (argL 0 ts),h,m⟩):Ret P g ts h m rs h' m':=
 RetA.introC hf hb hres (by simpa using hts) hok hn' hbox (by rw[argA_map];exact hg)
theorem Pure.introC (hf:P.funcs[g]?=some fn) (hb:fn.body=some c) {rv:List RV} (hres:fn.results=(rv.map RV.var).toArray) (hts:ts.length≤fn.ntmps) (hok:okC fn.ntmps c=true) {sites:Sites}
  (hg:Goes ⟨P,fn.ntmps,sites⟩ (endC P rv rs (fun _=>none) 0) [.code c] .normal ⟨ofL (argL 0 ts),fun _=>none,0⟩):Pure P g ts rs:=
 Ret.introC hf hb hres hts hok (fun _ _=>rfl) (Keeps.none _) hg
theorem endC.one {rv:RV} {y:AV} {t:T} {ws:List (Lab×Obj)} {acc:List Lab} {e:Exit} {s:St} (he:e=.normal∨e=.ret) (hv:valC P s rv=some y) (hr:(reify y).run s.h=some ((t,ws),acc))
  (hh:∀l,Lab.pool l=true→h' l=writes s.h ws l) (hn:s.nxt=m'):endC P [rv] [.t t] h' m' e s:=by
 refine⟨he,⟨[y],[false],by simp[valsC,hv],rfl,ws,[none],acc,?_,rfl,hh⟩,hn⟩
 have:([y]:List AV).zip [false]=[(y,false)]:=rfl
 rw[this]
 obtain⟨k,hk⟩:∃k,reify y=k:=⟨_,rfl⟩
 have gen:∀(k:Rd (T×List (Lab×Obj))) (acc:List Lab) (H:Heap),k.run H=some ((t,ws),acc)→((k.bind fun r=>Rd.ret (RC.t r.1,r.2,(none:Option Lab))).bind fun y=>(Rd.ret (([],[],[]):List RC×List (Lab×Obj)×List (Option Lab))).bind fun z=>Rd.ret (y.1::z.1,y.2.1++z.2.1,y.2.2::z.2.2)).run H=some (([.t t],ws,[none]),acc):=by
  intro k
  induction k with
  |ret a=>intro acc H h;simp only[Rd.run,Option.some.injEq,Prod.mk.injEq]at h;obtain⟨rfl,rfl⟩:=h;simp[Rd.bind,Rd.run]
  |fail=>intro acc H h;simp[Rd.run]at h
  | ask l k ih =>
    intro acc H h
    obtain⟨acc',h1,rfl⟩:=Rd.run_ask_some h
    have:=ih (H l) acc' H h1
    simp only[Rd.bind,Rd.run]
    simp only[Rd.bind]at this
    rw[this];rfl
 exact gen _ _ _ hr
end
theorem Pure.J {P:Program} {g:FuncId} {fn:Func} {c:Code} {ts:List T} {rs:List RC} (hf:P.funcs[g]?=some fn) (rv:List RV) (hg:run ⟨P,fn.ntmps,fun _=>false⟩ (endC P rv rs (fun _=>none) 0) 200 [.code c] .normal ⟨ofL (argL 0 ts),fun _=>none,0⟩)
 (hb:fn.body=some c:=by rfl) (hres:fn.results=(rv.map RV.var).toArray:=by rfl) (hts:ts.length≤fn.ntmps:=by exact Nat.le_of_ble_eq_true rfl) (hok:okC fn.ntmps c=true:=by decide):Pure P g ts rs:=Pure.introC hf hb hres hts hok (run_sound 200 _ _ _ hg)
theorem Ret.iC {P:Program} {g:FuncId} {fn:Func} {c:Code} {ts:List T} {h h':Heap} {m m':Nat} {rs:List RC} (hf:P.funcs[g]?=some fn) (rv:List RV) (hg:run ⟨P,fn.ntmps,fun _=>false⟩ (endC P rv rs h' m') 200 [.code c] .normal ⟨ofL (argL 0 ts),h,m⟩)
 (hc:fn.body=some c:=by rfl) (hres:fn.results=(rv.map RV.var).toArray:=by rfl) (hts:ts.length≤fn.ntmps:=by exact Nat.le_of_ble_eq_true rfl) (hok:okC fn.ntmps c=true:=by decide) (hn:∀l,Lab.pool l=false→h' l=none:=by first|exact hb|exact upd_hb hb) (hk:Keeps h h':=by first|exact Keeps.refl _|exact bank_keeps):Ret P g ts h m rs h' m':=Ret.introC hf hc hres hts hok hn hk (run_sound 200 _ _ _ hg)
theorem Ret.iF {P:Program} {g:FuncId} {fn:Func} {c:Code} {ts:List T} {h h':Heap} {m m':Nat} {rs:List RC} (hf:P.funcs[g]?=some fn) (rt:List Nat) (hg:run ⟨P,fn.ntmps,fun _=>false⟩ (endF rt rs h' m') 200 [.code c] .normal ⟨ofL (argL 0 ts),h,m⟩)
 (hc:fn.body=some c:=by rfl) (hres:fn.results=(rt.map ResultVar.tmp).toArray:=by rfl) (hts:ts.length≤fn.ntmps:=by exact Nat.le_of_ble_eq_true rfl) (hok:okC fn.ntmps c=true:=by decide) (hn:∀l,Lab.pool l=false→h' l=none:=by first|exact hb|exact upd_hb hb) (hk:Keeps h h':=by first|exact Keeps.refl _|exact bank_keeps):Ret P g ts h m rs h' m':=Ret.intro hf hc hres hts hok hn hk (run_sound 200 _ _ _ hg)
theorem endC.O {P:Program} {rv:RV} {y:AV} {t:T} {h':Heap} {m':Nat} {e:Exit} {s:St} (hv:valC P s rv=some y:=by first|(simp-implicitDefEqProofs+decide only[go_sem,valC,hl,sW];done)|(simp-implicitDefEqProofs+decide only[go_sem,valC,hl,sW];rfl)|(simp-implicitDefEqProofs+decide only[go_sem,valC,hloc,sW];done)|(simp-implicitDefEqProofs+decide only[go_sem,valC,hloc,sW];rfl)|(simp-implicitDefEqProofs+decide only[go_sem,valC,sW];done)|(simp-implicitDefEqProofs+decide only[go_sem,valC,sW];rfl))
 (hr:reify y=.ret (t,[]):=by first|rfl|(simp-implicitDefEqProofs+decide only[go_sem,hl,sW];done)|(simp-implicitDefEqProofs+decide only[go_sem,hl,sW];rfl)|(simp-implicitDefEqProofs+decide only[go_sem,hloc,sW];done)|(simp-implicitDefEqProofs+decide only[go_sem,hloc,sW];rfl)|(simp-implicitDefEqProofs+decide only[go_sem,sW];done)|(simp-implicitDefEqProofs+decide only[go_sem,sW];rfl)) (he:e=.normal∨e=.ret:=by exact .inr rfl) (hh:∀l,Lab.pool l=true→h' l=s.h l:=by rintro (_|_|_|_|_) hp<;>first|(cases hp;done)|(simp-implicitDefEqProofs+decide only[go_sem,hloc];done)|(simp-implicitDefEqProofs+decide only[go_sem,hl];done)|(simp-implicitDefEqProofs+decide only[go_sem];done)) (hn:s.nxt=m':=by rfl):endC P [rv] [.t t] h' m' e s:=
 endC.one (ws:=[]) (acc:=[]) he hv (by rw[hr];rfl) hh hn
theorem endC.Q {P:Program} {rv:RV} {y:AV} {t:T} {ws:List (Lab×Obj)} {acc:List Lab} {h':Heap} {m':Nat} {e:Exit} {s:St} (hv:valC P s rv=some y:=by first|rfl|(simp-implicitDefEqProofs+decide only[go_sem,valC,sW];done)|(simp-implicitDefEqProofs+decide only[go_sem,valC,sW];rfl)|(simp-implicitDefEqProofs+decide only[go_sem,valC,hl,sW];done)|(simp-implicitDefEqProofs+decide only[go_sem,valC,hl,sW];rfl))
 (hr:(reify y).run s.h=some ((t,ws),acc):=by first|rfl|(simp-implicitDefEqProofs+decide only[go_sem,sW];done)|(simp-implicitDefEqProofs+decide only[go_sem,sW];rfl)|(simp-implicitDefEqProofs+decide only[go_sem,hl,sW];done)|(simp-implicitDefEqProofs+decide only[go_sem,hl,sW];rfl)) (he:e=.normal∨e=.ret:=by exact .inr rfl) (hh:∀l,Lab.pool l=true→h' l=writes s.h ws l:=by exact fun l hp=>by cases l<;>first|rfl|cases hp) (hn:s.nxt=m':=by rfl):endC P [rv] [.t t] h' m' e s:=endC.one he hv hr hh hn
theorem endF.row1 {t:Nat} {lab:Lab} {v len size frz:Nat} {es:List T} {h':Heap} {m':Nat} {e:Exit} {s:St} (he:e=.normal∨e=.ret)
  (hy:s.f t=.sl lab v 0 len) (hl:s.h lab=some (.arr size es v frz)) (hlen:len=es.length)
  (hh:∀l,Lab.pool l=true→h' l=upd s.h lab (some (.arr size es v es.length)) l) (hn:s.nxt=m'):endF [t] [.t (.slice es)] h' m' e s:=by
 refine endF.mk (ws:=[(lab,.arr size es v es.length)]) (os:=[none]) (acc:=[lab]) [false] he rfl ?_ rfl hh hn
 have:finL (([t].map s.f).zip [false])=finL [(.sl lab v 0 len,false)]:=by rw[List.map_cons,hy];rfl
 rw[this]
 have h2:es.take len=es:=List.take_of_length_le (by omega)
 simp[finL,fin1,Rd.bind]
 simp[reify,reify1,Rd.bind,Rd.run,hl,h2]
theorem endF.row2 {t u:Nat} {la lb:Lab} {va vb na nb sa sb fa fb:Nat} {ea eb:List T} {h':Heap} {m':Nat} {e:Exit} {s:St} (he:e=.normal∨e=.ret)
  (hx:s.f t=.sl la va 0 na) (hla:s.h la=some (.arr sa ea va fa)) (hna:na=ea.length) (hp:Lab.pool la=false)
  (hy:s.f u=.sl lb vb 0 nb) (hlb:s.h lb=some (.arr sb eb vb fb)) (hnb:nb=eb.length) (hp2:Lab.pool lb=false)
  (hh:∀l,Lab.pool l=true→h' l=s.h l) (hn:s.nxt=m'):endF [t,u] [.t (.slice ea),.t (.slice eb)] h' m' e s:=by
 refine endF.mk (ws:=[(la,.arr sa ea va ea.length),(lb,.arr sb eb vb eb.length)]) (os:=[none,none]) (acc:=[la,lb]) [false,false] he rfl ?_ rfl (fun l hl=> ?_) hn
 ·have:finL (([t,u].map s.f).zip [false,false])=finL [(.sl la va 0 na,false),(.sl lb vb 0 nb,false)]:=by rw[List.map_cons,List.map_cons,hx,hy];rfl
  rw[this]
  have h1:ea.take na=ea:=List.take_of_length_le (by omega)
  have h2:eb.take nb=eb:=List.take_of_length_le (by omega)
  simp[finL,fin1,Rd.bind]
  simp[reify,reify1,Rd.bind,Rd.run,hla,hlb,h1,h2]
 ·show _=upd (upd s.h la _) lb _ l
  rw[upd_ne _ _ _ _ (fun e=>by subst e;rw[hp2]at hl;cases hl),upd_ne _ _ _ _ (fun e=>by subst e;rw[hp]at hl;cases hl)]
  exact hh l hl
section
variable {E:Env} {F:Exit→St→Prop} {pm:Bool} {all:Array Oper} {o:Oper} {gT:List Nat} {r:List Oper} {fs:List Foot} {g:FuncId} {xs:List AV} {ts:List T} {ws:List (Lab×Obj)} {acc:List Lab} {s:St} {k:List Kont}
theorem CallD.pool (rs:List RC) {h h':Heap} (W:List (Lab×Obj)) (he:Entry E.P g) (hP:Ret E.P g ts h s.nxt rs h' s.nxt) (hw:ws=[]) (hb:∀l,Lab.pool l=false→h l=none) (hh:∀l,Lab.pool l=true→s.h l=h l)
  (hW:∀l,Lab.pool l=true→h' l=writes h W l) (hWp:(W.all fun q=>Lab.pool q.1)=true)
  (hr:runD E F pm all k r (fs++[⟨o.dst,gT++tmpsOf o,acc++[],W.map (·.1),true,calmD {v:=retVal none rs,w:=W}⟩]) (s.app o.dst {v:=retVal none rs,w:=W})):CallD E F pm all o gT r fs g xs ts ws acc s k:=
 ⟨{v:=retVal none rs,w:=W},[],true,he,TakesD.pool rs _ h' W (by rw[poolH_eq hb hh];exact hP) hw (fun l hl=>by rw[hW l hl,writes_wr,writes_wr,hh l hl]) (fun q hq=>List.all_eq_true.1 hWp q hq) rfl,runD_sound _ _ _ hr⟩
theorem CallD.make (rs:List RC) {h h':Heap} (W:List (Lab×Obj)) (d:Nat) (he:Entry E.P g) (hP:Ret E.P g ts h s.nxt rs h' (s.nxt+d)) (hws:(ws.all fun q=> !q.1.pool&&(match q.2 with|.arr ..=>true|_=>false))=true) (hb:∀l,Lab.pool l=false→h l=none) (hh:∀l,Lab.pool l=true→s.h l=h l)
  (hW:∀l,Lab.pool l=true→h' l=writes h W l) (hWp:(W.all fun q=>Lab.pool q.1)=true) (hne:W≠[]∨d=0)
  (hr:runD E F pm all k r (fs++[⟨o.dst,gT++tmpsOf o,acc++[],(ws++W).map (·.1),true,calmD {v:=retVal none rs,w:=ws++W,nx:=d}⟩]) (s.app o.dst {v:=retVal none rs,w:=ws++W,nx:=d})):CallD E F pm all o gT r fs g xs ts ws acc s k:=
 ⟨{v:=retVal none rs,w:=ws++W,nx:=d},[],true,he,TakesD.make rs _ h' W (s.nxt+d) (by rw[poolH_eq hb hh];exact hP) (Nat.le_add_right _ _) hws (fun l hl=>by rw[hW l hl,writes_wr,writes_wr,hh l hl]) (fun q hq=>List.all_eq_true.1 hWp q hq) (hne.imp id fun h=>by omega) (by rw[Nat.add_sub_cancel_left]),runD_sound _ _ _ hr⟩
end
theorem Wk.boxes {n:Nat} {s:St} {base:Heap} {m:Nat} (l:List (Nat×AV)) (hl:List (Lab×Obj)) (hb:∀lab,Lab.pool lab=false→base lab=none) (hn:s.nxt=m)
  (hloc:(hl.all fun p=> !p.1.pool&&(match p.2 with|.box cs=>refsInL (hl.map (·.1)) cs|_=>true))=true)
  (h2:∀p∈hl,s.h p.1=some p.2) (h3:∀lab,Lab.pool lab=true→s.h lab=base lab) (h1:∀p∈l,s.f p.1=p.2) (h4:∀p∈l,refsIn (hl.map (·.1)) p.2=true):Wk n s ⟨ofL l,ofH base hl,m⟩:=by
 subst hn
 have hloc:∀p∈hl,Lab.pool p.1=false∧(match p.2 with|.box cs=>refsInL (hl.map (·.1)) cs|_=>true)=true:=fun p hp=>by
  have:=List.all_eq_true.1 hloc p hp
  simpa using this
 refine Wk.mk l hl hb h1 h2 (fun lab hp=> ?_) h4 (fun p hp _ cs hc=> ?_)
 ·have:lab∉hl.map (·.1):=fun hm=>by
   obtain⟨p,hp',rfl⟩:=List.mem_map.1 hm
   rw[(hloc p hp').1]at hp;cases hp
  rw[ofH_out this,h3 lab hp]
 ·have:=(hloc p hp).2
  rw[hc]at this
  exact(refsInL_iff _ _).1 this
theorem CallD.M {E:Env} {F:Exit→St→Prop} {pm:Bool} {all:Array Oper} {o:Oper} {gT:List Nat} {r:List Oper} {fs:List Foot} {g:FuncId} {xs:List AV} {ts:List T} {ws:List (Lab×Obj)} {acc:List Lab} {s:St} {k:List Kont} (rs:List RC) {h h':Heap} (W:List (Lab×Obj)) (he:Entry E.P g) (hP:Ret E.P g ts h s.nxt rs h' (s.nxt+0))
 (hr:runD E F pm all k r (fs++[⟨o.dst,gT++tmpsOf o,acc++[],(ws++W).map (·.1),true,calmD {v:=retVal none rs,w:=ws++W,nx:=0}⟩]) (s.app o.dst {v:=retVal none rs,w:=ws++W,nx:=0}))
 (hws:(ws.all fun q=> !q.1.pool&&(match q.2 with|.arr ..=>true|_=>false))=true:=by rfl) (hb:∀l,Lab.pool l=false→h l=none:=by first|exact hb|exact upd_hb hb|assumption) (hh:∀l,Lab.pool l=true→s.h l=h l:=by rintro (_|_|_|_|_) hp<;>first|(cases hp;done)|(simp-implicitDefEqProofs+decide only[go_sem,hloc];done)|(simp-implicitDefEqProofs+decide only[go_sem,hl];done)|(simp-implicitDefEqProofs+decide only[go_sem];done)) (hW:∀l,Lab.pool l=true→h' l=writes h W l:=by first|exact fun l _=>rfl|exact fun l _=>(congrFun (upd_upd _ _ _ _) l).symm) (hWp:(W.all fun q=>Lab.pool q.1)=true:=by rfl):CallD E F pm all o gT r fs g xs ts ws acc s k:=CallD.make rs W 0 he hP hws hb hh hW hWp (.inr rfl) hr
theorem Wk.nilCell {n:Nat} {s:St} {l0 lab:Lab} {j size:Nat} {cs:List AV} (hd:s.h l0=some (.box cs)) (hj:cs[j]?=some .nil) (hl:s.h lab=none) (hp0:Lab.pool l0=false) (hp:Lab.pool lab=false) (hsz:size≠0):
  Wk n s ⟨s.f,upd (upd s.h l0 (some (.box (cs.set j (.sl lab 0 0 0))))) lab (some (.arr size [] 0 0)),s.nxt⟩:=by
 rintro κ a w ⟨hdf,hs,φ,S,M,hsl⟩
 have hφ:=M.dom lab hl
 have hne:l0≠lab:=fun e=>by rw[e,hl]at hd;cases hd
 have get:∀l',upd (upd s.h l0 (some (.box (cs.set j (.sl lab 0 0 0))))) lab (some (.arr size [] 0 0)) l'=if l'=lab then some (.arr size [] 0 0) else if l'=l0 then some (.box (cs.set j (.sl lab 0 0 0))) else s.h l':=fun l'=>rfl
 generalize hH:upd (upd s.h l0 (some (.box (cs.set j (.sl lab 0 0 0))))) lab (some (.arr size [] 0 0))=H at get⊢
 have hlab:H lab=some (.arr size [] 0 0):=by rw[get,if_pos rfl]
 have hl0:H l0=some (.box (cs.set j (.sl lab 0 0 0))):=by rw[get,if_neg hne,if_pos rfl]
 have hoth:∀l',l'≠lab→l'≠l0→H l'=s.h l':=fun l' h1 h2=>by rw[get,if_neg h1,if_neg h2]
 have hstep:∀l' o,s.h l'=some o→∃o',H l'=some o'∧LStep φ φ w w l' o o':=by
  intro l' o ho
  by_cases e:l'=lab
  ·subst e;rw[hl]at ho;cases ho
  ·by_cases e2:l'=l0
   ·subst e2;rw[hd]at ho;cases ho;exact⟨_,hl0,rfl⟩
   ·exact⟨o,by rw[hoth _ e e2];exact ho,LStep.refl o fun b cs ty fr _ h=>⟨cs,ty,fr,h,Nat.le_refl _⟩⟩
 have av:∀y v,RepA φ s.h w S y v→RepA φ H w S y v:=fun y v h=>h.mono (fun _ _ h=>h) (fun _ h=>h) (fun _ _ _ h=>h) hstep
 refine⟨hdf,hs,φ,S,?_,fun t=>av _ _ (hsl t)⟩
 refine{M with fldk:=M.fldk.step hstep,dom:=fun l' h=> ?_,objs:=fun l' o ho=> ?_,stab:= ?_,nx:=fun id hid=> ?_}
 ·by_cases e:l'=lab
  ·subst e;exact hφ
  ·have h:H l'=none:=h
   by_cases e2:l'=l0
   ·subst e2;rw[hl0]at h;cases h
   ·rw[hoth _ e e2]at h;exact M.dom l' h
 ·have ho:H l'=some o:=ho
  by_cases e:l'=lab
  ·subst e
   rw[hlab]at ho;cases ho
   exact⟨hsz,fun _ h=>(by cases h),fun _ h=>(by cases h),Nat.le_refl _,fun _=>rfl,fun b h=>by rw[hφ]at h;cases h⟩
  ·by_cases e2:l'=l0
   ·subst e2
    rw[hl0]at ho;cases ho
    obtain⟨b,vs,ty,g1,g2,g3,g4,g5,g6⟩:=M.objs l' _ hd
    refine⟨b,vs,ty,g1,g2,by simpa using g3,g4,fun hpp=>(by rw[hp0]at hpp;cases hpp),fun i c v hi hv=> ?_⟩
    by_cases ei:i=j
    ·subst ei
     have hlt:=(List.getElem?_eq_some_iff.1 hj).1
     rw[List.getElem?_set_self hlt]at hi
     cases hi
     have h0:=g6 i .nil v hj hv
     cases h0
     refine .sl lab 0 0 0 _ (.arr size [] 0 0) hlab trivial fun size' es' v' frz' e=> ?_
     cases e
     exact⟨Nat.le_refl _,fun _=>⟨Nat.le_refl _,none,0,rfl,Nat.le_refl _,fun _=>⟨rfl,rfl⟩,fun b h=>by rw[hφ]at h;cases h⟩⟩
    ·rw[List.getElem?_set_ne (Ne.symm ei)]at hi
     exact av _ _ (g6 i c v hi hv)
   ·rw[hoth _ e e2]at ho
    exact(M.objs l' o ho).mono (fun _ _ h=>h) (fun _ h=>h) (fun _ _ _ h=>h) hstep rfl fun _ _=>rfl
 ·rintro ad h ⟨l',o,h1,h2,h3⟩
  have h1:H l'=some o:=h1
  by_cases e:l'=lab
  ·subst e;rw[hφ]at h2;cases h2
  ·by_cases e2:l'=l0
   ·subst e2
    rw[hl0]at h1;cases h1
    exact M.stab ad h ⟨l',_,hd,h2,trivial⟩
   ·rw[hoth _ e e2]at h1;exact M.stab ad h ⟨l',o,h1,h2,h3⟩
 ·show H (.obj id)=none
  rw[hoth _ (fun e=>by rw[←e]at hp;cases hp) (fun e=>by rw[←e]at hp0;cases hp0)];exact M.nx id hid
end Go.Fm
