/- What laws on operands use besides. -/
import Derived.Test.YteodjhhobkcnjaaGreatLyA
import Derived.Test.YteodjhhobkcnjaaGreatMyA
set_option linter.unusedVariables false
set_option linter.unusedSimpArgs false
namespace Go.Fm
open Go.Proofs
set_option maxRecDepth 100000
attribute [local irreducible] tiOf

theorem qR_nat (n:Nat):qR (n:Rat)=⟨false,wordsOf n,[1]⟩:=by
 have h:¬(n:Rat).num<0:=by rw[Rat.num_natCast];omega
 unfold qR
 rw[decide_eq_false h,Rat.num_natCast,Rat.den_natCast,words_one,Int.natAbs_natCast]
theorem lowQ_nat (n:Nat):lowQ false n 1=qR (n:Rat):=by
 rw[qR_nat]
 unfold lowQ
 rw[Nat.gcd_one_right,Nat.div_one,Nat.div_one,words_one];rfl
theorem rVal_ok (n:Nat) (h:n<18446744073709551616):Pure Tryz.prog 105 [.bool false,sW [n],sW [1]] [.t (qR (n:Rat)).T]:=by
 have hw:WOK [n]:=fun y hy=>by rw[List.mem_singleton.1 hy];exact h
 have c:=rMake_ok false [n] [1] hw WOK_one (by simp) (by simp) (by decide) (by rw[nv_one,tz_odd rfl];decide)
 have e:nv [n]=n:=by simp[nv]
 rw[e,nv_one,lowQ_nat]at c
 exact c
theorem QB_nat (n:Nat) (h:n<18446744073709551616):QB (n:Rat) 1:=by
 refine⟨?_,?_⟩
 ·show(wordsOf (n:Rat).num.natAbs).length≤1
  rw[Rat.num_natCast]
  exact len_wordsOf (by simpa using h)
 ·show(wordsOf (n:Rat).den).length≤1
  rw[Rat.den_natCast,words_one];exact Nat.le_refl _
attribute [go_sem] noPtr_sV
theorem short_of {l:List Ag} (h:argsB l=false):l.length≤6∧∀a∈l,a.d.length≤20∧a.v.length≤100∧wideB 9 a.v=false:=by
 unfold argsB at h
 rw[Bool.or_eq_false_iff,List.any_eq_false]at h
 refine⟨by have:=of_decide_eq_false h.2;omega,fun a ha=> ?_⟩
 have:=h.1 a ha
 unfold agB at this
 simp only[Bool.or_eq_true,decide_eq_true_eq,not_or]at this
 exact⟨by omega,by omega,by simpa using this.2⟩
theorem argsSOK {l:List Ag} (hw:∀a∈l,∀s∈a.v,WOK s.x.p∧WOK s.x.q):argsB l=false→∀a∈l,∀s∈a.v,SOK s 1000:=fun h a ha s hs=>by
 have:=wide_SOK ((short_of h).2 a ha).2.2 (hw a ha) s hs
 exact⟨this.p,this.q,by have:=this.lp;omega,by have:=this.lq;omega⟩
theorem noPtrL_Sc (l:List Sc):noPtrL (l.map Sc.T)=true:=by have:=noPtr_sS l;simpa only[sS,noPtr] using this
end Go.Fm
/- Copies; whether scalars are not too long; dims that can be spread. -/
namespace Go.Fm
open Go.Proofs
set_option maxRecDepth 100000
attribute [local irreducible] tiOf

theorem copied_ok (x:Rt) (hp:x.p.length<1000000000) (hq:x.q.length<1000000000):Pure Tryz.prog 122 [x.T] [.t x.T]:=by
 obtain⟨n,p,q⟩:=x
 dsimp only at hp hq
 have b1:p.length<big:=by unfold big;omega
 have b2:q.length<big:=by unfold big;omega
 have t1:List.take p.length (p.map U)=p.map U:=List.take_of_length_le (by simp)
 have t2:List.take q.length (q.map U)=q.map U:=List.take_of_length_le (by simp)
 refine Pure.J Tryz.func122 [.c 2 _] ?_
 simp-implicitDefEqProofs+decide only[go_sem,Rt.T,rT,sW]
 refine Goes.drawN mixed ?_
 simp-implicitDefEqProofs+decide only[go_sem,b1,b2,t1,t2,List.length_map,Nat.zero_add,List.nil_append]
 refine⟨.mk (by kernel_rfl),?_⟩
 apply run_sound 200
 refine Sm ?_
 exact endC.one (.inr rfl) (by first|rfl|(simp-implicitDefEqProofs+decide only[go_sem,valC,Rt.T,rT,sW,t1,t2];done)|(simp-implicitDefEqProofs+decide only[go_sem,valC,Rt.T,rT,sW,t1,t2];rfl)) (by first|rfl|(simp-implicitDefEqProofs+decide only[go_sem,Rt.T,rT,sW,t1,t2];done)|(simp-implicitDefEqProofs+decide only[go_sem,Rt.T,rT,sW,t1,t2];rfl)) (fun l hp=>by cases l<;>first|rfl|cases hp) rfl
theorem copy_ok (s:Sc) (h:ScB 1000000000 s):Pure Tryz.prog 67 [s.T] [.t s.T]:=by
 have c:=copied_ok s.x h.1 h.2
 obtain⟨⟨n,p,q⟩,b,f⟩:=s
 simp only[Rt.T,rT,sW]at c
 refine Pure.J Tryz.func67 [.c 2 _] ?_
 simp-implicitDefEqProofs+decide only[go_sem,Sc.T_eq,sW]
 refine Goes.drawN mixed ?_
 refine Sm ?_
 refine CallD.PS _ Tryz.call122 c ?_
 refine Sm ?_
 refine⟨.mk (by kernel_rfl),?_⟩
 apply run_sound 200
 refine Sm ?_
 exact endC.one (.inr rfl) (by first|rfl|(simp-implicitDefEqProofs+decide only[go_sem,valC,Sc.T_eq,sW];done)|(simp-implicitDefEqProofs+decide only[go_sem,valC,Sc.T_eq,sW];rfl)) (by first|rfl|(simp-implicitDefEqProofs+decide only[go_sem,Sc.T_eq,sW];done)|(simp-implicitDefEqProofs+decide only[go_sem,Sc.T_eq,sW];rfl)) (fun l hp=>by cases l<;>first|rfl|cases hp) rfl
def bitsR (r:Rat):Nat:=max (bitLen r.num.natAbs) (bitLen r.den)
end Go.Fm
/- Which element is spread to a place. -/
namespace Go.Fm
open Go.Proofs
set_option maxRecDepth 100000
attribute [local irreducible] tiOf

def zerosL (f D:List Int) (o k:Nat):List Int:=(List.range D.length).map fun j=>if o≤j∧j-o<k∧f.getD (j-o) 0=1 then 0 else D.getD j 0
end Go.Fm
/- Writes: what is wrong with one. -/
namespace Go.Fm
open Go.Proofs
set_option maxRecDepth 100000
attribute [local irreducible] tiOf

structure Atr where
 n:Int
 a:Int
 b:Int
 c:Int
 p:Int
 q:Int
 r:Int
 s:Int
 keep:Bool
 list:List Int
def Atr.T (x:Atr):T:=.agg [I x.n,I x.a,I x.b,I x.c,I x.p,I x.q,I x.r,I x.s,.bool x.keep,sI x.list]

noncomputable def wchk (to frm:Ag):Int:=if chk to.d≠0 then chk to.d else if (to.v.length:Int)≠cnt to.d then 1 else if chk frm.d≠0 then chk frm.d else if (frm.v.length:Int)≠cnt frm.d then 1 else if twoS frm.d to.d≠(to.d,0) then 8 else 0
end Go.Fm
/- Groups of places: the plain law. -/
namespace Go.Fm
open Go.Proofs
set_option maxRecDepth 100000
attribute [local irreducible] tiOf

theorem lex_lt {p q m x y:Int} (hx:0≤x∧x<m) (hy:0≤y∧y<m):p*m+x<q*m+y↔p<q∨(p=q∧x<y):=by
 rcases Int.lt_trichotomy p q with h|h|h
 ·have:=Int.mul_le_mul_of_nonneg_right (show p+1≤q by omega) (show 0≤m by omega)
  rw[Int.add_mul,Int.one_mul]at this
  omega
 ·subst h;omega
 ·have:=Int.mul_le_mul_of_nonneg_right (show q+1≤p by omega) (show 0≤m by omega)
  rw[Int.add_mul,Int.one_mul]at this
  omega
theorem place_rel {d e a b a' b':List Int} (h1:InD d a) (h2:InD d b) (h3:InD e a') (h4:InD e b') (hl:d.length=e.length)
  (h:∀(i:Nat) (x y x' y':Int),a[i]?=some x→b[i]?=some y→a'[i]?=some x'→b'[i]?=some y'→(x<y↔x'<y')∧(y<x↔y'<x')):
  ∀i,i≤d.length→(placeI (d.take i) (a.take i)<placeI (d.take i) (b.take i)↔placeI (e.take i) (a'.take i)<placeI (e.take i) (b'.take i))∧
   (placeI (d.take i) (b.take i)<placeI (d.take i) (a.take i)↔placeI (e.take i) (b'.take i)<placeI (e.take i) (a'.take i))
 |0,_=>by simp[placeI]
 | i + 1, hi => by
   have ih:=place_rel h1 h2 h3 h4 hl h i (by omega)
   obtain⟨m,hm⟩:=getI (show i<d.length by omega)
   obtain⟨m',hm'⟩:=getI (show i<e.length by omega)
   obtain⟨x,hx⟩:=getI (show i<a.length by have:=h1.l;omega)
   obtain⟨y,hy⟩:=getI (show i<b.length by have:=h2.l;omega)
   obtain⟨x',hx'⟩:=getI (show i<a'.length by have:=h3.l;omega)
   obtain⟨y',hy'⟩:=getI (show i<b'.length by have:=h4.l;omega)
   have g:=h i x y x' y' hx hy hx' hy'
   have b1:=h1.b i x m hx hm
   have b2:=h2.b i y m hy hm
   have b3:=h3.b i x' m' hx' hm'
   have b4:=h4.b i y' m' hy' hm'
   rw[placeI_snoc hm hx,placeI_snoc hm hy,placeI_snoc hm' hx',placeI_snoc hm' hy',lex_lt b1 b2,lex_lt b3 b4,lex_lt b2 b1,lex_lt b4 b3]
   omega
theorem place_inj' {d a b:List Int} (h1:InD d a) (h2:InD d b):∀i,i≤d.length→placeI (d.take i) (a.take i)=placeI (d.take i) (b.take i)→a.take i=b.take i
 |0,_,_=>by simp
 | i + 1, hi, h => by
   obtain⟨m,hm⟩:=getI (show i<d.length by omega)
   obtain⟨x,hx⟩:=getI (show i<a.length by have:=h1.l;omega)
   obtain⟨y,hy⟩:=getI (show i<b.length by have:=h2.l;omega)
   have b1:=h1.b i x m hx hm
   have b2:=h2.b i y m hy hm
   rw[placeI_snoc hm hx,placeI_snoc hm hy]at h
   have g1:=(lex_lt (p:=placeI (d.take i) (a.take i)) (q:=placeI (d.take i) (b.take i)) b1 b2)
   have g2:=(lex_lt (p:=placeI (d.take i) (b.take i)) (q:=placeI (d.take i) (a.take i)) b2 b1)
   have e:placeI (d.take i) (a.take i)=placeI (d.take i) (b.take i):=by omega
   have exy:x=y:=by omega
   rw[List.take_add_one,List.take_add_one,hx,hy,place_inj' h1 h2 i (by omega) e,exy]
theorem place_inj {d a b:List Int} (h1:InD d a) (h2:InD d b) (h:placeI d a=placeI d b):a=b:=by
 have:=place_inj' h1 h2 d.length (Nat.le_refl _) (by rw[placeI_take h1.l,placeI_take h2.l];exact h)
 rwa [List.take_of_length_le (by rw[h1.l];exact Nat.le_refl _),List.take_of_length_le (by rw[h2.l];exact Nat.le_refl _)]at this
theorem place_mono {d a b:List Int} (h1:InD d a) (h2:InD d b) (h:∀(i:Nat) (x y:Int),a[i]?=some x→b[i]?=some y→x≤y):∀i,i≤d.length→placeI (d.take i) (a.take i)≤placeI (d.take i) (b.take i)
 |0,_=>by simp[placeI]
 | i + 1, hi => by
   have ih:=place_mono h1 h2 h i (by omega)
   obtain⟨m,hm⟩:=getI (show i<d.length by omega)
   obtain⟨x,hx⟩:=getI (show i<a.length by have:=h1.l;omega)
   obtain⟨y,hy⟩:=getI (show i<b.length by have:=h2.l;omega)
   have g:=h i x y hx hy
   have b1:=h1.b i x m hx hm
   rw[placeI_snoc hm hx,placeI_snoc hm hy]
   have:=Int.mul_le_mul_of_nonneg_right ih (show 0≤m by omega)
   omega
theorem place_digL {d:List Int} (hc:chk d=0) {n:Int} (h0:0≤n) (hn:n<prodL d):placeI d (digL d n)=n:=by
 obtain⟨_,hd,_,_⟩:=chk0 hc
 have key:∀i,i≤d.length→placeI (d.take i) ((digL d n).take i)=n/prodL (d.drop i):=fun i=>by
  induction i with
  | zero =>
    intro _
    rw[List.drop_zero,Int.ediv_eq_zero_of_lt h0 hn]
    simp[placeI]
  | succ i ih =>
    intro hi
    obtain⟨m,hm⟩:=getI (show i<d.length by omega)
    have hm1:=hd m (List.mem_of_getElem? hm)
    rw[placeI_snoc hm (digL_get (by omega)),ih (by omega),prodL_drop hm,Int.mul_comm m,←Int.ediv_ediv_of_nonneg (by have:=prodL_pos (d:=d.drop (i+1)) fun y hy=>hd y (List.mem_of_mem_drop hy);omega)]
    unfold digit
    rw[List.getD_eq_getElem?_getD,hm,Option.getD_some,Int.mul_comm,Int.mul_ediv_add_emod]
 have:=key d.length (Nat.le_refl _)
 rw[placeI_take (digL_length d n),List.drop_length]at this
 rw[this]
 unfold prodL;simp
theorem digL_place {d a:List Int} (h:InD d a):digL d (placeI d a)=a:=by
 have hb:=h.bnd d.length (Nat.le_refl _)
 rw[placeI_take h.l,List.take_length]at hb
 exact place_inj (digit_in h.c) h (place_digL h.c hb.1 hb.2)

def keptL (mk:List Bool) (d:List Int):List Int:=(d.zip mk).map fun p=>if p.2=true then 1 else p.1
def zeroL (mk:List Bool) (a:List Int):List Int:=(a.zip mk).map fun p=>if p.2=true then 0 else p.1
theorem keptL_length {mk:List Bool} {d:List Int} (h:mk.length=d.length):(keptL mk d).length=d.length:=by simp[keptL];omega
theorem zeroL_length {mk:List Bool} {a:List Int} (h:mk.length=a.length):(zeroL mk a).length=a.length:=by simp[zeroL];omega
theorem keptL_get {mk:List Bool} {d:List Int} {i:Nat} {m:Int} {b:Bool} (hm:d[i]?=some m) (hb:mk[i]?=some b):(keptL mk d)[i]?=some (if b=true then 1 else m):=by
 unfold keptL;rw[List.getElem?_map,(List.getElem?_zip_eq_some (z:=(m,b))).2 ⟨hm,hb⟩];rfl
theorem zeroL_get {mk:List Bool} {a:List Int} {i:Nat} {x:Int} {b:Bool} (hx:a[i]?=some x) (hb:mk[i]?=some b):(zeroL mk a)[i]?=some (if b=true then 0 else x):=by
 unfold zeroL;rw[List.getElem?_map,(List.getElem?_zip_eq_some (z:=(x,b))).2 ⟨hx,hb⟩];rfl
theorem kept_chk {mk:List Bool} {d:List Int} (hc:chk d=0) (hl:mk.length=d.length):chk (keptL mk d)=0∧prodL (keptL mk d)≤prodL d:=by
 obtain⟨h1,h2,h3,h4⟩:=chk0 hc
 have hge:∀x∈keptL mk d,1≤x:=fun x hx=>by
  unfold keptL at hx
  obtain⟨p,hp,rfl⟩:=List.mem_map.1 hx
  have:=h2 p.1 (List.of_mem_zip hp).1
  split<;>omega
 have key:∀i,i≤d.length→prodL ((keptL mk d).take i)≤prodL (d.take i):=fun i=>by
  induction i with
  |zero=>intro _;simp
  | succ i ih =>
    intro hi
    obtain⟨m,hm⟩:=getI (show i<d.length by omega)
    obtain⟨b,hb⟩:=getI (show i<mk.length by omega)
    have hm1:=h2 m (List.mem_of_getElem? hm)
    rw[prodL_snoc hm,prodL_snoc (keptL_get hm hb)]
    have h5:=ih (by omega)
    have h6:=prodL_pos (d:=(keptL mk d).take i) fun y hy=>hge y (List.mem_of_mem_take hy)
    refine Int.le_trans (Int.mul_le_mul_of_nonneg_left (show(if b=true then 1 else m)≤m by split<;>omega) (by omega)) (Int.mul_le_mul_of_nonneg_right h5 (by omega))
 have hle:=key d.length (Nat.le_refl _)
 rw[List.take_length,List.take_of_length_le (by rw[keptL_length hl];exact Nat.le_refl _)]at hle
 refine⟨?_,hle⟩
 unfold chk
 rw[if_neg (by rw[keptL_length hl];omega),if_neg (by rintro ⟨x,hx,h⟩;have:=hge x hx;omega),if_neg (by omega)]
theorem zeroL_in {mk:List Bool} {d a:List Int} (h:InD d a) (hl:mk.length=d.length):InD (keptL mk d) (zeroL mk a)∧InD d (zeroL mk a):=by
 have hla:=h.l
 have hg:∀(i:Nat) (x:Int),(zeroL mk a)[i]?=some x→∃y m b,a[i]?=some y∧d[i]?=some m∧mk[i]?=some b∧x=if b=true then 0 else y:=fun i x hx=>by
  have hi:=(List.getElem?_eq_some_iff.1 hx).1
  rw[zeroL_length (by omega)]at hi
  obtain⟨y,hy⟩:=getI hi
  obtain⟨m,hm⟩:=getI (show i<d.length by omega)
  obtain⟨b,hb⟩:=getI (show i<mk.length by omega)
  rw[zeroL_get hy hb]at hx
  exact⟨y,m,b,hy,hm,hb,(Option.some.inj hx).symm⟩
 refine⟨⟨(kept_chk h.c hl).1,by rw[zeroL_length (by omega),keptL_length hl,hla],fun i x m' hx hm'=> ?_⟩,⟨h.c,by rw[zeroL_length (by omega),hla],fun i x m' hx hm'=> ?_⟩⟩
 ·obtain⟨y,m,b,hy,hm,hb,rfl⟩:=hg i x hx
  rw[keptL_get hm hb]at hm'
  cases hm'
  have:=h.b i y m hy hm
  split<;>omega
 ·obtain⟨y,m,b,hy,hm,hb,rfl⟩:=hg i x hx
  rw[hm]at hm'
  have e:=Option.some.inj hm'
  have:=h.b i y m hy hm
  split<;>omega
theorem kept_in {mk:List Bool} {d a:List Int} (hc:chk d=0) (hl:mk.length=d.length) (h:InD (keptL mk d) a):InD d a∧zeroL mk a=a:=by
 have hla:=h.l
 rw[keptL_length hl]at hla
 obtain⟨_,h2,_,_⟩:=chk0 hc
 have hg:∀(i:Nat) (x m:Int) (b:Bool),a[i]?=some x→d[i]?=some m→mk[i]?=some b→0≤x∧x<(if b=true then 1 else m):=fun i x m b hx hm hb=>h.b i x _ hx (keptL_get hm hb)
 refine⟨⟨hc,hla,fun i x m hx hm=> ?_⟩,List.ext_getElem? fun i=> ?_⟩
 ·obtain⟨b,hb⟩:=getI (show i<mk.length by have:=(List.getElem?_eq_some_iff.1 hm).1;omega)
  have h5:=hg i x m b hx hm hb
  have h6:=h2 m (List.mem_of_getElem? hm)
  cases b
  ·exact h5
  ·simp only[if_true]at h5;omega
 ·rcases Nat.lt_or_ge i a.length with g|g
  ·obtain⟨x,hx⟩:=getI g
   obtain⟨m,hm⟩:=getI (show i<d.length by omega)
   obtain⟨b,hb⟩:=getI (show i<mk.length by omega)
   have:=hg i x m b hx hm hb
   rw[zeroL_get hx hb,hx]
   cases b
   ·rfl
   ·simp only[if_true]at this⊢
    congr 1;omega
  ·rw[List.getElem?_eq_none g,List.getElem?_eq_none (by rw[zeroL_length (by omega)];exact g)]

def alikeB (mk:List Bool) (a b:List Int):Bool:=decide (zeroL mk a=zeroL mk b)
def keyG (mk:List Bool) (d:List Int) (n:Nat):Nat:=(placeI (keptL mk d) (zeroL mk (digL d (n:Int)))).toNat
def firstG (mk:List Bool) (d:List Int) (k:Nat):Nat:=(placeI d (digL (keptL mk d) (k:Int))).toNat
structure Grp (mk:List Bool) (d:List Int):Prop where
 c:chk d=0
 l:mk.length=d.length
section
variable {mk:List Bool} {d:List Int} (G:Grp mk d)
include G
theorem Grp.key_eq (n:Nat):placeI (keptL mk d) (zeroL mk (digL d (n:Int)))=(keyG mk d n:Nat)∧(keyG mk d n:Int)<prodL (keptL mk d):=by
 have h:=(zeroL_in (digit_in (n:=(n:Int)) G.c) G.l).1
 have hb:=h.bnd _ (Nat.le_refl _)
 rw[placeI_take h.l,List.take_length]at hb
 unfold keyG
 rw[Int.toNat_of_nonneg hb.1]
 exact⟨rfl,hb.2⟩
theorem Grp.alike (i k:Nat):alikeB mk (digL d (i:Int)) (digL d (k:Int))=decide (keyG mk d i=keyG mk d k):=by
 have h1:=(G.key_eq i).1
 have h2:=(G.key_eq k).1
 unfold alikeB
 refine decide_eq_decide.2 ⟨fun h=> ?_,fun h=> ?_⟩
 ·rw[h]at h1;omega
 ·exact place_inj (zeroL_in (digit_in G.c) G.l).1 (zeroL_in (digit_in G.c) G.l).1 (by omega)
theorem Grp.first {k:Nat} (hk:(k:Int)<prodL (keptL mk d)):placeI d (digL (keptL mk d) (k:Int))=(firstG mk d k:Nat)∧(firstG mk d k:Int)<prodL d∧keyG mk d (firstG mk d k)=k:=by
 have hc:=(kept_chk G.c G.l).1
 obtain⟨h1,h2⟩:=kept_in G.c G.l (digit_in (n:=(k:Int)) hc)
 have hb:=h1.bnd _ (Nat.le_refl _)
 rw[placeI_take h1.l,List.take_length]at hb
 have e:placeI d (digL (keptL mk d) (k:Int))=(firstG mk d k:Nat):=by unfold firstG;rw[Int.toNat_of_nonneg hb.1]
 refine⟨e,by omega,?_⟩
 have h3:=(G.key_eq (firstG mk d k)).1
 rw[←e,digL_place h1,h2,place_digL hc (by omega) hk]at h3
 omega
theorem Grp.first_le {n:Nat} (hn:(n:Int)<prodL d):firstG mk d (keyG mk d n)≤n:=by
 have h:=zeroL_in (digit_in (n:=(n:Int)) G.c) G.l
 have h1:=(G.first (G.key_eq n).2).1
 rw[←(G.key_eq n).1,digL_place h.1]at h1
 have hm:=place_mono h.2 (digit_in (n:=(n:Int)) G.c) (fun i x y hx hy=>by
   obtain⟨b,hb⟩:=getI (show i<mk.length by have:=(List.getElem?_eq_some_iff.1 hy).1;rw[digL_length]at this;rw[G.l];exact this)
   rw[zeroL_get hy hb]at hx
   cases hx
   obtain⟨m,hm⟩:=getI (show i<d.length by have:=(List.getElem?_eq_some_iff.1 hy).1;rwa [digL_length]at this)
   have:=(digit_in (n:=(n:Int)) G.c).b i y m hy hm
   split<;>omega) d.length (Nat.le_refl _)
 rw[placeI_take h.2.l,placeI_take (digL_length d n),place_digL G.c (by omega) hn]at hm
 omega
theorem Grp.first_lt {j k:Nat} (hjk:j<k) (hk:(k:Int)<prodL (keptL mk d)):firstG mk d j<firstG mk d k:=by
 have hc:=(kept_chk G.c G.l).1
 have hj:(j:Int)<prodL (keptL mk d):=by omega
 have a1:=digit_in (n:=(j:Int)) hc
 have a2:=digit_in (n:=(k:Int)) hc
 have b1:=(kept_in G.c G.l a1).1
 have b2:=(kept_in G.c G.l a2).1
 have:=(place_rel b1 b2 a1 a2 (keptL_length G.l).symm (fun i x y x' y' h1 h2 h3 h4=>by
   rw[h1]at h3;rw[h2]at h4;cases h3;cases h4;exact⟨Iff.rfl,Iff.rfl⟩) d.length (Nat.le_refl _)).1
 rw[placeI_take b1.l,placeI_take b2.l]at this
 rw[show d.length=(keptL mk d).length from(keptL_length G.l).symm,placeI_take a1.l,placeI_take a2.l,place_digL hc (by omega) hj,place_digL hc (by omega) hk,(G.first hj).1,(G.first hk).1]at this
 omega
end
theorem sorted_ext:∀{a b:List Nat},a.Pairwise (· < ·)→b.Pairwise (· < ·)→(∀x,x∈a↔x∈b)→a=b
 |[],[],_,_,_=>rfl
 |[],y::b,_,_,h=>absurd ((h y).2 (by simp)) (by simp)
 |x::a,[],_,_,h=>absurd ((h x).1 (by simp)) (by simp)
 | x :: a, y :: b, ha, hb, h => by
   rw[List.pairwise_cons]at ha hb
   have e:x=y:=by
    have h1:=(h x).1 (by simp)
    have h2:=(h y).2 (by simp)
    rw[List.mem_cons]at h1 h2
    rcases h1 with h1|h1
    ·exact h1
    ·rcases h2 with h2|h2
     ·exact h2.symm
     ·have:=ha.1 y h2
      have:=hb.1 x h1
      omega
   subst e
   rw[sorted_ext ha.2 hb.2 fun z=>⟨fun hz=> ?_,fun hz=> ?_⟩]
   ·have:=(h z).1 (by simp[hz])
    rw[List.mem_cons]at this
    rcases this with rfl|h
    ·have:=ha.1 z hz;omega
    ·exact h
   ·have:=(h z).2 (by simp[hz])
    rw[List.mem_cons]at this
    rcases this with rfl|h
    ·have:=hb.1 z hz;omega
    ·exact h
def grpL (mk:List Bool) (d:List Int) (n k:Nat):List Int:=((List.range n).filter fun i=>decide (keyG mk d i=k)).map fun(i:Nat)=>(i:Int)
def groupsL (mk:List Bool) (d:List Int):List (List Int):=(List.range (prodL (keptL mk d)).toNat).map (grpL mk d (prodL d).toNat)
def isFirst (mk:List Bool) (d:List Int) (i:Nat):Bool:=(List.range (prodL d).toNat).all fun k=> !alikeB mk (digL d (i:Int)) (digL d (k:Int))||decide (i≤k)
theorem groups_ref {mk:List Bool} {d:List Int} (G:Grp mk d):((List.range (prodL d).toNat).filter (isFirst mk d)).map (fun(i:Nat)=>((List.range (prodL d).toNat).filter fun(k:Nat)=>alikeB mk (digL d (i:Int)) (digL d (k:Int))).map fun(k:Nat)=>(k:Int))=groupsL mk d:=by
 have hK:=(chk0 (kept_chk G.c G.l).1).2.2.1
 have hN:=(chk0 G.c).2.2.1
 have hf:(List.range (prodL d).toNat).filter (isFirst mk d)=(List.range (prodL (keptL mk d)).toNat).map (firstG mk d):=by
  refine sorted_ext (List.Pairwise.filter _ List.pairwise_lt_range) ?_ fun x=> ?_
  ·rw[List.pairwise_map]
   refine List.Pairwise.imp_of_mem (fun{a b} ha hb h=> ?_) List.pairwise_lt_range
   exact G.first_lt h (by have:=List.mem_range.1 hb;omega)
  ·rw[List.mem_filter,List.mem_map]
   constructor
   ·rintro ⟨hx,hfx⟩
    have hx:=List.mem_range.1 hx
    have hk:=G.key_eq x
    have hle:=G.first_le (n:=x) (by omega)
    obtain⟨_,h2,h3⟩:=G.first hk.2
    refine⟨keyG mk d x,List.mem_range.2 (by omega),?_⟩
    unfold isFirst at hfx
    have:=List.all_eq_true.1 hfx (firstG mk d (keyG mk d x)) (List.mem_range.2 (by omega))
    rw[G.alike,h3,decide_eq_true rfl]at this
    simp at this
    omega
   ·rintro ⟨k,hk,rfl⟩
    have hk:=List.mem_range.1 hk
    obtain⟨_,h2,h3⟩:=G.first (show(k:Int)<_ by omega)
    refine⟨List.mem_range.2 (by omega),?_⟩
    unfold isFirst
    rw[List.all_eq_true]
    intro y hy
    have hy:=List.mem_range.1 hy
    rw[G.alike,h3]
    by_cases e:k=keyG mk d y
    ·have:=G.first_le (n:=y) (by omega)
     rw[←e]at this
     simp[e]
     rw[←e];exact this
    ·simp[e]
 rw[hf,List.map_map]
 unfold groupsL
 refine List.map_congr_left fun k hk=> ?_
 have hk:=List.mem_range.1 hk
 obtain⟨_,_,h3⟩:=G.first (show(k:Int)<_ by omega)
 unfold grpL
 show((List.range (prodL d).toNat).filter fun(j:Nat)=>alikeB mk (digL d (firstG mk d k:Nat)) (digL d (j:Int))).map _=_
 congr 1
 refine List.filter_congr fun j _=> ?_
 rw[G.alike,h3]
 exact decide_eq_decide.2 eq_comm
end Go.Fm
/- Axes: which are named. -/
namespace Go.Fm
open Go.Proofs
set_option maxRecDepth 100000
attribute [local irreducible] tiOf

theorem wS9 {n:Nat} (h:n<9000000000000000000):IntKind.wrap .i64 ((n:Int)+1)=((n+1:Nat):Int):=by rw[w64]<;>omega
theorem rHas_ok (l:List Int) (n:Int) (hl:l.length<9000000000000000000):Pure Tryz.prog 135 [sI l,.int .i64 n] [.t (.bool (decide (n∈l)))]:=by
 refine Pure.I Tryz.func135 [4] ?_
 refine SmJ ?_
 refine Goes.loop (X:=Nat) (fun i=>⟨ofL [(0,tI l),(1,.t (.int .i64 n)),(7,.t (.int .i64 l.length)),(8,.t (.int .i64 i))],fun _=>none,0⟩) (fun i=>i≤l.length∧n∉l.take i) (fun i=>l.length-i) 0 (Wk.slots _ rfl rfl (by simp-implicitDefEqProofs+decide only[go_sem,tI,sI]) (by simp-implicitDefEqProofs+decide only[go_sem,tI,sI])) (by simp) ?_
 rintro i ⟨hi,he⟩ J hJ
 apply run_sound 200
 refine SmI ?_
 refine selP_dec (fun hc=> ?_) (fun hc=> ?_)
 ·obtain⟨x,hx⟩:=getI (show i<l.length by omega)
  have hw:=wS9 (show i<9000000000000000000 by omega)
  simp-implicitDefEqProofs+decide only[go_sem,hx,I]
  refine selP_dec (fun h1=> ?_) (fun h1=> ?_)
  ·subst h1
   rw[decide_eq_true (List.mem_of_getElem? hx)]
   refine Sm ?_
   exact endF.V1 4 (.bool true)
  ·simp-implicitDefEqProofs+decide only[go_sem,hw]
   refine hJ (i+1) _ ⟨by omega,?_⟩ (by omega) (Wk.slots _ rfl rfl (by simp-implicitDefEqProofs+decide only[go_sem,tI,sI]) (by simp-implicitDefEqProofs+decide only[go_sem,tI,sI]))
   rw[List.take_add_one,hx,List.mem_append]
   rintro (h|h)
   ·exact he h
   ·simp at h;exact h1 h.symm
 ·rw[List.take_of_length_le (by omega)]at he
  rw[decide_eq_false he]
  refine Sm ?_
  exact endF.V1 4 (.bool false)

def axesI (op:Int) (x:Atr):List Int:=if op=27∨op=28 then x.list else [x.n]
theorem axes_ok (op:Int) (x:Atr):Pure Tryz.prog 130 [.int .i64 op,x.T] [.t (sI (axesI op x))]:=by
 refine Pure.I Tryz.func130 [4] ?_
 obtain⟨a1,a2,a3,a4,a5,a6,a7,a8,ak,al⟩:=x
 unfold axesI
 simp-implicitDefEqProofs+decide only[go_sem,Atr.T,I,sI]
 by_cases h1:op=27
 ·subst h1
  rw[if_pos (.inl rfl)]
  refine Sm ?_
  exact endF.V1 4 (.slice (al.map I))
 ·have d1:decide (op=27)=false:=decide_eq_false h1
  by_cases h2:op=28
  ·subst h2
   rw[if_pos (.inr rfl)]
   refine Sm ?_
   exact endF.V1 4 (.slice (al.map I))
  ·have d2:decide (op=28)=false:=decide_eq_false h2
   rw[if_neg (fun h=>h.elim h1 h2)]
   simp-implicitDefEqProofs+decide only[go_sem,d1,d2]
   exact endF.row1 (.inr rfl) (by simp-implicitDefEqProofs+decide only[go_sem];rfl) (by simp-implicitDefEqProofs+decide only[go_sem];rfl) rfl (fun l hp=>by cases l<;>first|rfl|cases hp) rfl
theorem rAxesOf_ok (op:Int) (x:Atr):Pure Tryz.prog 77 [.int .i64 op,x.T] [.t (sI (axesI op x))]:=by
 refine Pure.I Tryz.func77 [4] ?_
 obtain⟨a1,a2,a3,a4,a5,a6,a7,a8,ak,al⟩:=x
 unfold axesI
 simp-implicitDefEqProofs+decide only[go_sem,Atr.T,I,sI]
 by_cases h1:op=27
 ·subst h1
  rw[if_pos (.inl rfl)]
  refine Sm ?_
  exact endF.V1 4 (.slice (al.map I))
 ·have d1:decide (op=27)=false:=decide_eq_false h1
  by_cases h2:op=28
  ·subst h2
   rw[if_pos (.inr rfl)]
   refine Sm ?_
   exact endF.V1 4 (.slice (al.map I))
  ·have d2:decide (op=28)=false:=decide_eq_false h2
   rw[if_neg (fun h=>h.elim h1 h2)]
   simp-implicitDefEqProofs+decide only[go_sem,d1,d2]
   exact endF.row1 (.inr rfl) (by simp-implicitDefEqProofs+decide only[go_sem];rfl) (by simp-implicitDefEqProofs+decide only[go_sem];rfl) rfl (fun l hp=>by cases l<;>first|rfl|cases hp) rfl

def axP (r:Nat) (ax:List Int) (i:Nat):Prop:=∀(j:Nat) (a:Int),j<i→ax[j]?=some a→(0≤a∧a<r)∧a∉ax.take j
theorem axP_zero (r:Nat) (ax:List Int):axP r ax 0:=fun j a h=>absurd h (Nat.not_lt_zero j)
theorem axP_succ {r:Nat} {ax:List Int} {i:Nat} {a:Int} (h:axP r ax i) (hx:ax[i]?=some a) (ha:(0≤a∧a<r)∧a∉ax.take i):axP r ax (i+1):=fun j b hj hb=>by
 rcases Nat.lt_or_ge j i with g|g
 ·exact h j b g hb
 ·obtain rfl:j=i:=by omega
  rw[hx]at hb;cases hb;exact ha
theorem axP_no {r:Nat} {ax:List Int} {i:Nat} {a:Int} (hx:ax[i]?=some a) (ha:¬((0≤a∧a<r)∧a∉ax.take i)):¬axP r ax ax.length:=fun h=>ha (h i a (List.getElem?_eq_some_iff.1 hx).1 hx)
def mkB (ax:List Int) (j:Nat):Bool:=decide (ax.length=0)||decide ((j:Int)∈ax)
def marksI (r:Nat) (ax:List Int):List Bool:=(List.range r).map (mkB ax)
theorem marksI_length (r:Nat) (ax:List Int):(marksI r ax).length=r:=by simp[marksI]
theorem marksI_snoc (r:Nat) (ax:List Int):marksI r ax++[mkB ax r]=marksI (r+1) ax:=by simp[marksI,List.range_succ]

theorem rAxes_gen (r:Nat) (ax:List Int) (rs:List RC) (hr:r≤6) (hl:ax.length<9000000000000000000) (hno:¬axP r ax ax.length→rs=[.t (.slice []),.t (.int .i64 10)]) (hok:axP r ax ax.length→rs=[.t (sB (marksI r ax)),.t (.int .i64 0)]):
  Pure Tryz.prog 81 [.int .i64 r,sI ax] rs:=by
 have hr0:decide ((r:Int)<0)=false:=decide_eq_false (by omega)
 have hr6:decide ((6:Int)<r)=false:=decide_eq_false (by omega)
 have hlen0:decide ((ax.length:Int)=0)=decide (ax.length=0):=decide_eq_decide.2 (by omega)
 refine Pure.I Tryz.func81 [4,5] ?_
 simp-implicitDefEqProofs+decide only[go_sem,sI,hr0,hr6]
 refine Goes.loop (X:=Nat) (fun i=>⟨ofL [(0,.t (.int .i64 r)),(1,tI ax),(16,.t (.int .i64 ax.length)),(17,.t (.int .i64 i))],fun _=>none,0⟩) (fun i=>i≤ax.length∧axP r ax i) (fun i=>ax.length-i) 0 (Wk.slots _ rfl rfl (by simp-implicitDefEqProofs+decide only[go_sem,tI,sI]) (by simp-implicitDefEqProofs+decide only[go_sem,tI,sI])) ⟨Nat.zero_le _,axP_zero r ax⟩ ?_
 rintro i ⟨hi,hax⟩ J hJ
 apply run_sound 200
 refine SmI ?_
 refine selP_dec (fun hc=> ?_) (fun hc=> ?_)
 ·obtain⟨a,ha⟩:=getI (show i<ax.length by omega)
  have hw:=wS9 (show i<9000000000000000000 by omega)
  have hbad:∀h:¬((0≤a∧a<r)∧a∉ax.take i),rs=[.t (.slice []),.t (.int .i64 10)]:=fun h=>hno (axP_no ha h)
  by_cases h1:a<0
  ·have d1:decide (a<0)=true:=decide_eq_true h1
   rw[hbad (by omega)]
   refine Goes.drawN mixed ?_
   simp-implicitDefEqProofs+decide only[go_sem,ha,I,d1]
   refine⟨.mk (by kernel_rfl),?_⟩
   apply run_sound 200
   refine Sm ?_
   exact endF.V [(4,.slice []),(5,.int .i64 10)] (vals_n (by simp-implicitDefEqProofs+decide only[go_sem]) (vals_t (by simp-implicitDefEqProofs+decide only[go_sem]<;>rfl) rfl vals_nil))
  ·have d1:decide (a<0)=false:=decide_eq_false h1
   by_cases h2:(r:Int)≤a
   ·have d2:decide ((r:Int)≤a)=true:=decide_eq_true h2
    rw[hbad (by omega)]
    refine Goes.drawN mixed ?_
    simp-implicitDefEqProofs+decide only[go_sem,ha,I,d1,d2]
    refine⟨.mk (by kernel_rfl),?_⟩
    apply run_sound 200
    refine Sm ?_
    exact endF.V [(4,.slice []),(5,.int .i64 10)] (vals_n (by simp-implicitDefEqProofs+decide only[go_sem]) (vals_t (by simp-implicitDefEqProofs+decide only[go_sem]<;>rfl) rfl vals_nil))
   ·have d2:decide ((r:Int)≤a)=false:=decide_eq_false h2
    have c1:=rHas_ok (ax.take i) a (by rw[List.length_take];omega)
    simp only[sI]at c1
    have h0i:(0:Int)≤(i:Int):=by omega
    have hii:(i:Int)≤(ax.length:Int):=by omega
    have hall:=intsAllI ax
    have htk:List.take i (ax.map I)=(ax.take i).map I:=List.map_take.symm
    by_cases h3:a∈ax.take i
    ·have d3:decide (a∈ax.take i)=true:=decide_eq_true h3
     rw[d3]at c1
     rw[hbad (fun h=>h.2 h3)]
     refine Goes.drawN mixed ?_
     simp-implicitDefEqProofs+decide only[go_sem,ha,I,d1,d2,h0i,hii,hall,htk,Int.toNat_natCast,List.length_map,List.drop_zero]
     refine CallD.P _ Tryz.call135 c1 ?_
     refine Sm ?_
     refine⟨.mk (by kernel_rfl),?_⟩
     apply run_sound 200
     refine Sm ?_
     exact endF.V [(4,.slice []),(5,.int .i64 10)] (vals_n (by simp-implicitDefEqProofs+decide only[go_sem]) (vals_t (by simp-implicitDefEqProofs+decide only[go_sem]<;>rfl) rfl vals_nil))
    ·have d3:decide (a∈ax.take i)=false:=decide_eq_false h3
     rw[d3]at c1
     refine Goes.drawN mixed ?_
     simp-implicitDefEqProofs+decide only[go_sem,ha,I,d1,d2,h0i,hii,hall,htk,Int.toNat_natCast,List.length_map,List.drop_zero]
     refine CallD.P _ Tryz.call135 c1 ?_
     refine Sm ?_
     refine⟨.mk (by kernel_rfl),?_⟩
     apply run_sound 200
     simp-implicitDefEqProofs+decide only[go_sem,hw]
     refine hJ (i+1) _ ⟨by omega,axP_succ hax ha ⟨⟨by omega,by omega⟩,h3⟩⟩ (by omega) (Wk.slots _ rfl rfl (by simp-implicitDefEqProofs+decide only[go_sem,tI,sI]) (by simp-implicitDefEqProofs+decide only[go_sem,tI,sI]))
 obtain rfl:i=ax.length:=by omega
 rw[hok hax]
 refine Sm ?_
 refine Goes.wk (Wk.nilRow (d:=7) (lab:=.loc 100 0) (size:=1) (by simp-implicitDefEqProofs+decide only[go_sem]) (by simp-implicitDefEqProofs+decide only[go_sem]) rfl (by decide)) ?_
 refine Goes.loop (X:=Nat) (fun n=>⟨ofL [(0,.t (.int .i64 r)),(1,tI ax),(7,.sl (.loc 100 0) n 0 n),(44,.t (.int .i64 r)),(45,.t (.int .i64 n))],ofH (fun _=>none) [(.loc 100 0,.arr 1 ((marksI n ax).map .bool) n 0)],0⟩) (fun n=>n≤r) (fun n=>r-n) 0 ?_ (by omega) ?_
 ·exact(Wk.rows _ _ (fun _ _=>rfl) rfl rfl (by simp-implicitDefEqProofs+decide only[go_sem,ofH,tW,sW]<;>first|rfl|exact⟨rfl,rfl⟩|skip) (fun l hp=>by cases l<;>first|rfl|cases hp) (by simp-implicitDefEqProofs+decide only[go_sem,tI,sI,tW,sW]<;>first|rfl|skip) (by simp-implicitDefEqProofs+decide only[go_sem,tI,sI,tW,sW]))
 rintro n hn J hJ
 apply run_sound 200
 refine SmI ?_
 have hml:=marksI_length n ax
 refine selP_dec (fun hc2=> ?_) (fun hc2=> ?_)
 ·have hw:=wS (show n<1000000000000 by omega)
  have hnb:n+1<big:=by unfold big;omega
  have hsn:=congrArg (List.map T.bool) (marksI_snoc n ax)
  rw[List.map_append]at hsn
  by_cases h0:ax.length=0
  ·have d0:decide (ax.length=0)=true:=decide_eq_true h0
   have hmk:mkB ax n=true:=by unfold mkB;rw[d0];rfl
   rw[hmk]at hsn
   have hsn:(marksI n ax).map T.bool++[.bool true]=(marksI (n+1) ax).map T.bool:=hsn
   simp-implicitDefEqProofs+decide only[go_sem,ofH,hlen0,d0,hml,hnb,hsn,List.length_map,hw]
   refine hJ (n+1) _ (by omega) (by omega) (Wk.rows _ _ (fun _ _=>rfl) rfl rfl (by simp-implicitDefEqProofs+decide only[go_sem,ofH,tW,sW]<;>first|rfl|exact⟨rfl,rfl⟩|skip) (fun l hp=>by cases l<;>first|rfl|cases hp) (by simp-implicitDefEqProofs+decide only[go_sem,tI,sI,tW,sW]<;>first|rfl|skip) (by simp-implicitDefEqProofs+decide only[go_sem,tI,sI,tW,sW]))
  ·have d0:decide (ax.length=0)=false:=decide_eq_false h0
   have c2:=rHas_ok ax (n:Int) hl
   obtain⟨b,hb⟩:∃b,decide ((n:Int)∈ax)=b:=⟨_,rfl⟩
   have hmk:mkB ax n=b:=by unfold mkB;rw[d0,hb];rfl
   rw[hmk]at hsn
   have hsn:(marksI n ax).map T.bool++[.bool b]=(marksI (n+1) ax).map T.bool:=hsn
   rw[hb]at c2
   simp only[sI]at c2
   simp-implicitDefEqProofs+decide only[go_sem,ofH,hlen0,d0,List.length_map]
   refine CallG.P _ Tryz.call135 (c2) ?_
   simp-implicitDefEqProofs+decide only[go_sem,ofH,hml,hnb,hsn,List.length_map,hw]
   refine hJ (n+1) _ (by omega) (by omega) (Wk.rows _ _ (fun _ _=>rfl) rfl rfl (by simp-implicitDefEqProofs+decide only[go_sem,ofH,tW,sW]<;>first|rfl|exact⟨rfl,rfl⟩|skip) (fun l hp=>by cases l<;>first|rfl|cases hp) (by simp-implicitDefEqProofs+decide only[go_sem,tI,sI,tW,sW]<;>first|rfl|skip) (by simp-implicitDefEqProofs+decide only[go_sem,tI,sI,tW,sW]))
 ·obtain rfl:n=r:=by omega
  simp-implicitDefEqProofs+decide only[go_sem,ofH]
  exact endF.rowT (.inr rfl) (by simp-implicitDefEqProofs+decide only[go_sem];rfl) (by simp-implicitDefEqProofs+decide only[go_sem,ofH];rfl) (by rw[List.length_map,hml]) rfl (by simp-implicitDefEqProofs+decide only[go_sem]) rfl (fun l hp=>by cases l<;>first|rfl|cases hp) rfl
end Go.Fm
/- Axes, marked. -/
namespace Go.Fm
open Go.Proofs
set_option maxRecDepth 100000
attribute [local irreducible] tiOf

def marksP (r:Nat) (ax:List Int) (i:Nat):List Bool:=(List.range r).map fun(j:Nat)=>decide ((j:Int)∈ax.take i)
theorem marksP_length (r:Nat) (ax:List Int) (i:Nat):(marksP r ax i).length=r:=by simp[marksP]
theorem marksP_get {r:Nat} {ax:List Int} {i k:Nat} (h:k<r):(marksP r ax i)[k]?=some (decide ((k:Int)∈ax.take i)):=by simp[marksP,h]
theorem marksP_zero (r:Nat) (ax:List Int):marksP r ax 0=List.replicate r false:=by
 apply List.ext_getElem?
 intro k
 rcases Nat.lt_or_ge k r with h|h
 ·rw[marksP_get h,List.getElem?_replicate,if_pos h];simp
 ·rw[List.getElem?_eq_none (by rw[marksP_length];exact h),List.getElem?_eq_none (by simpa using h)]
theorem marksP_set {r:Nat} {ax:List Int} {i k:Nat} (hx:ax[i]?=some (k:Int)) (hk:k<r):(marksP r ax i).set k true=marksP r ax (i+1):=by
 apply List.ext_getElem?
 intro j
 rcases Nat.lt_or_ge j r with h|h
 ·rw[List.getElem?_set,marksP_get h,marksP_get h,marksP_length,List.take_add_one,hx]
  by_cases e:k=j
  ·subst e;rw[if_pos rfl,if_pos hk];simp
  ·rw[if_neg e]
   congr 1
   refine decide_eq_decide.2 ?_
   rw[List.mem_append]
   simp
   omega
 ·rw[List.getElem?_eq_none (by simp[marksP_length];exact h),List.getElem?_eq_none (by rw[marksP_length];exact h)]
theorem marksP_all {r:Nat} {ax:List Int} (h:ax.length≠0):marksP r ax ax.length=marksI r ax:=by
 unfold marksP marksI
 refine List.map_congr_left fun j _=> ?_
 unfold mkB
 rw[decide_eq_false h,List.take_length];rfl
def fillP (r n:Nat):List Bool:=(List.range r).map fun(j:Nat)=>decide (j<n)
theorem fillP_length (r n:Nat):(fillP r n).length=r:=by simp[fillP]
theorem fillP_get {r n k:Nat} (h:k<r):(fillP r n)[k]?=some (decide (k<n)):=by simp[fillP,h]
theorem fillP_set {r n:Nat} (h:n<r):(fillP r n).set n true=fillP r (n+1):=by
 apply List.ext_getElem?
 intro j
 rcases Nat.lt_or_ge j r with g|g
 ·rw[List.getElem?_set,fillP_get g,fillP_get g,fillP_length]
  by_cases e:n=j
  ·subst e;rw[if_pos rfl,if_pos h];simp
  ·rw[if_neg e]
   congr 1
   exact decide_eq_decide.2 (by omega)
 ·rw[List.getElem?_eq_none (by simp[fillP_length];exact g),List.getElem?_eq_none (by rw[fillP_length];exact g)]
theorem fillP_zero {r:Nat} {ax:List Int} (h:ax.length=0):fillP r 0=marksP r ax ax.length:=by
 unfold fillP marksP
 refine List.map_congr_left fun j _=> ?_
 obtain rfl:=List.eq_nil_of_length_eq_zero h
 simp
theorem fillP_all {r:Nat} {ax:List Int} (h:ax.length=0):fillP r r=marksI r ax:=by
 unfold fillP marksI
 refine List.map_congr_left fun j hj=> ?_
 unfold mkB
 rw[decide_eq_true h,decide_eq_true (List.mem_range.1 hj)];rfl

theorem axesS_gen (r:Nat) (ax:List Int) (rs:List RC) (hr:r≤6) (hl:ax.length<9000000000000000000) (hno:¬axP r ax ax.length→rs=[.t (.slice []),.t (.int .i64 10)]) (hok:axP r ax ax.length→rs=[.t (sB (marksI r ax)),.t (.int .i64 0)]):
  Pure Tryz.prog 129 [.int .i64 r,sI ax] rs:=by
 have hr0:decide ((r:Int)<0)=false:=decide_eq_false (by omega)
 have hr6:decide ((6:Int)<r)=false:=decide_eq_false (by omega)
 have hlb:r<big:=by unfold big;omega
 have hlb2:(0:Int)≤r:=by omega
 have hrep:List.replicate r (T.bool false)=(marksP r ax 0).map T.bool:=by rw[marksP_zero,List.map_replicate]
 refine Pure.I Tryz.func129 [4,5] ?_
 simp-implicitDefEqProofs+decide only[go_sem,sI,hr0,hr6,hlb,hlb2,hrep,Int.toNat_natCast]
 refine Goes.loop (X:=Nat) (fun i=>⟨ofL [(0,.t (.int .i64 r)),(1,tI ax),(6,.sl (.loc 17 0) 0 0 r),(18,tI ax),(19,.t (.int .i64 ax.length)),(20,.t (.int .i64 i))],ofH (fun _=>none) [(.loc 17 0,.arr 1 ((marksP r ax i).map T.bool) 0 0)],0⟩) (fun i=>i≤ax.length∧axP r ax i) (fun i=>ax.length-i) 0 ?_ ⟨Nat.zero_le _,axP_zero r ax⟩ ?_
 ·exact(Wk.rows _ _ (fun _ _=>rfl) rfl rfl (by simp-implicitDefEqProofs+decide only[go_sem,ofH,tW,sW]<;>first|rfl|exact⟨rfl,rfl⟩|skip) (fun l hp=>by cases l<;>first|rfl|cases hp) (by simp-implicitDefEqProofs+decide only[go_sem,tI,sI,tW,sW]<;>first|rfl|skip) (by simp-implicitDefEqProofs+decide only[go_sem,tI,sI,tW,sW]))
 rintro i ⟨hi,hax⟩ J hJ
 apply run_sound 200
 refine SmI ?_
 have hml:=marksP_length r ax i
 refine selP_dec (fun hc=> ?_) (fun hc=> ?_)
 ·obtain⟨a,ha⟩:=getI (show i<ax.length by omega)
  have hw:=wS9 (show i<9000000000000000000 by omega)
  have hbad:∀h:¬((0≤a∧a<r)∧a∉ax.take i),rs=[.t (.slice []),.t (.int .i64 10)]:=fun h=>hno (axP_no ha h)
  by_cases h1:a<0
  ·have d1:decide (a<0)=true:=decide_eq_true h1
   rw[hbad (by omega)]
   simp-implicitDefEqProofs+decide only[go_sem,ha,I,d1]
   exact endF.V [(4,.slice []),(5,.int .i64 10)] (vals_n (by simp-implicitDefEqProofs+decide only[go_sem]) (vals_t (by simp-implicitDefEqProofs+decide only[go_sem]<;>rfl) rfl vals_nil))
  ·have d1:decide (a<0)=false:=decide_eq_false h1
   by_cases h2:(r:Int)≤a
   ·have d2:decide ((r:Int)≤a)=true:=decide_eq_true h2
    rw[hbad (by omega)]
    simp-implicitDefEqProofs+decide only[go_sem,ha,I,d1,d2]
    exact endF.V [(4,.slice []),(5,.int .i64 10)] (vals_n (by simp-implicitDefEqProofs+decide only[go_sem]) (vals_t (by simp-implicitDefEqProofs+decide only[go_sem]<;>rfl) rfl vals_nil))
   ·have d2:decide ((r:Int)≤a)=false:=decide_eq_false h2
    obtain⟨k,rfl⟩:∃k:Nat,a=(k:Int):=⟨a.toNat,by omega⟩
    have hk:k<r:=by omega
    have d2:decide (r≤k)=false:=decide_eq_false (by omega)
    have hk0':(0:Int)≤(k:Int):=by omega
    have hk0:¬(k:Int)<0:=by omega
    have hgk:((marksP r ax i).map T.bool)[k]?=some (.bool (decide ((k:Int)∈ax.take i))):=by rw[List.getElem?_map,marksP_get hk];rfl
    by_cases h3:(k:Int)∈ax.take i
    ·have d3:decide ((k:Int)∈ax.take i)=true:=decide_eq_true h3
     rw[d3]at hgk
     rw[hbad (fun h=>h.2 h3)]
     simp-implicitDefEqProofs+decide only[go_sem,ha,I,d1,d2,hk,hk0,hgk,ofH,Int.toNat_natCast,Nat.zero_add]
     exact endF.V [(4,.slice []),(5,.int .i64 10)] (vals_n (by simp-implicitDefEqProofs+decide only[go_sem]) (vals_t (by simp-implicitDefEqProofs+decide only[go_sem]<;>rfl) rfl vals_nil))
    ·have d3:decide ((k:Int)∈ax.take i)=false:=decide_eq_false h3
     rw[d3]at hgk
     have hst:((marksP r ax i).map T.bool).set k (.bool true)=(marksP r ax (i+1)).map T.bool:=by rw[←marksP_set ha hk,List.map_set]
     simp-implicitDefEqProofs+decide only[go_sem,ha,I,d1,d2,hk,hk0,hgk,hst,hw,ofH,Int.toNat_natCast,Nat.zero_add]
     refine hJ (i+1) _ ⟨by omega,axP_succ hax ha ⟨⟨by omega,by omega⟩,h3⟩⟩ (by omega) (Wk.rows _ _ (fun _ _=>rfl) rfl rfl (by simp-implicitDefEqProofs+decide only[go_sem,ofH,tW,sW]<;>first|rfl|exact⟨rfl,rfl⟩|skip) (fun l hp=>by cases l<;>first|rfl|cases hp) (by simp-implicitDefEqProofs+decide only[go_sem,tI,sI,tW,sW]<;>first|rfl|skip) (by simp-implicitDefEqProofs+decide only[go_sem,tI,sI,tW,sW]))
 obtain rfl:i=ax.length:=by omega
 rw[hok hax]
 by_cases h0:ax.length=0
 ·have d0:decide ((ax.length:Int)=0)=true:=decide_eq_true (by omega)
  have hf0:(marksP r ax ax.length).map T.bool=(fillP r 0).map T.bool:=by rw[fillP_zero h0]
  simp-implicitDefEqProofs+decide only[go_sem,d0,ofH]
  refine Goes.loop (X:=Nat) (fun n=>⟨ofL [(6,.sl (.loc 17 0) 0 0 r),(45,.t (.int .i64 r)),(46,.t (.int .i64 n))],ofH (fun _=>none) [(.loc 17 0,.arr 1 ((fillP r n).map T.bool) 0 0)],0⟩) (fun n=>n≤r) (fun n=>r-n) 0 ?_ (by omega) ?_
  ·exact(Wk.rows _ _ (fun _ _=>rfl) rfl rfl (by simp-implicitDefEqProofs+decide only[go_sem,ofH,tW,sW,hf0]<;>first|rfl|exact⟨rfl,rfl⟩|skip) (fun l hp=>by cases l<;>first|rfl|cases hp) (by simp-implicitDefEqProofs+decide only[go_sem,tI,sI,tW,sW,hf0]<;>first|rfl|skip) (by simp-implicitDefEqProofs+decide only[go_sem,tI,sI,tW,sW]))
  rintro n hn J hJ
  apply run_sound 200
  refine Sm ?_
  have hfl:=fillP_length r n
  refine selP_dec (fun hc2=> ?_) (fun hc2=> ?_)
  ·have hw:=wS (show n<1000000000000 by omega)
   have hnr:n<r:=by omega
   have hgn:((fillP r n).map T.bool)[n]?=some (.bool (decide (n<n))):=by rw[List.getElem?_map,fillP_get (by omega)];rfl
   have hst:((fillP r n).map T.bool).set n (.bool true)=(fillP r (n+1)).map T.bool:=by rw[←fillP_set (show n<r by omega),List.map_set]
   simp-implicitDefEqProofs+decide only[go_sem,ofH,hnr,hgn,hst,hw,Int.toNat_natCast,Nat.zero_add]
   refine hJ (n+1) _ (by omega) (by omega) (Wk.rows _ _ (fun _ _=>rfl) rfl rfl (by simp-implicitDefEqProofs+decide only[go_sem,ofH,tW,sW]<;>first|rfl|exact⟨rfl,rfl⟩|skip) (fun l hp=>by cases l<;>first|rfl|cases hp) (by simp-implicitDefEqProofs+decide only[go_sem,tI,sI,tW,sW]<;>first|rfl|skip) (by simp-implicitDefEqProofs+decide only[go_sem,tI,sI,tW,sW]))
  ·obtain rfl:n=r:=by omega
   rw[←fillP_all h0]
   simp-implicitDefEqProofs+decide only[go_sem,ofH]
   exact endF.rowT (.inr rfl) (by simp-implicitDefEqProofs+decide only[go_sem];rfl) (by simp-implicitDefEqProofs+decide only[go_sem,ofH];rfl) (by rw[List.length_map,hfl]) rfl (by simp-implicitDefEqProofs+decide only[go_sem]) rfl (fun l hp=>by cases l<;>first|rfl|cases hp) rfl
 ·have d0:decide ((ax.length:Int)=0)=false:=decide_eq_false (by omega)
  rw[←marksP_all h0]
  simp-implicitDefEqProofs+decide only[go_sem,d0,ofH]
  exact endF.rowT (.inr rfl) (by simp-implicitDefEqProofs+decide only[go_sem];rfl) (by simp-implicitDefEqProofs+decide only[go_sem,ofH];rfl) (by rw[List.length_map,hml]) rfl (by simp-implicitDefEqProofs+decide only[go_sem]) rfl (fun l hp=>by cases l<;>first|rfl|cases hp) rfl
end Go.Fm
/- Dims without some axes; the dims of reductions. -/
namespace Go.Fm
open Go.Proofs
set_option maxRecDepth 100000
attribute [local irreducible] tiOf

def dropL (mk:List Bool) (d:List Int) (keep:Bool):List Int:=(d.zip mk).flatMap fun p=>if p.2=true then (if keep=true then [1] else []) else [p.1]
theorem dropL_zero (mk:List Bool) (d:List Int) (keep:Bool):dropL (mk.take 0) (d.take 0) keep=[]:=by simp[dropL]
theorem dropL_snoc {mk:List Bool} {d:List Int} {i:Nat} {x:Int} {b:Bool} (keep:Bool) (hx:d[i]?=some x) (hb:mk[i]?=some b):dropL (mk.take (i+1)) (d.take (i+1)) keep=dropL (mk.take i) (d.take i) keep++(if b=true then (if keep=true then [1] else []) else [x]):=by
 have h1:=(List.getElem?_eq_some_iff.1 hx).1
 have h2:=(List.getElem?_eq_some_iff.1 hb).1
 unfold dropL
 rw[List.take_add_one,List.take_add_one,hx,hb,Option.toList_some,Option.toList_some,List.zip_append (by simp;omega),List.flatMap_append]
 simp
theorem dropL_len {mk:List Bool} {d:List Int} (hl:mk.length=d.length) (keep:Bool):∀i,i≤d.length→(dropL (mk.take i) (d.take i) keep).length≤i
 |0,_=>by rw[dropL_zero];simp
 | i + 1, hi => by
   obtain⟨x,hx⟩:=getI (show i<d.length by omega)
   obtain⟨b,hb⟩:=getI (show i<mk.length by omega)
   have:=dropL_len hl keep i (by omega)
   rw[dropL_snoc keep hx hb,List.length_append]
   cases b<;>cases keep<;>simp<;>omega
theorem dropL_keep (mk:List Bool) (d:List Int):dropL mk d true=keptL mk d:=by
 unfold dropL keptL
 induction d.zip mk with
 |nil=>rfl
 | cons p l ih =>
   rw[List.flatMap_cons,ih,List.map_cons]
   cases p.2<;>simp
open Classical in
noncomputable def dropE (d ax:List Int) (keep:Bool):List Int×Int:=if chk d≠0 then ([],chk d) else if axP d.length ax ax.length then (dropL (marksI d.length ax) d keep,0) else ([],10)

theorem rDrop_ok (d ax:List Int) (keep:Bool) (hd:d.length<1000000000) (hl:ax.length<9000000000000000000):Pure Tryz.prog 76 [sI d,sI ax,.bool keep] [.t (sI (dropE d ax keep).1),.t (.int .i64 (dropE d ax keep).2)]:=by
 have c1:=rCheck_ok d hd
 refine Pure.I Tryz.func76 [6,7] ?_
 refine SmJ ?_
 refine CallG.P _ Tryz.call78 (c1) ?_
 by_cases hc:chk d=0
 rotate_left
 ·have e:dropE d ax keep=([],chk d):=by unfold dropE;rw[if_pos hc]
  rw[e]
  refine Sm ?_
  refine selP_dec (fun _=> ?_) (fun h=>absurd hc h)
  refine Sm ?_
  exact endF.V [(6,.slice []),(7,.int .i64 (chk d))] (vals_n (by simp-implicitDefEqProofs+decide only[go_sem]) (vals_t (by simp-implicitDefEqProofs+decide only[go_sem]<;>rfl) rfl vals_nil))
 obtain⟨l6,_,_,_⟩:=chk0 hc
 have hc0:decide (chk d=0)=true:=decide_eq_true hc
 by_cases hax:axP d.length ax ax.length
 rotate_left
 ·have e:dropE d ax keep=([],10):=by unfold dropE;rw[if_neg (fun h=>h hc),if_neg hax]
  have c2:=rAxes_gen d.length ax _ l6 hl (fun _=>rfl) (fun h=>absurd h hax)
  simp only[sI]at c2
  rw[e]
  refine Sm ?_
  refine selP_dec (fun h=>absurd hc h) (fun _=> ?_)
  simp-implicitDefEqProofs+decide only[go_sem,List.length_map]
  refine CallG.PS _ Tryz.call81 (c2) ?_
  refine Sm ?_
  exact endF.V [(6,.slice []),(7,.int .i64 10)] (vals_n (by simp-implicitDefEqProofs+decide only[go_sem]) (vals_t (by simp-implicitDefEqProofs+decide only[go_sem]<;>rfl) rfl vals_nil))
 have e:dropE d ax keep=(dropL (marksI d.length ax) d keep,0):=by unfold dropE;rw[if_neg (fun h=>h hc),if_pos hax]
 have c2:=rAxes_gen d.length ax _ l6 hl (fun h=>absurd hax h) (fun _=>rfl)
 have hml:=marksI_length d.length ax
 rw[e]
 generalize marksI d.length ax=mk at*
 simp only[sI,sB]at c2
 refine Sm ?_
 refine selP_dec (fun h=>absurd hc h) (fun _=> ?_)
 simp-implicitDefEqProofs+decide only[go_sem,List.length_map]
 refine CallG.PS _ Tryz.call81 (c2) ?_
 refine Sm ?_
 have hmd:mk.length=d.length:=hml
 refine Goes.wk (Wk.nilRow (d:=10) (lab:=.loc 100 0) (size:=1) (by simp-implicitDefEqProofs+decide only[go_sem]) (by simp-implicitDefEqProofs+decide only[go_sem]) rfl (by decide)) ?_
 refine Goes.loop (X:=Nat) (fun i=>⟨ofL [(0,tI d),(2,.t (.bool keep)),(9,.t (sB mk)),(10,.sl (.loc 100 0) (dropL (mk.take i) (d.take i) keep).length 0 (dropL (mk.take i) (d.take i) keep).length),(28,.t (.int .i64 d.length)),(29,.t (.int .i64 i))],
   ofH (fun _=>none) [(.loc 100 0,.arr 1 ((dropL (mk.take i) (d.take i) keep).map I) (dropL (mk.take i) (d.take i) keep).length 0)],0⟩) (fun i=>i≤d.length) (fun i=>d.length-i) 0 ?_ (by simp) ?_
 ·have h0:=dropL_zero mk d keep
  exact(Wk.rows _ _ (fun _ _=>rfl) rfl rfl (by simp-implicitDefEqProofs+decide only[go_sem,ofH,tW,sW,sB,h0]<;>first|rfl|exact⟨rfl,rfl⟩|skip) (fun l hp=>by cases l<;>first|rfl|cases hp) (by simp-implicitDefEqProofs+decide only[go_sem,tI,sI,tW,sW,sB,h0]<;>first|rfl|skip) (by simp-implicitDefEqProofs+decide only[go_sem,tI,sI,tW,sW]))
 rintro i hi J hJ
 apply run_sound 200
 refine SmI ?_
 have hdl:=dropL_len hml keep i hi
 refine selP_dec (fun hc3=> ?_) (fun hc3=> ?_)
 ·obtain⟨x,hx⟩:=getI (show i<d.length by omega)
  obtain⟨b,hb⟩:=getI (show i<mk.length by omega)
  have hsn:=dropL_snoc keep hx hb
  have hw:=wS (show i<1000000000000 by omega)
  generalize dropL (mk.take i) (d.take i) keep=L at*
  have hnb:L.length+1<big:=by unfold big;omega
  cases b with
  | false =>
    have hsn:dropL (mk.take (i+1)) (d.take (i+1)) keep=L++[x]:=hsn
    have hlen:(L++[x]).length=L.length+1:=by simp
    have hmap:L.map I++[.int .i64 x]=(L++[x]).map I:=by simp[I]
    generalize L++[x]=L' at hsn hlen hmap
    simp-implicitDefEqProofs+decide only[go_sem,sB,ofH,hb]
    simp-implicitDefEqProofs+decide only[go_sem,hx,I,hnb,hmap,List.length_map,hw]
    refine hJ (i+1) _ (by omega) (by omega) (Wk.rows _ _ (fun _ _=>rfl) rfl rfl (by simp-implicitDefEqProofs+decide only[go_sem,ofH,tW,sW,sB,hsn,hlen]<;>first|rfl|exact⟨rfl,rfl⟩|skip) (fun l hp=>by cases l<;>first|rfl|cases hp) (by simp-implicitDefEqProofs+decide only[go_sem,tI,sI,tW,sW,sB,hsn,hlen]<;>first|rfl|skip) (by simp-implicitDefEqProofs+decide only[go_sem,tI,sI,tW,sW]))
  | true =>
    cases keep with
    | false =>
      have hsn:dropL (mk.take (i+1)) (d.take (i+1)) false=L:=by rw[hsn];simp
      simp-implicitDefEqProofs+decide only[go_sem,sB,ofH,hb,hw]
      refine hJ (i+1) _ (by omega) (by omega) (Wk.rows _ _ (fun _ _=>rfl) rfl rfl (by simp-implicitDefEqProofs+decide only[go_sem,ofH,tW,sW,sB,hsn]<;>first|rfl|exact⟨rfl,rfl⟩|skip) (fun l hp=>by cases l<;>first|rfl|cases hp) (by simp-implicitDefEqProofs+decide only[go_sem,tI,sI,tW,sW,sB,hsn]<;>first|rfl|skip) (by simp-implicitDefEqProofs+decide only[go_sem,tI,sI,tW,sW]))
    | true =>
      have hsn:dropL (mk.take (i+1)) (d.take (i+1)) true=L++[1]:=hsn
      have hlen:(L++[1]).length=L.length+1:=by simp
      have hmap:L.map I++[.int .i64 1]=(L++[1]).map I:=by simp[I]
      generalize L++[1]=L' at hsn hlen hmap
      simp-implicitDefEqProofs+decide only[go_sem,sB,ofH,hb,hnb,hmap,List.length_map,hw]
      refine hJ (i+1) _ (by omega) (by omega) (Wk.rows _ _ (fun _ _=>rfl) rfl rfl (by simp-implicitDefEqProofs+decide only[go_sem,ofH,tW,sW,sB,hsn,hlen]<;>first|rfl|exact⟨rfl,rfl⟩|skip) (fun l hp=>by cases l<;>first|rfl|cases hp) (by simp-implicitDefEqProofs+decide only[go_sem,tI,sI,tW,sW,sB,hsn,hlen]<;>first|rfl|skip) (by simp-implicitDefEqProofs+decide only[go_sem,tI,sI,tW,sW]))
 ·obtain rfl:i=d.length:=by omega
  have e1:mk.take d.length=mk:=List.take_of_length_le (by omega)
  rw[e1,List.take_length]at hdl⊢
  simp-implicitDefEqProofs+decide only[go_sem,ofH]
  exact endF.rowT (.inr rfl) (by simp-implicitDefEqProofs+decide only[go_sem];rfl) (by simp-implicitDefEqProofs+decide only[go_sem,ofH];rfl) (by rw[List.length_map]) rfl (by simp-implicitDefEqProofs+decide only[go_sem]) rfl (fun l hp=>by cases l<;>first|rfl|cases hp) rfl
end Go.Fm
/- Dims without some axes, in the program; the dims of reductions. -/
namespace Go.Fm
open Go.Proofs
set_option maxRecDepth 100000
attribute [local irreducible] tiOf

theorem drop_ok (d ax:List Int) (keep:Bool) (hd:d.length<1000000000) (hl:ax.length<9000000000000000000):Pure Tryz.prog 131 [sI d,sI ax,.bool keep] [.t (sI (dropE d ax keep).1),.t (.int .i64 (dropE d ax keep).2)]:=by
 have c1:=check_ok d hd
 refine Pure.I Tryz.func131 [6,7] ?_
 refine SmJ ?_
 refine CallG.P _ Tryz.call106 (c1) ?_
 by_cases hc:chk d=0
 rotate_left
 ·have e:dropE d ax keep=([],chk d):=by unfold dropE;rw[if_pos hc]
  rw[e]
  refine Sm ?_
  refine selP_dec (fun _=> ?_) (fun h=>absurd hc h)
  refine Sm ?_
  exact endF.V [(6,.slice []),(7,.int .i64 (chk d))] (vals_n (by simp-implicitDefEqProofs+decide only[go_sem]) (vals_t (by simp-implicitDefEqProofs+decide only[go_sem]<;>rfl) rfl vals_nil))
 obtain⟨l6,_,_,_⟩:=chk0 hc
 have hc0:decide (chk d=0)=true:=decide_eq_true hc
 by_cases hax:axP d.length ax ax.length
 rotate_left
 ·have e:dropE d ax keep=([],10):=by unfold dropE;rw[if_neg (fun h=>h hc),if_neg hax]
  have c2:=axesS_gen d.length ax _ l6 hl (fun _=>rfl) (fun h=>absurd h hax)
  simp only[sI]at c2
  rw[e]
  refine Sm ?_
  refine selP_dec (fun h=>absurd hc h) (fun _=> ?_)
  simp-implicitDefEqProofs+decide only[go_sem,List.length_map]
  refine CallG.PS _ Tryz.call129 (c2) ?_
  refine Sm ?_
  exact endF.V [(6,.slice []),(7,.int .i64 10)] (vals_n (by simp-implicitDefEqProofs+decide only[go_sem]) (vals_t (by simp-implicitDefEqProofs+decide only[go_sem]<;>rfl) rfl vals_nil))
 have e:dropE d ax keep=(dropL (marksI d.length ax) d keep,0):=by unfold dropE;rw[if_neg (fun h=>h hc),if_pos hax]
 have c2:=axesS_gen d.length ax _ l6 hl (fun h=>absurd hax h) (fun _=>rfl)
 have hml:=marksI_length d.length ax
 rw[e]
 generalize marksI d.length ax=mk at*
 simp only[sI,sB]at c2
 refine Sm ?_
 refine selP_dec (fun h=>absurd hc h) (fun _=> ?_)
 simp-implicitDefEqProofs+decide only[go_sem,List.length_map]
 refine CallG.PS _ Tryz.call129 (c2) ?_
 refine Sm ?_
 refine Goes.wk (Wk.nilRow (d:=11) (lab:=.loc 100 0) (size:=1) (by simp-implicitDefEqProofs+decide only[go_sem]) (by simp-implicitDefEqProofs+decide only[go_sem]) rfl (by decide)) ?_
 refine Goes.loop (X:=Nat) (fun i=>⟨ofL [(2,.t (.bool keep)),(9,.t (sB mk)),(11,.sl (.loc 100 0) (dropL (mk.take i) (d.take i) keep).length 0 (dropL (mk.take i) (d.take i) keep).length),(29,tI d),(30,.t (.int .i64 d.length)),(31,.t (.int .i64 i))],
   ofH (fun _=>none) [(.loc 100 0,.arr 1 ((dropL (mk.take i) (d.take i) keep).map I) (dropL (mk.take i) (d.take i) keep).length 0)],0⟩) (fun i=>i≤d.length) (fun i=>d.length-i) 0 ?_ (by simp) ?_
 ·have h0:=dropL_zero mk d keep
  exact(Wk.rows _ _ (fun _ _=>rfl) rfl rfl (by simp-implicitDefEqProofs+decide only[go_sem,ofH,tW,sW,sB,h0]<;>first|rfl|exact⟨rfl,rfl⟩|skip) (fun l hp=>by cases l<;>first|rfl|cases hp) (by simp-implicitDefEqProofs+decide only[go_sem,tI,sI,tW,sW,sB,h0]<;>first|rfl|skip) (by simp-implicitDefEqProofs+decide only[go_sem,tI,sI,tW,sW]))
 rintro i hi J hJ
 apply run_sound 200
 refine SmI ?_
 have hdl:=dropL_len hml keep i hi
 refine selP_dec (fun hc3=> ?_) (fun hc3=> ?_)
 ·obtain⟨x,hx⟩:=getI (show i<d.length by omega)
  obtain⟨b,hb⟩:=getI (show i<mk.length by omega)
  have hsn:=dropL_snoc keep hx hb
  have hw:=wS (show i<1000000000000 by omega)
  generalize dropL (mk.take i) (d.take i) keep=L at*
  have hnb:L.length+1<big:=by unfold big;omega
  cases b with
  | false =>
    have hsn:dropL (mk.take (i+1)) (d.take (i+1)) keep=L++[x]:=hsn
    have hlen:(L++[x]).length=L.length+1:=by simp
    have hmap:L.map I++[.int .i64 x]=(L++[x]).map I:=by simp[I]
    generalize L++[x]=L' at hsn hlen hmap
    simp-implicitDefEqProofs+decide only[go_sem,sB,ofH,hb,hx,I,hnb,hmap,List.length_map,hw]
    refine hJ (i+1) _ (by omega) (by omega) (Wk.rows _ _ (fun _ _=>rfl) rfl rfl (by simp-implicitDefEqProofs+decide only[go_sem,ofH,tW,sW,sB,hsn,hlen]<;>first|rfl|exact⟨rfl,rfl⟩|skip) (fun l hp=>by cases l<;>first|rfl|cases hp) (by simp-implicitDefEqProofs+decide only[go_sem,tI,sI,tW,sW,sB,hsn,hlen]<;>first|rfl|skip) (by simp-implicitDefEqProofs+decide only[go_sem,tI,sI,tW,sW]))
  | true =>
    cases keep with
    | false =>
      have hsn:dropL (mk.take (i+1)) (d.take (i+1)) false=L:=by rw[hsn];simp
      simp-implicitDefEqProofs+decide only[go_sem,sB,ofH,hb,hx,I,hw]
      refine hJ (i+1) _ (by omega) (by omega) (Wk.rows _ _ (fun _ _=>rfl) rfl rfl (by simp-implicitDefEqProofs+decide only[go_sem,ofH,tW,sW,sB,hsn]<;>first|rfl|exact⟨rfl,rfl⟩|skip) (fun l hp=>by cases l<;>first|rfl|cases hp) (by simp-implicitDefEqProofs+decide only[go_sem,tI,sI,tW,sW,sB,hsn]<;>first|rfl|skip) (by simp-implicitDefEqProofs+decide only[go_sem,tI,sI,tW,sW]))
    | true =>
      have hsn:dropL (mk.take (i+1)) (d.take (i+1)) true=L++[1]:=hsn
      have hlen:(L++[1]).length=L.length+1:=by simp
      have hmap:L.map I++[.int .i64 1]=(L++[1]).map I:=by simp[I]
      generalize L++[1]=L' at hsn hlen hmap
      simp-implicitDefEqProofs+decide only[go_sem,sB,ofH,hb,hx,I,hnb,hmap,List.length_map,hw]
      refine hJ (i+1) _ (by omega) (by omega) (Wk.rows _ _ (fun _ _=>rfl) rfl rfl (by simp-implicitDefEqProofs+decide only[go_sem,ofH,tW,sW,sB,hsn,hlen]<;>first|rfl|exact⟨rfl,rfl⟩|skip) (fun l hp=>by cases l<;>first|rfl|cases hp) (by simp-implicitDefEqProofs+decide only[go_sem,tI,sI,tW,sW,sB,hsn,hlen]<;>first|rfl|skip) (by simp-implicitDefEqProofs+decide only[go_sem,tI,sI,tW,sW]))
 ·obtain rfl:i=d.length:=by omega
  have e1:mk.take d.length=mk:=List.take_of_length_le (by omega)
  rw[e1,List.take_length]at hdl⊢
  simp-implicitDefEqProofs+decide only[go_sem,ofH]
  exact endF.rowT (.inr rfl) (by simp-implicitDefEqProofs+decide only[go_sem];rfl) (by simp-implicitDefEqProofs+decide only[go_sem,ofH];rfl) (by rw[List.length_map]) rfl (by simp-implicitDefEqProofs+decide only[go_sem]) rfl (fun l hp=>by cases l<;>first|rfl|cases hp) rfl

def redB (op:Int):Bool:=decide (27≤op)&&decide (op≤31)
theorem redIs_ok (op:Int):Pure Tryz.prog 194 [.int .i64 op] [.t (.bool (redB op))]:=by
 obtain⟨v,hv⟩:∃v,redB op=v:=⟨_,rfl⟩
 rw[hv]
 unfold redB at hv
 by_cases h1:27≤op
 ·have d1:decide (27≤op)=true:=decide_eq_true h1
  rw[d1,Bool.true_and]at hv
  refine Pure.I Tryz.func194 [2] ?_
  simp-implicitDefEqProofs+decide only[go_sem,d1,hv]
  exact endF.V1 2 (.bool v)
 ·have d1:decide (27≤op)=false:=decide_eq_false h1
  rw[d1,Bool.false_and]at hv
  subst hv
  refine Pure.I Tryz.func194 [2] ?_
  simp-implicitDefEqProofs+decide only[go_sem,d1]
  exact endF.V1 2 (.bool false)
theorem axesI_len (op:Int) (x:Atr) (h:x.list.length<9000000000000000000):(axesI op x).length<9000000000000000000:=by
 unfold axesI;split
 ·exact h
 ·simp
noncomputable def redE (op:Int) (x:Atr) (d:List Int):List Int×Int:=if redB op=true then dropE d (axesI op x) x.keep else ([],14)
theorem redDims_ok (op:Int) (x:Atr) (d:List Int) (hd:d.length<1000000000) (hl:x.list.length<9000000000000000000):Pure Tryz.prog 128 [.int .i64 op,x.T,sI d] [.t (sI (redE op x d).1),.t (.int .i64 (redE op x d).2)]:=by
 have c1:=redIs_ok op
 have c2:=axes_ok op x
 have c3:=drop_ok d (axesI op x) x.keep hd (axesI_len op x hl)
 unfold redE
 cases hr:redB op with
 | false =>
   rw[hr]at c1
   rw[if_neg (by simp)]
   refine Pure.I Tryz.func128 [6,7] ?_
   simp-implicitDefEqProofs+decide only[go_sem,sI,Atr.T,I]
   refine CallG.P _ Tryz.call194 (c1) ?_
   refine Sm ?_
   exact endF.V [(6,.slice []),(7,.int .i64 14)] (vals_n (by simp-implicitDefEqProofs+decide only[go_sem]) (vals_t (by simp-implicitDefEqProofs+decide only[go_sem]<;>rfl) rfl vals_nil))
 | true =>
   rw[hr]at c1
   rw[if_pos rfl]
   generalize dropE d (axesI op x) x.keep=q at*
   generalize axesI op x=ax at*
   obtain⟨l,e⟩:=q
   obtain⟨a1,a2,a3,a4,a5,a6,a7,a8,ak,al⟩:=x
   dsimp only at c3⊢
   simp only[Atr.T,sI,I]at c2 c3
   refine Pure.I Tryz.func128 [6,7] ?_
   simp-implicitDefEqProofs+decide only[go_sem,sI,Atr.T,I]
   refine CallG.P _ Tryz.call194 (c1) ?_
   refine Sm ?_
   refine Goes.drawN mixed ?_
   refine Sm ?_
   refine CallD.pureS _ Tryz.call130 c2 (by simp only[List.all_cons,List.all_nil,noPtr,noPtrL,noPtr_sW,noPtr_sI,noPtr_sV,noPtrL_U,noPtrL_I,noPtrL_vT,I,List.map_cons,List.map_nil,Bool.and_true,Bool.and_self]) (by first|rfl|(simp only[go_sem];done)|(simp only[go_sem];rfl)) ?_
   refine Sm ?_
   refine CallD.pureS _ Tryz.call131 c3 (by simp only[List.all_cons,List.all_nil,noPtr,noPtrL,noPtr_sW,noPtr_sI,noPtr_sV,noPtrL_U,noPtrL_I,noPtrL_vT,I,List.map_cons,List.map_nil,Bool.and_true,Bool.and_self]) (by first|rfl|(simp only[go_sem];done)|(simp only[go_sem];rfl)) ?_
   refine Sm ?_
   refine⟨.mk (by kernel_rfl),?_⟩
   apply run_sound 200
   refine Sm ?_
   exact endF.V [(6,.slice (l.map I)),(7,.int .i64 e)] (vals_t (by simp-implicitDefEqProofs+decide only[go_sem]<;>rfl) rfl (vals_t (by simp-implicitDefEqProofs+decide only[go_sem]<;>rfl) rfl vals_nil))
theorem rRedDims_ok (op:Int) (x:Atr) (d:List Int) (hd:d.length<1000000000) (hl:x.list.length<9000000000000000000):Pure Tryz.prog 24 [.int .i64 op,x.T,sI d] [.t (sI (redE op x d).1),.t (.int .i64 (redE op x d).2)]:=by
 have c2:=rAxesOf_ok op x
 have c3:=rDrop_ok d (axesI op x) x.keep hd (axesI_len op x hl)
 unfold redE
 cases hr:redB op with
 | false =>
   rw[if_neg (by simp)]
   unfold redB at hr
   by_cases h1:op<27
   ·have d1:decide (op<27)=true:=decide_eq_true h1
    refine Pure.I Tryz.func24 [6,7] ?_
    simp-implicitDefEqProofs+decide only[go_sem,sI,Atr.T,I,d1]
    exact endF.V [(6,.slice []),(7,.int .i64 14)] (vals_n (by simp-implicitDefEqProofs+decide only[go_sem]) (vals_t (by simp-implicitDefEqProofs+decide only[go_sem]<;>rfl) rfl vals_nil))
   ·have d1:decide (op<27)=false:=decide_eq_false h1
    have d2:decide (31<op)=true:=decide_eq_true (by
      simp at hr;omega)
    refine Pure.I Tryz.func24 [6,7] ?_
    simp-implicitDefEqProofs+decide only[go_sem,sI,Atr.T,I,d1,d2]
    exact endF.V [(6,.slice []),(7,.int .i64 14)] (vals_n (by simp-implicitDefEqProofs+decide only[go_sem]) (vals_t (by simp-implicitDefEqProofs+decide only[go_sem]<;>rfl) rfl vals_nil))
 | true =>
   rw[if_pos rfl]
   unfold redB at hr
   simp only[Bool.and_eq_true,decide_eq_true_eq]at hr
   have d1:decide (op<27)=false:=decide_eq_false (by omega)
   have d2:decide (31<op)=false:=decide_eq_false (by omega)
   generalize dropE d (axesI op x) x.keep=q at*
   generalize axesI op x=ax at*
   obtain⟨l,e⟩:=q
   obtain⟨a1,a2,a3,a4,a5,a6,a7,a8,ak,al⟩:=x
   dsimp only at c3⊢
   simp only[Atr.T,sI,I]at c2 c3
   refine Pure.I Tryz.func24 [6,7] ?_
   simp-implicitDefEqProofs+decide only[go_sem,sI,Atr.T,I,d1,d2]
   refine Goes.drawN mixed ?_
   refine Sm ?_
   refine CallD.pureS _ Tryz.call77 c2 (by simp only[List.all_cons,List.all_nil,noPtr,noPtrL,noPtr_sW,noPtr_sI,noPtr_sV,noPtrL_U,noPtrL_I,noPtrL_vT,I,List.map_cons,List.map_nil,Bool.and_true,Bool.and_self]) (by first|rfl|(simp only[go_sem];done)|(simp only[go_sem];rfl)) ?_
   refine Sm ?_
   refine CallD.pureS _ Tryz.call76 c3 (by simp only[List.all_cons,List.all_nil,noPtr,noPtrL,noPtr_sW,noPtr_sI,noPtr_sV,noPtrL_U,noPtrL_I,noPtrL_vT,I,List.map_cons,List.map_nil,Bool.and_true,Bool.and_self]) (by first|rfl|(simp only[go_sem];done)|(simp only[go_sem];rfl)) ?_
   refine Sm ?_
   refine⟨.mk (by kernel_rfl),?_⟩
   apply run_sound 200
   refine Sm ?_
   exact endF.V [(6,.slice (l.map I)),(7,.int .i64 e)] (vals_t (by simp-implicitDefEqProofs+decide only[go_sem]<;>rfl) rfl (vals_t (by simp-implicitDefEqProofs+decide only[go_sem]<;>rfl) rfl vals_nil))
end Go.Fm
