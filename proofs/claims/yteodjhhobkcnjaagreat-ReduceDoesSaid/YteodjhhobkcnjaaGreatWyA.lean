/- Comparisons of scalars, exact or of doubles: the program's bank. -/
import Derived.Test.YteodjhhobkcnjaaGreatVyA
import Derived.Test.YteodjhhobkcnjaaGreatRyB
import Derived.Test.YteodjhhobkcnjaaGreatByA
set_option linter.unusedVariables false
set_option linter.unusedSimpArgs false
namespace Go.Fm
open Go.Proofs
set_option maxRecDepth 100000
attribute [local irreducible] tiOf

theorem QB_sub {r s:Rat} {a b:Nat} (hr:QB r a) (hs:QB s b):QB (r-s) (a+b+1):=by
 rw[Rat.sub_eq_add_neg]
 exact QB_add hr ⟨by rw[show(-s).num= -s.num from rfl,Int.natAbs_neg];exact hs.n,hs.d⟩
theorem cmp_okQ (r s:Rat) (hr:QB r 10000000) (hs:QB s 10000000):Pure Tryz.prog 195 [(qR r).T,(qR s).T] [.t (.int .i64 (sgnI (r-s)))]:=by
 have c1:=sub_okQ r s hr hs
 have c2:=sgn_okQ (r-s) ((QB_sub hr hs).mono (by decide))
 generalize r-s=t at c1 c2⊢
 rw[qT]at c2
 rw[qT,qT,qT]at c1
 rw[qT,qT]
 refine Pure.I Tryz.func195 [4] ?_
 refine Sm ?_
 refine CallG.PS _ Tryz.call216 (c1) ?_
 refine Sm ?_
 refine CallG.P _ Tryz.call185 (c2) ?_
 refine Sm ?_
 exact endF.V1 4 (.int .i64 (sgnI t))
theorem sgnI_neg (r s:Rat):decide (sgnI (r-s)<0)=decide (r<s):=by
 refine decide_eq_decide.2 ?_
 have h:(r-s).num<0↔r<s:=by
  have h0:0≤(r-s).num↔s≤r:=by rw[Rat.num_nonneg,←Rat.le_iff_sub_nonneg]
  rw[←Rat.not_le,←h0];omega
 rw[←h]
 unfold sgnI
 split
 ·omega
 ·split<;>omega
theorem sgnI_zero (r s:Rat):decide (sgnI (r-s)=0)=decide (r=s):=by
 refine decide_eq_decide.2 ?_
 have h:(r-s).num=0↔r=s:=by
  rw[Rat.num_eq_zero]
  constructor
  ·intro h
   have:r-s+s=0+s:=by rw[h]
   rwa [Rat.sub_add_cancel,Rat.zero_add]at this
  ·intro h;rw[h,Rat.sub_self]
 rw[←h]
 unfold sgnI
 split
 ·omega
 ·split<;>omega
theorem rat_tie (r s:Rat):decide (r=s)=(!decide (r<s)&& !decide (s<r)):=by
 by_cases h:r=s
 ·subst h
  have:¬r<r:=Rat.lt_irrefl
  simp[this]
 ·rw[decide_eq_false h]
  rcases Rat.le_total (a:=r) (b:=s) with g|g
  ·have:r<s:=Rat.lt_of_le_of_ne g h
   simp[this]
  ·have:s<r:=Rat.lt_of_le_of_ne g (fun e=>h e.symm)
   simp[this]

def lessV:Vx→Vx→Bool
 |.q r,.q s=>decide (r<s)
 |.d a,.d b=>lessD a b
 |_,_=>false
structure Bs where
 k:Nat
 met:List Bool
 tie:Bool
def lessS (s:Bs) (x y:Vx):Bs:=⟨s.k,s.met++[lessV x y],s.tie||(!lessV x y&& !lessV y x)⟩
def mtC (id f:Nat):List Bool→AV
 |[]=>.nil
 |_::l=>.sl (.fld id f) l.length 0 (l.length+1)
def mtR:List Bool→Option Obj
 |[]=>none
 |b::l=>some (.arr 1 ((b::l).map T.bool) l.length 0)
def obG (id:Nat) (md:Int) (s:Bs):Obj:=bankG md (mtC id 4 s.met) s.k s.tie
def obR (id:Nat) (md:Int) (s:Bs):Obj:=bankR md (mtC id 3 s.met) s.k s.tie
structure BkM (h:Heap) (id f:Nat) (o:Obj) (met:List Bool):Prop where
 hb:∀l,Lab.pool l=false→h l=none
 o:h (.obj id)=some o
 f:h (.fld id f)=mtR met
def bkU (h:Heap) (id f:Nat) (o:Obj) (met:List Bool):Heap:=upd (upd h (.obj id) (some o)) (.fld id f) (mtR met)
section
variable {h:Heap} {id f:Nat} {o o':Obj} {met met':List Bool}
theorem bkU_hb (hb:∀l,Lab.pool l=false→h l=none):∀l,Lab.pool l=false→bkU h id f o met l=none:=fun l hp=>by
 unfold bkU
 rw[upd_ne _ _ _ _ (fun e=>by subst e;cases hp),upd_ne _ _ _ _ (fun e=>by subst e;cases hp)]
 exact hb l hp
theorem bkU_M (hb:∀l,Lab.pool l=false→h l=none):BkM (bkU h id f o met) id f o met:=
 ⟨bkU_hb hb,by unfold bkU;rw[upd_ne _ _ _ _ (fun e=>by cases e),upd_same],by unfold bkU;rw[upd_same]⟩
theorem bkU_U:bkU (bkU h id f o met) id f o' met'=bkU h id f o' met':=by
 funext l
 unfold bkU
 by_cases e1:l=.fld id f
 ·subst e1;rw[upd_same,upd_same]
 ·rw[upd_ne _ _ _ _ e1,upd_ne _ _ _ _ e1]
  by_cases e2:l=.obj id
  ·subst e2;rw[upd_same,upd_same]
  ·rw[upd_ne _ _ _ _ e2,upd_ne _ _ _ _ e1,upd_ne _ _ _ _ e2,upd_ne _ _ _ _ e2]
theorem bkU_up:upd (bkU h id f o met) (.obj id) (some o')=bkU h id f o' met:=by
 funext l
 unfold bkU
 by_cases e1:l=.fld id f
 ·subst e1;rw[upd_ne _ _ _ _ (fun e=>by cases e),upd_same,upd_same]
 ·rw[upd_ne _ (Lab.fld id f) _ _ e1]
  by_cases e2:l=.obj id
  ·subst e2;rw[upd_same,upd_same]
  ·rw[upd_ne _ _ _ _ e2,upd_ne _ _ _ _ e1,upd_ne _ _ _ _ e2,upd_ne _ _ _ _ e2]
theorem bkU_self (B:BkM h id f o met):bkU h id f o met=h:=by
 funext l
 unfold bkU
 by_cases e1:l=.fld id f
 ·subst e1;rw[upd_same,B.f]
 ·rw[upd_ne _ _ _ _ e1]
  by_cases e2:l=.obj id
  ·subst e2;rw[upd_same,B.o]
  ·rw[upd_ne _ _ _ _ e2]
theorem BkM.up (B:BkM h id f o met):upd h (.obj id) (some o')=bkU h id f o' met:=by
 conv=>lhs;rw[←bkU_self B]
 exact bkU_up
theorem bkU_keeps {c c':List AV} (B:BkM h id f (.box c) met):Keeps h (bkU h id f (.box c') met'):=by
 refine⟨fun id' cs hc=> ?_,fun i o hc=> ?_⟩
 ·unfold bkU
  rw[upd_ne _ _ _ _ (fun e=>by cases e)]
  by_cases e:Lab.obj id'=.obj id
  ·rw[e,upd_same];exact⟨_,rfl⟩
  ·rw[upd_ne _ _ _ _ e];exact⟨_,hc⟩
 ·unfold bkU
  rw[upd_ne _ _ _ _ (fun e=>by cases e),upd_ne _ _ _ _ (fun e=>by cases e)]
  exact⟨_,hc,ArgStep.refl _⟩
theorem bkU_writes {r:Obj} (hr:mtR met'=some r) (l:Lab):bkU h id f o' met' l=writes (bkU h id f o met) [(.obj id,o'),(.fld id f,r)] l:=by
 show _=upd (upd (bkU h id f o met) (.obj id) (some o')) (.fld id f) (some r) l
 rw[←hr]
 show _=bkU (bkU h id f o met) id f o' met' l
 rw[bkU_U]
end
theorem mtR_snoc (l:List Bool) (b:Bool):∃o,mtR (l++[b])=some o:=by cases l<;>exact⟨_,rfl⟩

set_option maxHeartbeats 2000000 in
theorem lessQ_ok (h:Heap) (m id k:Nat) (met:List Bool) (tie:Bool) (x y:Rat) (B:BkM h id 4 (bankG 0 (mtC id 4 met) k tie) met) (hml:met.length<60000) (hx:QB x 10000000) (hy:QB y 10000000):
  Ret Tryz.prog 132 [.ptr id,vT x,vT y] h m [.t (.bool (decide (x<y)))] (bkU h id 4 (bankG 0 (mtC id 4 (met++[decide (x<y)])) k (tie||decide (x=y))) (met++[decide (x<y)])) m:=by
 have c1:=failsG_ok h m id k 0 (mtC id 4 met) tie B.hb B.o
 have c2:=cmp_okQ x y hx hy
 have s1:=sgnI_neg x y
 have s2:=sgnI_zero x y
 rw[qT,qT]at c2
 generalize sgnI (x-y)=sg at c2 s1 s2
 generalize decide (x<y)=b at*
 generalize decide (x=y)=z at*
 have hl:∀d j,h (.loc d j)=none:=fun d j=>B.hb _ rfl
 have ho:=B.o
 have hf:=B.f
 refine Ret.intro Tryz.func132 rfl (rt:=[6]) rfl (by simp[Tryz.ntmps132]) (by decide) (sites:=fun _=>false) (bkU_hb B.hb) (bkU_keeps B) ?_
 simp only[vT_eq]
 unfold bankG at ho
 cases met with
 | nil =>
   simp only[mtC,mtR]at ho hf
   apply run_sound 200
   simp-implicitDefEqProofs+decide only[go_sem,hl]
   refine CallG.pool _ Tryz.call117 c1 B.hb (by rintro (_|_|_|_|_) hp<;>first|(cases hp;done)|simp-implicitDefEqProofs+decide only[go_sem,hl]) ?_
   apply run_sound 200
   simp-implicitDefEqProofs+decide only[go_sem,ho,hl]
   refine CallG.P _ Tryz.call195 (c2) ?_
   cases tie
   ·simp-implicitDefEqProofs+decide only[go_sem,ho,hf,hl,s1,s2]
    exact endF.oneH (.inr rfl) (by simp-implicitDefEqProofs+decide only[go_sem]) rfl (by rintro (_|_|_|_|_) hp<;>first|(cases hp;done)|simp-implicitDefEqProofs+decide only[go_sem,bkU,bankG,mtC,mtR,Bool.false_or,Bool.true_or,Bool.not_true,Bool.not_false,Bool.and_true,Bool.and_false,Bool.false_and,Bool.true_and,List.map_cons,List.map_nil,List.length_nil]) rfl
   ·simp-implicitDefEqProofs+decide only[go_sem,ho,hf,hl,s1,s2]
    exact endF.oneH (.inr rfl) (by simp-implicitDefEqProofs+decide only[go_sem]) rfl (by rintro (_|_|_|_|_) hp<;>first|(cases hp;done)|simp-implicitDefEqProofs+decide only[go_sem,bkU,bankG,mtC,mtR,Bool.false_or,Bool.true_or,Bool.not_true,Bool.not_false,Bool.and_true,Bool.and_false,Bool.false_and,Bool.true_and,List.map_cons,List.map_nil,List.length_nil]) rfl
 | cons a l =>
   have e1:(a::l)++[b]=a::(l++[b]):=rfl
   have e2:(l++[b]).length=l.length+1:=by simp
   have e4:((a::l).map T.bool).length=l.length+1:=by simp
   have hn:decide ((65536:Int)≤((l.length+1:Nat):Int))=false:=decide_eq_false (by simp at hml;omega)
   have hnb:l.length+1+1<big:=by unfold big;simp at hml;omega
   rw[e1]
   simp only[mtC,mtR]at ho hf
   apply run_sound 200
   simp-implicitDefEqProofs+decide only[go_sem,hl]
   refine CallG.pool _ Tryz.call117 c1 B.hb (by rintro (_|_|_|_|_) hp<;>first|(cases hp;done)|simp-implicitDefEqProofs+decide only[go_sem,hl]) ?_
   apply run_sound 200
   simp-implicitDefEqProofs+decide only[go_sem,ho,hf,hl,hn]
   refine CallG.P _ Tryz.call195 (c2) ?_
   cases tie
   ·simp-implicitDefEqProofs+decide only[go_sem,ho,hf,hl,s1,s2,e4,hnb]
    exact endF.oneH (.inr rfl) (by simp-implicitDefEqProofs+decide only[go_sem]) rfl (by rintro (_|_|_|_|_) hp<;>first|(cases hp;done)|simp-implicitDefEqProofs+decide only[go_sem,bkU,bankG,mtC,mtR,Bool.false_or,Bool.true_or,Bool.not_true,Bool.not_false,Bool.and_true,Bool.and_false,Bool.false_and,Bool.true_and,List.map_cons,List.map_append,List.map_nil,e2]) rfl
   ·simp-implicitDefEqProofs+decide only[go_sem,ho,hf,hl,s1,s2,e4,hnb]
    exact endF.oneH (.inr rfl) (by simp-implicitDefEqProofs+decide only[go_sem]) rfl (by rintro (_|_|_|_|_) hp<;>first|(cases hp;done)|simp-implicitDefEqProofs+decide only[go_sem,bkU,bankG,mtC,mtR,Bool.false_or,Bool.true_or,Bool.not_true,Bool.not_false,Bool.and_true,Bool.and_false,Bool.false_and,Bool.true_and,List.map_cons,List.map_append,List.map_nil,e2]) rfl
set_option maxHeartbeats 2000000 in
theorem lessDD_ok (h:Heap) (m id k:Nat) (met:List Bool) (tie:Bool) (x y:Nat) (B:BkM h id 4 (bankG 1 (mtC id 4 met) k tie) met) (hml:met.length<60000) (hx:x<18446744073709551616) (hy:y<18446744073709551616):
  Ret Tryz.prog 132 [.ptr id,(Vx.d x).T,(Vx.d y).T] h m [.t (.bool (lessD x y))] (bkU h id 4 (bankG 1 (mtC id 4 (met++[lessD x y])) k (tie||(!lessD x y&& !lessD y x))) (met++[lessD x y])) m:=by
 have c1:=failsG_ok h m id k 1 (mtC id 4 met) tie B.hb B.o
 have c2:=fless_ok x y hx hy
 have c3:=fless_ok y x hy hx
 generalize lessD x y=b at*
 generalize lessD y x=z at*
 have hl:∀d j,h (.loc d j)=none:=fun d j=>B.hb _ rfl
 have ho:=B.o
 have hf:=B.f
 refine Ret.intro Tryz.func132 rfl (rt:=[6]) rfl (by simp[Tryz.ntmps132]) (by decide) (sites:=fun _=>false) (bkU_hb B.hb) (bkU_keeps B) ?_
 simp only[Vx_d]
 unfold bankG at ho
 cases met with
 | nil =>
   simp only[mtC,mtR]at ho hf
   apply run_sound 200
   simp-implicitDefEqProofs+decide only[go_sem,hl]
   refine CallG.pool _ Tryz.call117 c1 B.hb (by rintro (_|_|_|_|_) hp<;>first|(cases hp;done)|simp-implicitDefEqProofs+decide only[go_sem,hl]) ?_
   apply run_sound 200
   simp-implicitDefEqProofs+decide only[go_sem,ho,hl]
   refine CallG.P _ Tryz.call196 (c2) ?_
   cases tie
   ·cases b
    ·simp-implicitDefEqProofs+decide only[go_sem,ho,hf,hl]
     refine CallG.P _ Tryz.call196 (c3) ?_
     simp-implicitDefEqProofs+decide only[go_sem,ho,hf,hl]
     exact endF.oneH (.inr rfl) (by simp-implicitDefEqProofs+decide only[go_sem]) rfl (by rintro (_|_|_|_|_) hp<;>first|(cases hp;done)|simp-implicitDefEqProofs+decide only[go_sem,bkU,bankG,mtC,mtR,Bool.false_or,Bool.true_or,Bool.not_true,Bool.not_false,Bool.and_true,Bool.and_false,Bool.false_and,Bool.true_and,List.map_cons,List.map_nil,List.length_nil]) rfl
    ·simp-implicitDefEqProofs+decide only[go_sem,ho,hf,hl]
     exact endF.oneH (.inr rfl) (by simp-implicitDefEqProofs+decide only[go_sem]) rfl (by rintro (_|_|_|_|_) hp<;>first|(cases hp;done)|simp-implicitDefEqProofs+decide only[go_sem,bkU,bankG,mtC,mtR,Bool.false_or,Bool.true_or,Bool.not_true,Bool.not_false,Bool.and_true,Bool.and_false,Bool.false_and,Bool.true_and,List.map_cons,List.map_nil,List.length_nil]) rfl
   ·simp-implicitDefEqProofs+decide only[go_sem,ho,hf,hl]
    exact endF.oneH (.inr rfl) (by simp-implicitDefEqProofs+decide only[go_sem]) rfl (by rintro (_|_|_|_|_) hp<;>first|(cases hp;done)|simp-implicitDefEqProofs+decide only[go_sem,bkU,bankG,mtC,mtR,Bool.false_or,Bool.true_or,Bool.not_true,Bool.not_false,Bool.and_true,Bool.and_false,Bool.false_and,Bool.true_and,List.map_cons,List.map_nil,List.length_nil]) rfl
 | cons a l =>
   have e1:(a::l)++[b]=a::(l++[b]):=rfl
   have e2:(l++[b]).length=l.length+1:=by simp
   have e4:((a::l).map T.bool).length=l.length+1:=by simp
   have hn:decide ((65536:Int)≤((l.length+1:Nat):Int))=false:=decide_eq_false (by simp at hml;omega)
   have hnb:l.length+1+1<big:=by unfold big;simp at hml;omega
   rw[e1]
   simp only[mtC,mtR]at ho hf
   apply run_sound 200
   simp-implicitDefEqProofs+decide only[go_sem,hl]
   refine CallG.pool _ Tryz.call117 c1 B.hb (by rintro (_|_|_|_|_) hp<;>first|(cases hp;done)|simp-implicitDefEqProofs+decide only[go_sem,hl]) ?_
   apply run_sound 200
   simp-implicitDefEqProofs+decide only[go_sem,ho,hf,hl,hn]
   refine CallG.P _ Tryz.call196 (c2) ?_
   cases tie
   ·cases b
    ·simp-implicitDefEqProofs+decide only[go_sem,ho,hf,hl,e4,hnb]
     refine CallG.P _ Tryz.call196 (c3) ?_
     simp-implicitDefEqProofs+decide only[go_sem,ho,hf,hl,e4,hnb]
     exact endF.oneH (.inr rfl) (by simp-implicitDefEqProofs+decide only[go_sem]) rfl (by rintro (_|_|_|_|_) hp<;>first|(cases hp;done)|simp-implicitDefEqProofs+decide only[go_sem,bkU,bankG,mtC,mtR,Bool.false_or,Bool.true_or,Bool.not_true,Bool.not_false,Bool.and_true,Bool.and_false,Bool.false_and,Bool.true_and,List.map_cons,List.map_append,List.map_nil,e2]) rfl
    ·simp-implicitDefEqProofs+decide only[go_sem,ho,hf,hl,e4,hnb]
     exact endF.oneH (.inr rfl) (by simp-implicitDefEqProofs+decide only[go_sem]) rfl (by rintro (_|_|_|_|_) hp<;>first|(cases hp;done)|simp-implicitDefEqProofs+decide only[go_sem,bkU,bankG,mtC,mtR,Bool.false_or,Bool.true_or,Bool.not_true,Bool.not_false,Bool.and_true,Bool.and_false,Bool.false_and,Bool.true_and,List.map_cons,List.map_append,List.map_nil,e2]) rfl
   ·simp-implicitDefEqProofs+decide only[go_sem,ho,hf,hl,e4,hnb]
    exact endF.oneH (.inr rfl) (by simp-implicitDefEqProofs+decide only[go_sem]) rfl (by rintro (_|_|_|_|_) hp<;>first|(cases hp;done)|simp-implicitDefEqProofs+decide only[go_sem,bkU,bankG,mtC,mtR,Bool.false_or,Bool.true_or,Bool.not_true,Bool.not_false,Bool.and_true,Bool.and_false,Bool.false_and,Bool.true_and,List.map_cons,List.map_append,List.map_nil,e2]) rfl
theorem lessG_ok (h:Heap) (m id:Nat) (md:Int) (s:Bs) (x y:Vx) (B:BkM h id 4 (obG id md s) s.met) (hml:s.met.length<60000) (mx:x.md=md) (my:y.md=md) (bx:x.B 10000000) (by':y.B 10000000):
  Ret Tryz.prog 132 [.ptr id,x.T,y.T] h m [.t (.bool (lessV x y))] (bkU h id 4 (obG id md (lessS s x y)) (lessS s x y).met) m:=by
 subst mx
 cases x with
 | q r => cases y with
   | q t =>
     have c:=lessQ_ok h m id s.k s.met s.tie r t B hml bx by'
     rw[rat_tie]at c
     exact c
   |d b=>simp[Vx.md]at my
 | d a => cases y with
   |q t=>simp[Vx.md]at my
   |d b=>exact lessDD_ok h m id s.k s.met s.tie a b B hml bx by'
end Go.Fm
/- Comparisons of scalars, exact or of doubles: the reference. -/
namespace Go.Fm
open Go.Proofs
set_option maxRecDepth 100000
attribute [local irreducible] tiOf

theorem dLess_ok (a b:Nat) (ha:a<18446744073709551616) (hb:b<18446744073709551616):Pure Tryz.prog 198 [.int .u64 a,.int .u64 b] [.t (.bool (lessD a b))]:=by
 have c1:=dKind_ok a ha
 have c2:=dKind_ok b hb
 have n1:=dNeg_ok a ha
 have n2:=dNeg_ok b hb
 obtain⟨r,hr⟩:∃r,lessD a b=r:=⟨_,rfl⟩
 rw[hr]
 unfold lessD keyD at hr
 unfold negD at n1 n2
 generalize kindD a=k at*
 generalize kindD b=l at*
 refine Pure.I Tryz.func198 [4] ?_
 refine Sm ?_
 refine CallG.P _ Tryz.call211 (c1) ?_
 by_cases h1:k=4
 ·have d1:decide (k=4)=true:=decide_eq_true h1
  rw[decide_eq_false (fun h=>h h1),Bool.false_and,Bool.false_and]at hr
  subst hr
  simp-implicitDefEqProofs+decide only[go_sem,d1]
  exact endF.V1 4 (.bool false)
 have d1:decide (k=4)=false:=decide_eq_false h1
 simp-implicitDefEqProofs+decide only[go_sem,d1]
 refine CallG.P _ Tryz.call211 (c2) ?_
 by_cases h2:l=4
 ·have d2:decide (l=4)=true:=decide_eq_true h2
  rw[decide_eq_false (p:=¬l=4) (fun h=>h h2),Bool.and_false,Bool.false_and]at hr
  subst hr
  simp-implicitDefEqProofs+decide only[go_sem,d2]
  exact endF.V1 4 (.bool false)
 have d2:decide (l=4)=false:=decide_eq_false h2
 rw[decide_eq_true h1,decide_eq_true h2,Bool.and_self,Bool.true_and]at hr
 simp-implicitDefEqProofs+decide only[go_sem,d2]
 refine CallG.P _ Tryz.call227 (n1) ?_
 refine Sm ?_
 refine CallG.P _ Tryz.call227 (n2) ?_
 by_cases g1:9223372036854775808≤a
 ·rw[if_pos g1]at hr
  have e1:decide (9223372036854775808≤a)=true:=decide_eq_true g1
  by_cases g2:9223372036854775808≤b
  ·rw[if_pos g2]at hr
   have e2:decide (9223372036854775808≤b)=true:=decide_eq_true g2
   have e3:decide (b<a)=r:=by rw[←hr];exact decide_eq_decide.2 (by omega)
   simp-implicitDefEqProofs+decide only[go_sem,e1,e2]
   exact endF.V [(4,.bool r)] (vals_t (by simp-implicitDefEqProofs+decide only[go_sem,e3]<;>rfl) rfl vals_nil)
  ·rw[if_neg g2]at hr
   have e2:decide (9223372036854775808≤b)=false:=decide_eq_false g2
   simp-implicitDefEqProofs+decide only[go_sem,e1,e2]
   by_cases g3:a=9223372036854775808
   ·have e3:decide ((b:Int)≠0)=r:=by rw[←hr];exact decide_eq_decide.2 (by omega)
    subst g3
    simp-implicitDefEqProofs+decide only[go_sem,e3]
    exact endF.V [(4,.bool r)] (vals_t (by simp-implicitDefEqProofs+decide only[go_sem,e3]<;>rfl) rfl vals_nil)
   ·have e3:decide ((a:Int)≠9223372036854775808)=true:=decide_eq_true (by omega)
    have e4:r=true:=by rw[←hr];exact decide_eq_true (by omega)
    subst e4
    simp-implicitDefEqProofs+decide only[go_sem,e3]
    exact endF.V [(4,.bool true)] (vals_t (by simp-implicitDefEqProofs+decide only[go_sem,e3]<;>rfl) rfl vals_nil)
 ·rw[if_neg g1]at hr
  have e1:decide (9223372036854775808≤a)=false:=decide_eq_false g1
  by_cases g2:9223372036854775808≤b
  ·rw[if_pos g2]at hr
   have e2:decide (9223372036854775808≤b)=true:=decide_eq_true g2
   have e4:r=false:=by rw[←hr];exact decide_eq_false (by omega)
   subst e4
   simp-implicitDefEqProofs+decide only[go_sem,e1,e2]
   exact endF.V1 4 (.bool false)
  ·rw[if_neg g2]at hr
   have e2:decide (9223372036854775808≤b)=false:=decide_eq_false g2
   have e3:decide (a<b)=r:=by rw[←hr];exact decide_eq_decide.2 (by omega)
   simp-implicitDefEqProofs+decide only[go_sem,e1,e2]
   exact endF.V [(4,.bool r)] (vals_t (by simp-implicitDefEqProofs+decide only[go_sem,e3]<;>rfl) rfl vals_nil)
theorem sgnI_pos (r s:Rat):decide (0<sgnI (r-s))=decide (s<r):=by
 have h1:=sgnI_neg r s
 have h2:=sgnI_zero r s
 have h3:=rat_tie r s
 have h4:=rat_tie s r
 by_cases g1:sgnI (r-s)<0
 ·rw[decide_eq_true g1]at h1
  have:r<s:=of_decide_eq_true h1.symm
  rw[decide_eq_false (by omega)]
  exact(decide_eq_false (fun h=>(Rat.le_total (a:=r) (b:=s)).elim (Rat.not_le.2 h) (Rat.not_le.2 this))).symm
 ·rw[decide_eq_false g1]at h1
  by_cases g2:sgnI (r-s)=0
  ·rw[decide_eq_true g2]at h2
   have:r=s:=of_decide_eq_true h2.symm
   subst this
   rw[decide_eq_false (by omega)]
   exact(decide_eq_false Rat.lt_irrefl).symm
  ·rw[decide_eq_false g2]at h2
   rw[←h1,←h2]at h3
   rw[decide_eq_true (by omega)]
   cases hd:decide (s<r)
   ·rw[hd]at h3;simp at h3
   ·rfl
set_option maxHeartbeats 2000000 in
theorem lessRQ_ok (h:Heap) (m id k:Nat) (met:List Bool) (tie:Bool) (x y:Rat) (B:BkM h id 3 (bankR 0 (mtC id 3 met) k tie) met) (hml:met.length<60000) (hx:QB x 40000) (hy:QB y 40000) (zx:ZB x 30000) (zy:ZB y 30000):
  Ret Tryz.prog 133 [.ptr id,vT x,vT y] h m [.t (.bool (decide (x<y)))] (bkU h id 3 (bankR 0 (mtC id 3 (met++[decide (x<y)])) k (tie||(!decide (x<y)&& !decide (y<x)))) (met++[decide (x<y)])) m:=by
 have c1:Pure Tryz.prog 198 [.int .u64 0,.int .u64 0] [.t (.bool false)]:=by
  have c:=dLess_ok 0 0 (by decide) (by decide)
  rw[show lessD 0 0=false by decide+kernel]at c
  exact c
 have c2:=rCmp_okQ x y hx hy zx zy
 have s1:=sgnI_neg x y
 have s2:=sgnI_pos x y
 rw[qT,qT]at c2
 generalize sgnI (x-y)=sg at c2 s1 s2
 generalize decide (x<y)=b at*
 generalize decide (y<x)=z at*
 have hb:=B.hb
 have hl:∀d j,h (.loc d j)=none:=fun d j=>hb _ rfl
 have ho:=B.o
 have hf:=B.f
 refine Ret.intro Tryz.func133 rfl (rt:=[6]) rfl (by simp[Tryz.ntmps133]) (by decide) (sites:=fun _=>false) (bkU_hb B.hb) (bkU_keeps B) ?_
 simp only[vT_eq]
 unfold bankR at ho
 cases met with
 | nil =>
   simp only[mtC,mtR]at ho hf
   apply run_sound 200
   simp-implicitDefEqProofs+decide only[go_sem,ho,hl]
   refine Goes.drawN mixed ?_
   simp-implicitDefEqProofs+decide only[go_sem,hl,ho,hf]
   refine CallD.P _ Tryz.call198 c1 ?_
   simp-implicitDefEqProofs+decide only[go_sem,hl]
   refine CallD.P _ Tryz.call198 c1 ?_
   refine Sm ?_
   refine⟨.mk (by kernel_rfl),?_⟩
   apply run_sound 200
   simp-implicitDefEqProofs+decide only[go_sem,ho,hf,hl]
   refine CallG.P _ Tryz.call199 (c2) ?_
   cases tie
   ·cases b
    ·simp-implicitDefEqProofs+decide only[go_sem,ho,hf,hl,s1,s2]
     exact endF.oneH (.inr rfl) (by simp-implicitDefEqProofs+decide only[go_sem]) rfl (by rintro (_|_|_|_|_) hp<;>first|(cases hp;done)|simp-implicitDefEqProofs+decide only[go_sem,bkU,bankR,mtC,mtR,Bool.false_or,Bool.true_or,Bool.not_true,Bool.not_false,Bool.and_true,Bool.and_false,Bool.false_and,Bool.true_and,List.map_cons,List.map_nil,List.length_nil]) rfl
    ·simp-implicitDefEqProofs+decide only[go_sem,ho,hf,hl,s1,s2]
     exact endF.oneH (.inr rfl) (by simp-implicitDefEqProofs+decide only[go_sem]) rfl (by rintro (_|_|_|_|_) hp<;>first|(cases hp;done)|simp-implicitDefEqProofs+decide only[go_sem,bkU,bankR,mtC,mtR,Bool.false_or,Bool.true_or,Bool.not_true,Bool.not_false,Bool.and_true,Bool.and_false,Bool.false_and,Bool.true_and,List.map_cons,List.map_nil,List.length_nil]) rfl
   ·simp-implicitDefEqProofs+decide only[go_sem,ho,hf,hl,s1,s2]
    exact endF.oneH (.inr rfl) (by simp-implicitDefEqProofs+decide only[go_sem]) rfl (by rintro (_|_|_|_|_) hp<;>first|(cases hp;done)|simp-implicitDefEqProofs+decide only[go_sem,bkU,bankR,mtC,mtR,Bool.false_or,Bool.true_or,Bool.not_true,Bool.not_false,Bool.and_true,Bool.and_false,Bool.false_and,Bool.true_and,List.map_cons,List.map_nil,List.length_nil]) rfl
 | cons a l =>
   have e1:(a::l)++[b]=a::(l++[b]):=rfl
   have e2:(l++[b]).length=l.length+1:=by simp
   have e4:((a::l).map T.bool).length=l.length+1:=by simp
   have hn:decide ((65536:Int)≤((l.length+1:Nat):Int))=false:=decide_eq_false (by simp at hml;omega)
   have hnb:l.length+1+1<big:=by unfold big;simp at hml;omega
   rw[e1]
   simp only[mtC,mtR]at ho hf
   apply run_sound 200
   simp-implicitDefEqProofs+decide only[go_sem,ho,hf,hl,hn]
   refine Goes.drawN mixed ?_
   simp-implicitDefEqProofs+decide only[go_sem,hl,ho,hf]
   refine CallD.P _ Tryz.call198 c1 ?_
   simp-implicitDefEqProofs+decide only[go_sem,hl]
   refine CallD.P _ Tryz.call198 c1 ?_
   refine Sm ?_
   refine⟨.mk (by kernel_rfl),?_⟩
   apply run_sound 200
   simp-implicitDefEqProofs+decide only[go_sem,ho,hf,hl]
   refine CallG.P _ Tryz.call199 (c2) ?_
   cases tie
   ·cases b
    ·simp-implicitDefEqProofs+decide only[go_sem,ho,hf,hl,s1,s2,e4,hnb]
     exact endF.oneH (.inr rfl) (by simp-implicitDefEqProofs+decide only[go_sem]) rfl (by rintro (_|_|_|_|_) hp<;>first|(cases hp;done)|simp-implicitDefEqProofs+decide only[go_sem,bkU,bankR,mtC,mtR,Bool.false_or,Bool.true_or,Bool.not_true,Bool.not_false,Bool.and_true,Bool.and_false,Bool.false_and,Bool.true_and,List.map_cons,List.map_append,List.map_nil,e2]) rfl
    ·simp-implicitDefEqProofs+decide only[go_sem,ho,hf,hl,s1,s2,e4,hnb]
     exact endF.oneH (.inr rfl) (by simp-implicitDefEqProofs+decide only[go_sem]) rfl (by rintro (_|_|_|_|_) hp<;>first|(cases hp;done)|simp-implicitDefEqProofs+decide only[go_sem,bkU,bankR,mtC,mtR,Bool.false_or,Bool.true_or,Bool.not_true,Bool.not_false,Bool.and_true,Bool.and_false,Bool.false_and,Bool.true_and,List.map_cons,List.map_append,List.map_nil,e2]) rfl
   ·simp-implicitDefEqProofs+decide only[go_sem,ho,hf,hl,s1,s2,e4,hnb]
    exact endF.oneH (.inr rfl) (by simp-implicitDefEqProofs+decide only[go_sem]) rfl (by rintro (_|_|_|_|_) hp<;>first|(cases hp;done)|simp-implicitDefEqProofs+decide only[go_sem,bkU,bankR,mtC,mtR,Bool.false_or,Bool.true_or,Bool.not_true,Bool.not_false,Bool.and_true,Bool.and_false,Bool.false_and,Bool.true_and,List.map_cons,List.map_append,List.map_nil,e2]) rfl
set_option maxHeartbeats 2000000 in
theorem lessRD_ok (h:Heap) (m id k:Nat) (met:List Bool) (tie:Bool) (x y:Nat) (B:BkM h id 3 (bankR 1 (mtC id 3 met) k tie) met) (hml:met.length<60000) (hx:x<18446744073709551616) (hy:y<18446744073709551616):
  Ret Tryz.prog 133 [.ptr id,(Vx.d x).T,(Vx.d y).T] h m [.t (.bool (lessD x y))] (bkU h id 3 (bankR 1 (mtC id 3 (met++[lessD x y])) k (tie||(!lessD x y&& !lessD y x))) (met++[lessD x y])) m:=by
 have c2:=dLess_ok x y hx hy
 have c3:=dLess_ok y x hy hx
 generalize lessD x y=b at*
 generalize lessD y x=z at*
 have hb:=B.hb
 have hl:∀d j,h (.loc d j)=none:=fun d j=>hb _ rfl
 have ho:=B.o
 have hf:=B.f
 refine Ret.intro Tryz.func133 rfl (rt:=[6]) rfl (by simp[Tryz.ntmps133]) (by decide) (sites:=fun _=>false) (bkU_hb B.hb) (bkU_keeps B) ?_
 simp only[Vx_d]
 unfold bankR at ho
 cases met with
 | nil =>
   simp only[mtC,mtR]at ho hf
   apply run_sound 200
   simp-implicitDefEqProofs+decide only[go_sem,ho,hl]
   refine Goes.drawN mixed ?_
   simp-implicitDefEqProofs+decide only[go_sem,hl,ho,hf]
   refine CallD.P _ Tryz.call198 c2 ?_
   simp-implicitDefEqProofs+decide only[go_sem,hl]
   refine CallD.P _ Tryz.call198 c3 ?_
   refine Sm ?_
   refine⟨.mk (by kernel_rfl),?_⟩
   apply run_sound 200
   cases tie
   ·cases b
    ·simp-implicitDefEqProofs+decide only[go_sem,ho,hf,hl]
     exact endF.oneH (.inr rfl) (by simp-implicitDefEqProofs+decide only[go_sem]) rfl (by rintro (_|_|_|_|_) hp<;>first|(cases hp;done)|simp-implicitDefEqProofs+decide only[go_sem,bkU,bankR,mtC,mtR,Bool.false_or,Bool.true_or,Bool.not_true,Bool.not_false,Bool.and_true,Bool.and_false,Bool.false_and,Bool.true_and,List.map_cons,List.map_nil,List.length_nil]) rfl
    ·simp-implicitDefEqProofs+decide only[go_sem,ho,hf,hl]
     exact endF.oneH (.inr rfl) (by simp-implicitDefEqProofs+decide only[go_sem]) rfl (by rintro (_|_|_|_|_) hp<;>first|(cases hp;done)|simp-implicitDefEqProofs+decide only[go_sem,bkU,bankR,mtC,mtR,Bool.false_or,Bool.true_or,Bool.not_true,Bool.not_false,Bool.and_true,Bool.and_false,Bool.false_and,Bool.true_and,List.map_cons,List.map_nil,List.length_nil]) rfl
   ·simp-implicitDefEqProofs+decide only[go_sem,ho,hf,hl]
    exact endF.oneH (.inr rfl) (by simp-implicitDefEqProofs+decide only[go_sem]) rfl (by rintro (_|_|_|_|_) hp<;>first|(cases hp;done)|simp-implicitDefEqProofs+decide only[go_sem,bkU,bankR,mtC,mtR,Bool.false_or,Bool.true_or,Bool.not_true,Bool.not_false,Bool.and_true,Bool.and_false,Bool.false_and,Bool.true_and,List.map_cons,List.map_nil,List.length_nil]) rfl
 | cons a l =>
   have e1:(a::l)++[b]=a::(l++[b]):=rfl
   have e2:(l++[b]).length=l.length+1:=by simp
   have e4:((a::l).map T.bool).length=l.length+1:=by simp
   have hn:decide ((65536:Int)≤((l.length+1:Nat):Int))=false:=decide_eq_false (by simp at hml;omega)
   have hnb:l.length+1+1<big:=by unfold big;simp at hml;omega
   rw[e1]
   simp only[mtC,mtR]at ho hf
   apply run_sound 200
   simp-implicitDefEqProofs+decide only[go_sem,ho,hf,hl,hn]
   refine Goes.drawN mixed ?_
   simp-implicitDefEqProofs+decide only[go_sem,hl,ho,hf]
   refine CallD.P _ Tryz.call198 c2 ?_
   simp-implicitDefEqProofs+decide only[go_sem,hl]
   refine CallD.P _ Tryz.call198 c3 ?_
   refine Sm ?_
   refine⟨.mk (by kernel_rfl),?_⟩
   apply run_sound 200
   cases tie
   ·cases b
    ·simp-implicitDefEqProofs+decide only[go_sem,ho,hf,hl,e4,hnb]
     exact endF.oneH (.inr rfl) (by simp-implicitDefEqProofs+decide only[go_sem]) rfl (by rintro (_|_|_|_|_) hp<;>first|(cases hp;done)|simp-implicitDefEqProofs+decide only[go_sem,bkU,bankR,mtC,mtR,Bool.false_or,Bool.true_or,Bool.not_true,Bool.not_false,Bool.and_true,Bool.and_false,Bool.false_and,Bool.true_and,List.map_cons,List.map_append,List.map_nil,e2]) rfl
    ·simp-implicitDefEqProofs+decide only[go_sem,ho,hf,hl,e4,hnb]
     exact endF.oneH (.inr rfl) (by simp-implicitDefEqProofs+decide only[go_sem]) rfl (by rintro (_|_|_|_|_) hp<;>first|(cases hp;done)|simp-implicitDefEqProofs+decide only[go_sem,bkU,bankR,mtC,mtR,Bool.false_or,Bool.true_or,Bool.not_true,Bool.not_false,Bool.and_true,Bool.and_false,Bool.false_and,Bool.true_and,List.map_cons,List.map_append,List.map_nil,e2]) rfl
   ·simp-implicitDefEqProofs+decide only[go_sem,ho,hf,hl,e4,hnb]
    exact endF.oneH (.inr rfl) (by simp-implicitDefEqProofs+decide only[go_sem]) rfl (by rintro (_|_|_|_|_) hp<;>first|(cases hp;done)|simp-implicitDefEqProofs+decide only[go_sem,bkU,bankR,mtC,mtR,Bool.false_or,Bool.true_or,Bool.not_true,Bool.not_false,Bool.and_true,Bool.and_false,Bool.false_and,Bool.true_and,List.map_cons,List.map_append,List.map_nil,e2]) rfl
theorem lessR_ok (h:Heap) (m id:Nat) (md:Int) (s:Bs) (x y:Vx) (B:BkM h id 3 (obR id md s) s.met) (hml:s.met.length<60000) (mx:x.md=md) (my:y.md=md) (bx:x.B 40000) (by':y.B 40000) (zx:x.Z 30000) (zy:y.Z 30000):
  Ret Tryz.prog 133 [.ptr id,x.T,y.T] h m [.t (.bool (lessV x y))] (bkU h id 3 (obR id md (lessS s x y)) (lessS s x y).met) m:=by
 subst mx
 cases x with
 | q r => cases y with
   |q t=>exact lessRQ_ok h m id s.k s.met s.tie r t B hml bx by' zx zy
   |d b=>simp[Vx.md]at my
 | d a => cases y with
   |q t=>simp[Vx.md]at my
   |d b=>exact lessRD_ok h m id s.k s.met s.tie a b B hml bx by'
end Go.Fm
/- Quotients of scalars, by the bank and by the reference. -/
namespace Go.Fm
open Go.Proofs
set_option maxRecDepth 100000
attribute [local irreducible] tiOf

def divV:Vx→Vx→Vx
 |.q r,.q s=>.q (r/s)
 |.d a,.d b=>.d (divD a b)
 |_,_=>.q 0
def Vx.nz:Vx→Prop
 |.q s=>s≠0
 |.d _=>True
theorem divV_md {x y:Vx} (h:x.md=y.md):(divV x y).md=x.md:=by cases x<;>cases y<;>first|rfl|(simp[Vx.md]at h)
theorem divD_lt (a b:Nat):divD a b<18446744073709551616:=by
 unfold divD
 split
 ·decide
 split
 ·exact infD_lt _
 split
 ·exact sgnD_lt (by decide)
 ·exact rndD_lt _ _ _
theorem divV_B {x y:Vx} {a b:Nat} (h:x.md=y.md) (hx:x.B a) (hy:y.B b) (hz:y.nz):(divV x y).B (a+b):=by
 cases x with
 | q r => cases y with
   | q s =>
     show QB (r/s) _
     rw[Rat.div_def]
     exact QB_mul hx (QB_inv hz hy)
   |d b=>simp[Vx.md]at h
 | d a => cases y with
   |q s=>simp[Vx.md]at h
   |d b=>exact divD_lt a b
theorem dblDiv_ok (a b:Nat) (ha:a<18446744073709551616) (hb:b<18446744073709551616):Pure Tryz.prog 166 [.int .i64 7,.int .u64 a,.int .u64 b] [.t (.int .u64 (divD a b:Nat))]:=by
 have c1:=fdiv_ok a b ha hb
 refine Pure.I Tryz.func166 [6] ?_
 refine Sm ?_
 refine CallG.P _ Tryz.call222 (c1) ?_
 refine Sm ?_
 exact endF.V1 6 (.int .u64 (divD a b:Nat))
theorem rdblDiv_ok (a b:Nat) (ha:a<18446744073709551616) (hb:b<18446744073709551616):Pure Tryz.prog 112 [.int .i64 7,.int .u64 a,.int .u64 b] [.t (.int .u64 (divD a b:Nat))]:=by
 have c1:=dDiv_ok a b ha hb
 refine Pure.I Tryz.func112 [6] ?_
 refine Sm ?_
 refine CallG.P _ Tryz.call172 (c1) ?_
 refine Sm ?_
 exact endF.V1 6 (.int .u64 (divD a b:Nat))
theorem exQDiv_ok (h:Heap) (m id k:Nat) (mc:AV) (tie:Bool) (r s:Rat) (hb:∀l,Lab.pool l=false→h l=none) (hk:h (.obj id)=some (bankG 0 mc k tie)) (hs0:s≠0) (hr:QB r 10000000) (hs:QB s 10000000):
  Ret Tryz.prog 165 [.ptr id,.int .i64 7,(qR r).T,(qR s).T] h m [.t (qR (r/s)).T] h m:=by
 have hl:∀d j,h (.loc d j)=none:=fun d j=>hb _ rfl
 have c1:=div_okQ r s hs0 hr hs
 have c4:=fail0_ok h m id k 0 mc tie hb hk
 refine Ret.introC Tryz.func165 rfl (rv:=[.c 8 65]) rfl (by simp[Tryz.ntmps165]) (by decide) (sites:=fun _=>false) hb (Keeps.refl _) ?_
 simp only[qT]at c1⊢
 apply run_sound 200
 simp-implicitDefEqProofs+decide only[go_sem,hl]
 refine CallG.pureS _ Tryz.call182 (c1) (by simp only[List.all_cons,List.all_nil,noPtr,noPtrL,noPtr_sW,noPtr_sI,noPtr_sV,noPtrL_U,noPtrL_I,noPtrL_vT,I,List.map_cons,List.map_nil,Bool.and_true,Bool.and_self]) (by first|rfl|(simp only[go_sem];done)|(simp only[go_sem];rfl)) ?_
 apply run_sound 200
 simp-implicitDefEqProofs+decide only[go_sem,hl]
 refine CallG.pool _ Tryz.call183 c4 hb (by rintro (_|_|_|_|_) hp<;>first|(cases hp;done)|simp-implicitDefEqProofs+decide only[go_sem,hl]) ?_
 apply run_sound 200
 simp-implicitDefEqProofs+decide only[go_sem,hl,sW]
 exact endC.oneV (.inr rfl) (by first|(simp-implicitDefEqProofs+decide only[go_sem,valC,hl,sW];done)|(simp-implicitDefEqProofs+decide only[go_sem,valC,hl,sW];rfl)) (by first|rfl|(simp-implicitDefEqProofs+decide only[go_sem,hl,sW];done)|(simp-implicitDefEqProofs+decide only[go_sem,hl,sW];rfl)) (by rintro (_|_|_|_|_) hp<;>first|(cases hp;done)|simp-implicitDefEqProofs+decide only[go_sem,hl,sW]) rfl
theorem doQd_ok (h:Heap) (m id k:Nat) (mc:AV) (tie:Bool) (r s:Rat) (hb:∀l,Lab.pool l=false→h l=none) (hk:h (.obj id)=some (bankG 0 mc k tie)) (hkb:k<1000000000) (hs0:s≠0) (hr:QB r 10000000) (hs:QB s 10000000):
  Ret Tryz.prog 110 [.ptr id,.int .i64 7,vT r,vT s,.bool true] h m [.t (vT (r/s))] (upd h (.obj id) (some (bankG 0 mc (k+1) tie))) m:=by
 have hl:∀d j,h (.loc d j)=none:=fun d j=>hb _ rfl
 have c1:=failsG_ok h m id k 0 mc tie hb hk
 have hb2:∀l,Lab.pool l=false→upd h (.obj id) (some (bankG 0 mc (k+1) tie)) l=none:=upd_hb hb
 have c2:=exQDiv_ok (upd h (.obj id) (some (bankG 0 mc (k+1) tie))) m id (k+1) mc tie r s hb2 (upd_same _ _ _) hs0 hr hs
 have hw:=wS (show k<1000000000000 by omega)
 generalize r/s=t at*
 refine Ret.introC Tryz.func110 rfl (rv:=[.c 10 68]) rfl (by simp[Tryz.ntmps110]) (by decide) (sites:=fun _=>false) hb2 bank_keeps ?_
 simp only[qT]at c2⊢
 simp only[vT_eq]
 apply run_sound 200
 simp-implicitDefEqProofs+decide only[go_sem,hl]
 refine CallG.pool _ Tryz.call117 c1 hb (by rintro (_|_|_|_|_) hp<;>first|(cases hp;done)|simp-implicitDefEqProofs+decide only[go_sem]) ?_
 apply run_sound 200
 unfold bankG at hk
 simp-implicitDefEqProofs+decide only[go_sem,hk,hw,hl]
 refine CallG.pool _ Tryz.call165 c2 hb2 (by rintro (_|_|_|_|_) hp<;>first|(cases hp;done)|simp-implicitDefEqProofs+decide only[go_sem,bankG]) ?_
 apply run_sound 200
 unfold bankG
 simp-implicitDefEqProofs+decide only[go_sem,hl,sW]
 exact endC.oneV (.inr rfl) (by first|(simp-implicitDefEqProofs+decide only[go_sem,valC,hl,sW];done)|(simp-implicitDefEqProofs+decide only[go_sem,valC,hl,sW];rfl)) (by first|rfl|(simp-implicitDefEqProofs+decide only[go_sem,hl,sW];done)|(simp-implicitDefEqProofs+decide only[go_sem,hl,sW];rfl)) (by rintro (_|_|_|_|_) hp<;>first|(cases hp;done)|simp-implicitDefEqProofs+decide only[go_sem,hl,sW]) rfl
theorem bankDivG_ok (h:Heap) (m id k:Nat) (md:Int) (mc:AV) (tie:Bool) (x y:Vx) (hb:∀l,Lab.pool l=false→h l=none) (hk:h (.obj id)=some (bankG md mc k tie)) (hkb:k<1000000000) (mx:x.md=md) (my:y.md=md) (bx:x.B 10000000) (by':y.B 10000000) (hz:y.nz):
  Ret Tryz.prog 74 [.ptr id,x.T,y.T] h m [.t (divV x y).T] (upd h (.obj id) (some (bankG md mc (k+1) tie))) m:=by
 have hl:∀d j,h (.loc d j)=none:=fun d j=>hb _ rfl
 have c1:Ret Tryz.prog 110 [.ptr id,.int .i64 7,x.T,y.T,.bool true] h m [.t (divV x y).T] (upd h (.obj id) (some (bankG md mc (k+1) tie))) m:=by
  subst mx
  cases x with
  | q r => cases y with
    |q s=>exact doQd_ok h m id k mc tie r s hb hk hkb hz bx by'
    |d b=>simp[Vx.md]at my
  | d a => cases y with
    |q s=>simp[Vx.md]at my
    |d b=>exact doD_ok 7 (divD a b) h m id k mc tie a b hb hk hkb (dblDiv_ok a b bx by')
 refine Ret.introC Tryz.func74 rfl (rv:=[.c 6 68]) rfl (by simp[Tryz.ntmps74]) (by decide) (sites:=fun _=>false) (upd_hb hb) bank_keeps ?_
 simp only[Vx_T]at c1⊢
 apply run_sound 200
 simp-implicitDefEqProofs+decide only[go_sem,hl]
 refine CallG.pool _ Tryz.call110 c1 hb (by rintro (_|_|_|_|_) hp<;>first|(cases hp;done)|simp-implicitDefEqProofs+decide only[go_sem]) ?_
 apply run_sound 200
 simp-implicitDefEqProofs+decide only[go_sem,hl,sW]
 exact endC.oneV (.inr rfl) (by first|(simp-implicitDefEqProofs+decide only[go_sem,valC,hl,sW];done)|(simp-implicitDefEqProofs+decide only[go_sem,valC,hl,sW];rfl)) (by first|rfl|(simp-implicitDefEqProofs+decide only[go_sem,hl,sW];done)|(simp-implicitDefEqProofs+decide only[go_sem,hl,sW];rfl)) (by rintro (_|_|_|_|_) hp<;>first|(cases hp;done)|simp-implicitDefEqProofs+decide only[go_sem,hl,sW]) rfl
theorem rexDiv_ok (h:Heap) (m id:Nat) (r s:Rat) (hb:∀l,Lab.pool l=false→h l=none) (hs0:s≠0) (hr:QB r 40000) (hs:QB s 40000) (zr:ZB r 30000) (zs:ZB s⁻¹ 30000):
  Ret Tryz.prog 113 [.ptr id,.int .i64 7,(qR r).T,(qR s).T] h m [.t (qR (r/s)).T] h m:=by
 have hl:∀d j,h (.loc d j)=none:=fun d j=>hb _ rfl
 have c0:=rZero_ok s
 rw[decide_eq_false (fun h=>hs0 (Rat.num_eq_zero.1 h))]at c0
 have c1:=rDiv_okQ r s hs0 hr hs zr zs
 refine Ret.introC Tryz.func113 rfl (rv:=[.c 8 65]) rfl (by simp[Tryz.ntmps113]) (by decide) (sites:=fun _=>false) hb (Keeps.refl _) ?_
 simp only[qT]at c0 c1⊢
 apply run_sound 200
 simp-implicitDefEqProofs+decide only[go_sem,hl]
 refine CallG.pure _ Tryz.call138 (c0) (by simp only[List.all_cons,List.all_nil,noPtr,noPtrL,noPtr_sW,noPtr_sI,noPtr_sV,noPtrL_U,noPtrL_I,noPtrL_vT,I,List.map_cons,List.map_nil,Bool.and_true,Bool.and_self]) (by first|rfl|(simp only[go_sem];done)|(simp only[go_sem];rfl)) ?_
 apply run_sound 200
 simp-implicitDefEqProofs+decide only[go_sem,hl]
 refine CallG.PS _ Tryz.call136 (c1) ?_
 simp-implicitDefEqProofs+decide only[go_sem,hl,sW]
 exact endC.one (.inr rfl) (by first|rfl|(simp-implicitDefEqProofs+decide only[go_sem,valC,hl,sW];done)|(simp-implicitDefEqProofs+decide only[go_sem,valC,hl,sW];rfl)) (by first|rfl|(simp-implicitDefEqProofs+decide only[go_sem,hl,sW];done)|(simp-implicitDefEqProofs+decide only[go_sem,hl,sW];rfl)) (fun l hp=>by cases l<;>first|rfl|cases hp) rfl
def Vx.Zi (n:Nat):Vx→Prop
 |.q s=>ZB s⁻¹ n
 |.d _=>True
theorem rdoDiv_ok (h:Heap) (m id k:Nat) (md:Int) (mc:AV) (tie:Bool) (x y:Vx) (hb:∀l,Lab.pool l=false→h l=none) (hk:h (.obj id)=some (bankR md mc k tie)) (hkb:k<1000000000) (mx:x.md=md) (my:y.md=md)
  (bx:x.B 40000) (by':y.B 40000) (zx:x.Z 30000) (zy:y.Zi 30000) (hz:y.nz):
  Ret Tryz.prog 60 [.ptr id,.int .i64 7,x.T,y.T] h m [.t (divV x y).T] (upd h (.obj id) (some (bankR md mc (k+1) tie))) m:=by
 subst mx
 cases x with
 | q r => cases y with
   |q s=>exact rdoQ_ok 7 (r/s) h m id k mc tie r s hb hk hkb (rexDiv_ok h m id r s hb hz bx by' zx zy)
   |d b=>simp[Vx.md]at my
 | d a => cases y with
   |q s=>simp[Vx.md]at my
   |d b=>exact rdoD_ok 7 (divD a b) h m id k mc tie a b hb hk hkb (rdblDiv_ok a b bx by')
end Go.Fm
/- Sums, in the program. -/
namespace Go.Fm
open Go.Proofs
set_option maxRecDepth 100000
attribute [local irreducible] tiOf

theorem copyX_ok (v:Vx) (h:v.B 10000000):Pure Tryz.prog 67 [v.T] [.t v.T]:=copy_ok v.sc (ScB_Vx h (by decide))
def sumX (x:Vx) (l:List Vx):Vx:=l.foldl addV x
theorem sumX_snoc {x y:Vx} {l:List Vx} {i:Nat} (h:l[i]?=some y):sumX x (l.take (i+1))=addV (sumX x (l.take i)) y:=by
 unfold sumX;rw[take_snoc h,List.foldl_append];rfl
theorem sumX_ok {x:Vx} {l:List Vx} {md:Int} {B:Nat} (hx:x.md=md∧x.B B) (hl:AllX md B l):∀i,(sumX x (l.take i)).md=md∧(sumX x (l.take i)).B ((i+1)*(B+1))∧(sumX x (l.take i)).Z (64*B)
 | 0 => by
   rw[List.take_zero]
   exact⟨hx.1,hx.2.mono (by omega),Z_of_B hx.2⟩
 | i + 1 => by
   have ih:=sumX_ok hx hl i
   cases hy:l[i]? with
   | none =>
     have:l.take (i+1)=l.take i:=by rw[List.take_add_one,hy];simp
     rw[this]
     exact⟨ih.1,ih.2.1.mono (Nat.mul_le_mul_right _ (by omega)),ih.2.2⟩
   | some y =>
     have h:=hl y (List.mem_of_getElem? hy)
     rw[sumX_snoc hy]
     exact⟨(addV_md (ih.1.trans h.1.symm)).trans ih.1,(addV_B (ih.1.trans h.1.symm) ih.2.1 h.2).mono (by rw[Nat.add_mul (i+1) 1,Nat.one_mul];omega),addV_Z (ih.1.trans h.1.symm) ih.2.2 (Z_of_B h.2)⟩
theorem sumG_ok (h:Heap) (m id k:Nat) (md:Int) (mc:AV) (tie:Bool) (x:Vx) (l:List Vx) (hb:∀l,Lab.pool l=false→h l=none) (hk:h (.obj id)=some (bankG md mc k tie)) (hkb:k<100000000) (hll:l.length≤64) (hx:x.md=md∧x.B 9) (hl:AllX md 9 l):
  Ret Tryz.prog 28 [.ptr id,sX (x::l)] h m [.t (sumX x l).T] (upd h (.obj id) (some (bankG md mc (k+l.length) tie))) m:=by
 have hloc:∀d j,h (.loc d j)=none:=fun d j=>hb _ rfl
 have c1:=copyX_ok x (hx.2.mono (by decide))
 have hu0:upd h (.obj id) (some (bankG md mc (k+0) tie))=h:=by
  funext l
  by_cases e:l=.obj id
  ·subst e;rw[upd_same,hk];rfl
  ·rw[upd_ne _ _ _ _ e]
 have hlen:(x::l).length=l.length+1:=rfl
 have h0i:(1:Int)≤((l.length+1:Nat):Int):=by omega
 have hall:(((x::l).map Vx.T).all fun e=>e.cells.length==5)=true:=by
  rw[List.all_eq_true]
  intro e he
  obtain⟨r,_,rfl⟩:=List.mem_map.1 he
  rw[Vx_T];rfl
 have htk:List.take (l.length+1) ((x::l).map Vx.T)=(x::l).map Vx.T:=List.take_of_length_le (by simp)
 have hdr:List.drop 1 ((x::l).map Vx.T)=l.map Vx.T:=rfl
 have hg0:((x::l).map Vx.T)[0]?=some x.T:=rfl
 have hml:((x::l).map Vx.T).length=l.length+1:=by simp
 have hne:decide (((l.length+1:Nat):Int)=0)=false:=decide_eq_false (by omega)
 unfold sX
 generalize (x::l).map Vx.T=xs at*
 refine Ret.introC Tryz.func28 rfl (rv:=[.c 4 68]) rfl (by simp[Tryz.ntmps28]) (by decide) (sites:=fun _=>false) (upd_hb hb) bank_keeps ?_
 simp only[Vx_T]at c1 hg0
 apply run_sound 200
 simp-implicitDefEqProofs+decide only[go_sem,hloc,hml,hne]
 simp-implicitDefEqProofs+decide only[go_sem,hg0]
 refine CallG.PS _ Tryz.call67 (c1) ?_
 simp-implicitDefEqProofs+decide only[go_sem,hml,h0i,hall,htk,hdr,hloc,List.length_map]
 refine Goes.loop (X:=Nat) (fun i=>⟨ofL [(0,.t (.ptr id)),(4,.bp (.loc 4 0) 0),(5,.bp (.loc 5 0) 0),(18,.t (sX l)),(19,.t (.int .i64 l.length)),(20,.t (.int .i64 i))],
   ofH (upd h (.obj id) (some (bankG md mc (k+i) tie))) [(.loc 4 0,.box [.t (.bool false),.nil,.nil,.t (.int .u64 0),.t (.int .i64 0)]),(.loc 5 0,.box (sCX 1 (sumX x (l.take i))))],m⟩) (fun i=>i≤l.length) (fun i=>l.length-i) 0 ?_ (by omega) ?_
 ·have e0:sumX x (l.take 0)=x:=rfl
  dsimp only
  rw[hu0,e0]
  refine Wk.boxes _ _ hb rfl rfl ?_ (by rintro (_|_|_|_|_) hp<;>first|(cases hp;done)|simp-implicitDefEqProofs+decide only[go_sem,hloc]) ?_ ?_
  ·simp-implicitDefEqProofs+decide only[go_sem,hloc,ofH,sCX_succ]<;>first|rfl|exact⟨rfl,rfl⟩|skip
  ·simp-implicitDefEqProofs+decide only[go_sem,sX]<;>rfl
  ·simp-implicitDefEqProofs+decide only[go_sem,sX]
 rintro i hi J hJ
 apply run_sound 200
 refine SmX ?_
 refine selP_dec (fun hc=> ?_) (fun hc=> ?_)
 ·obtain⟨y,hy⟩:=getI (show i<l.length by omega)
  have hw:=wS (show i<1000000000000 by omega)
  have hsn:=sumX_snoc (x:=x) hy
  have hq:=sumX_ok hx hl i
  have hyb:=hl y (List.mem_of_getElem? hy)
  have ca:=bankAddG_ok (upd h (.obj id) (some (bankG md mc (k+i) tie))) m id (k+i) md mc tie (sumX x (l.take i)) y (upd_hb hb) (upd_same _ _ _) (by omega) hq.1 hyb.1 (hq.2.1.mono (by have:=Nat.mul_le_mul_right (9+1) (show i+1≤65 by omega);omega)) (hyb.2.mono (by decide))
  rw[upd_upd,←hsn]at ca
  generalize sumX x (l.take i)=s at*
  obtain⟨s',hs'⟩:∃s',sumX x (l.take (i+1))=s':=⟨_,rfl⟩
  rw[hs']at ca
  simp only[Vx_T]at ca
  simp-implicitDefEqProofs+decide only[go_sem,hy,Vx_T,hloc,ofH,sCX_succ]
  refine CallG.pool _ Tryz.call57 ca (upd_hb hb) (by rintro (_|_|_|_|_) hp<;>first|(cases hp;done)|simp-implicitDefEqProofs+decide only[go_sem,hloc]) ?_
  apply run_sound 200
  simp-implicitDefEqProofs+decide only[go_sem,hloc,hw]
  refine hJ (i+1) _ (by omega) (by omega) (Wk.boxes _ _ (upd_hb hb) rfl rfl ?_ (by rintro (_|_|_|_|_) hp<;>first|(cases hp;done)|simp-implicitDefEqProofs+decide only[go_sem,hloc,Nat.add_assoc]) ?_ ?_)
  ·simp-implicitDefEqProofs+decide only[go_sem,ofH,hloc,hs',sCX_succ]<;>first|rfl|exact⟨rfl,rfl⟩|skip
  ·simp-implicitDefEqProofs+decide only[go_sem,sX]
  ·simp-implicitDefEqProofs+decide only[go_sem,sX]
 ·obtain rfl:i=l.length:=by omega
  rw[List.take_length]
  simp only[Vx_T]
  simp-implicitDefEqProofs+decide only[go_sem,ofH,sCX_succ]
  exact endC.oneV (.inr rfl) (by first|(simp-implicitDefEqProofs+decide only[go_sem,valC,hloc];done)|(simp-implicitDefEqProofs+decide only[go_sem,valC,hloc];rfl)) (by first|rfl|(simp-implicitDefEqProofs+decide only[go_sem,hloc];done)|(simp-implicitDefEqProofs+decide only[go_sem,hloc];rfl)) (by rintro (_|_|_|_|_) hp<;>first|(cases hp;done)|simp-implicitDefEqProofs+decide only[go_sem,hloc]) rfl
theorem sum0_ok (h:Heap) (m id k:Nat) (md:Int) (hmd:md=0∨md=1) (mc:AV) (tie:Bool) (hb:∀l,Lab.pool l=false→h l=none) (hk:h (.obj id)=some (bankG md mc k tie)):
  Ret Tryz.prog 28 [.ptr id,.slice []] h m [.t (numV md (((0:Int):Rat)/((1:Int):Rat))).T] h m:=by
 have hloc:∀d j,h (.loc d j)=none:=fun d j=>hb _ rfl
 have c1:=numG_ok h m id k md mc tie 0 1 hmd hb hk (by decide) (by decide) (by decide) (by decide) (by decide)
 generalize numV md (((0:Int):Rat)/((1:Int):Rat))=v at*
 simp only[Vx_T]at c1⊢
 refine Ret.introC Tryz.func28 rfl (rv:=[.c 4 68]) rfl (by simp[Tryz.ntmps28]) (by decide) (sites:=fun _=>false) hb (Keeps.refl _) ?_
 apply run_sound 200
 simp-implicitDefEqProofs+decide only[go_sem,hloc]
 refine CallG.pool _ Tryz.call64 c1 hb (by rintro (_|_|_|_|_) hp<;>first|(cases hp;done)|simp-implicitDefEqProofs+decide only[go_sem]) ?_
 apply run_sound 200
 simp-implicitDefEqProofs+decide only[go_sem,hloc,sW]
 exact endC.oneV (.inr rfl) (by first|(simp-implicitDefEqProofs+decide only[go_sem,valC,hloc,sW];done)|(simp-implicitDefEqProofs+decide only[go_sem,valC,hloc,sW];rfl)) (by first|rfl|(simp-implicitDefEqProofs+decide only[go_sem,hloc,sW];done)|(simp-implicitDefEqProofs+decide only[go_sem,hloc,sW];rfl)) (by rintro (_|_|_|_|_) hp<;>first|(cases hp;done)|simp-implicitDefEqProofs+decide only[go_sem,hloc,sW]) rfl
end Go.Fm
/- The best of some, in the program. -/
namespace Go.Fm
open Go.Proofs
set_option maxRecDepth 100000
attribute [local irreducible] tiOf

theorem endC.twoV {P:Program} {rv rv':RV} {y y':AV} {t t':T} {h':Heap} {m':Nat} {e:Exit} {s:St} (he:e=.normal∨e=.ret) (hv:valC P s rv=some y) (hv':valC P s rv'=some y') (hr:reify y=.ret (t,[])) (hr':reify y'=.ret (t',[]))
  (hh:∀l,Lab.pool l=true→h' l=s.h l) (hn:s.nxt=m'):endC P [rv,rv'] [.t t,.t t'] h' m' e s:=by
 refine⟨he,⟨[y,y'],[false,false],by simp[valsC,hv,hv'],rfl,[],[none,none],[],?_,rfl,hh⟩,hn⟩
 simp[finL,fin1,hr,hr',Rd.bind,Rd.run]
structure Bst where
 pick:Nat
 b:Bs
def bestP (mn:Bool) (x:List Vx) (p i:Nat):Vx×Vx:=match mn with|true=>(x.getD (i+1) (.q 0),x.getD p (.q 0))|false=>(x.getD p (.q 0),x.getD (i+1) (.q 0))
def bestN (mn:Bool) (x:List Vx) (s:Bst) (i:Nat):Bst:=⟨if lessV (bestP mn x s.pick i).1 (bestP mn x s.pick i).2=true then i+1 else s.pick,lessS s.b (bestP mn x s.pick i).1 (bestP mn x s.pick i).2⟩
def bestF (mn:Bool) (x:List Vx) (s:Bs):Nat→Bst
 |0=>⟨0,s⟩
 |i+1=>bestN mn x (bestF mn x s i) i
theorem bestF_pick (mn:Bool) (x:List Vx) (s:Bs):∀i,(bestF mn x s i).pick≤i
 |0=>Nat.le_refl _
 | i + 1 => by
   have:=bestF_pick mn x s i
   unfold bestF bestN
   dsimp only
   split<;>omega
theorem bestF_met (mn:Bool) (x:List Vx) (s:Bs):∀i,(bestF mn x s i).b.met.length=s.met.length+i
 |0=>rfl
 | i + 1 => by
   have:=bestF_met mn x s i
   unfold bestF bestN lessS
   dsimp only
   rw[List.length_append,this];simp;omega
theorem bestF_k (mn:Bool) (x:List Vx) (s:Bs):∀i,(bestF mn x s i).b.k=s.k
 |0=>rfl
 |i+1=>bestF_k mn x s i
theorem getD_X {xs:List Vx} {i:Nat} (hi:i<xs.length):xs[i]?=some (xs.getD i (.q 0)):=by obtain⟨x,hx⟩:=getI hi;rw[hx,List.getD_eq_getElem?_getD,hx];rfl

theorem bestG_ok (h:Heap) (m id:Nat) (md op:Int) (mn:Bool) (s:Bs) (xs:List Vx) (B:BkM h id 4 (obG id md s) s.met) (hop:decide (op=30)=mn) (hml:s.met.length<50000) (h1:1≤xs.length) (h64:xs.length≤64) (hx:AllX md 1000 xs):
  Ret Tryz.prog 75 [.ptr id,.int .i64 op,sX xs] h m [.t (xs.getD (bestF mn xs s (xs.length-1)).pick (.q 0)).T,.t (.int .i64 (bestF mn xs s (xs.length-1)).pick)]
   (bkU h id 4 (obG id md (bestF mn xs s (xs.length-1)).b) (bestF mn xs s (xs.length-1)).b.met) m:=by
 have hloc:∀d j,h (.loc d j)=none:=fun d j=>B.hb _ rfl
 have hu0:=bkU_self B
 obtain⟨x0,hx0⟩:=getI (show 0<xs.length by omega)
 have e00:x0=xs.getD 0 (.q 0):=by rw[List.getD_eq_getElem?_getD,hx0];rfl
 refine Ret.introC Tryz.func75 rfl (rv:=[.c 6 68,.s 7]) rfl (by simp[Tryz.ntmps75]) (by decide) (sites:=fun _=>false) (bkU_hb B.hb) (bkU_keeps B) ?_
 apply run_sound 200
 simp-implicitDefEqProofs+decide only[go_sem,hloc,sX]
 simp-implicitDefEqProofs+decide only[go_sem,hx0,Vx_T,hloc]
 refine Goes.loop (X:=Nat) (fun n=>⟨ofL [(0,.t (.ptr id)),(1,.t (.int .i64 op)),(2,.t (sX xs)),(6,.bp (.loc 6 0) 0),(8,.bp (.loc 8 0) 0),(9,.t (.int .i64 (bestF mn xs s n).pick)),(10,.t (.int .i64 (n+1:Nat)))],
   ofH (bkU h id 4 (obG id md (bestF mn xs s n).b) (bestF mn xs s n).b.met) [(.loc 6 0,.box [.t (.bool false),.nil,.nil,.t (.int .u64 0),.t (.int .i64 0)]),(.loc 8 0,.box (sCX 1 (xs.getD (bestF mn xs s n).pick (.q 0))))],m⟩) (fun n=>n+1≤xs.length) (fun n=>xs.length-n) 0 ?_ (by omega) ?_
 ·have e1:(bestF mn xs s 0)=⟨0,s⟩:=rfl
  rw[e1]
  dsimp only
  rw[hu0,←e00]
  refine Wk.boxes _ _ B.hb rfl rfl ?_ (by rintro (_|_|_|_|_) hp<;>first|(cases hp;done)|simp-implicitDefEqProofs+decide only[go_sem,hloc]) ?_ ?_
  ·simp-implicitDefEqProofs+decide only[go_sem,hloc,ofH,sCX_succ]<;>first|rfl|exact⟨rfl,rfl⟩|skip
  ·simp-implicitDefEqProofs+decide only[go_sem,sX]<;>rfl
  ·simp-implicitDefEqProofs+decide only[go_sem,sX]
 rintro n hn J hJ
 have hp:=bestF_pick mn xs s n
 have hmt:=bestF_met mn xs s n
 have hst:bestF mn xs s (n+1)=bestN mn xs (bestF mn xs s n) n:=rfl
 obtain⟨⟨p,tb⟩,hs⟩:∃s',bestF mn xs s n=s':=⟨_,rfl⟩
 rw[hs]at hp hmt hst⊢
 dsimp only at hp hmt⊢
 apply run_sound 200
 simp-implicitDefEqProofs+decide only[go_sem,sX,List.length_map]
 refine selP_dec (fun hc=> ?_) (fun hc=> ?_)
 ·have hxa:=getD_X (xs:=xs) (i:=n+1) (by omega)
  have hxp:=getD_X (xs:=xs) (i:=p) (by omega)
  have qa:=hx _ (List.mem_of_getElem? hxa)
  have qp:=hx _ (List.mem_of_getElem? hxp)
  have hb:=bkU_hb (id:=id) (f:=4) (o:=obG id md tb) (met:=tb.met) B.hb
  have hw:IntKind.wrap .i64 (((n+1:Nat):Int)+1)=((n+1+1:Nat):Int):=wS (show n+1<1000000000000 by omega)
  unfold bestN at hst
  dsimp only at hst
  cases mn with
  | true =>
    have cl:=lessG_ok _ m id md tb (xs.getD (n+1) (.q 0)) (xs.getD p (.q 0)) (bkU_M B.hb) (by omega) qa.1 qp.1 (qa.2.mono (by decide)) (qp.2.mono (by decide))
    rw[bkU_U]at cl
    have hst:bestF true xs s (n+1)=⟨if lessV (xs.getD (n+1) (.q 0)) (xs.getD p (.q 0))=true then n+1 else p,lessS tb (xs.getD (n+1) (.q 0)) (xs.getD p (.q 0))⟩:=hst
    obtain⟨x1,hx1⟩:∃x,xs.getD (n+1) (.q 0)=x:=⟨_,rfl⟩
    obtain⟨x2,hx2⟩:∃x,xs.getD p (.q 0)=x:=⟨_,rfl⟩
    rw[hx1,hx2]at cl hst
    obtain⟨o,ho⟩:=mtR_snoc tb.met (lessV x1 x2)
    have hwr:=fun l=>bkU_writes (h:=h) (id:=id) (f:=4) (o:=obG id md tb) (o':=obG id md (lessS tb x1 x2)) (met:=tb.met) ho l
    have hms:(lessS tb x1 x2).met=tb.met++[lessV x1 x2]:=rfl
    rw[←hms]at hwr
    obtain⟨b,hbb⟩:∃b,lessV x1 x2=b:=⟨_,rfl⟩
    rw[hbb]at cl hst
    obtain⟨s',hs'⟩:∃s',lessS tb x1 x2=s':=⟨_,rfl⟩
    rw[hs']at cl hst hwr
    have hba:xs.getD (bestF true xs s (n+1)).pick (.q 0)=if b=true then x1 else x2:=by
     rw[hst]
     cases b
     ·exact hx2
     ·exact hx1
    rw[hx1]at hxa
    rw[hx2]
    simp only[Vx_T]at cl
    simp-implicitDefEqProofs+decide only[go_sem,hop]
    refine Goes.drawP mixed (Calm.of (by repeat first|exact Clean.und|refine Clean.upd ?_ rfl|refine Clean.upd ?_ (by simp only[cleanA,cleanL,])) (by repeat first|exact HCalm.none|exact HCalm.hb hb|exact HCalm.hb (bank_hb hb)|refine HCalm.row ?_|refine HCalm.box ?_ (by first|rfl|(simp only[cleanA,cleanL,];done)|assumption))) ?_
    simp-implicitDefEqProofs+decide only[go_sem,hxa,Vx_T,sCX_succ]
    refine CallD.make _ [(.obj id,obG id md s'),(.fld id 4,o)] 0 Tryz.call132 cl rfl hb (by rintro (_|_|_|_|_) hp<;>first|(cases hp;done)|simp-implicitDefEqProofs+decide only[go_sem]) (fun l _=>hwr l) rfl (.inr rfl) ?_
    refine Sm ?_
    refine⟨.mk (by kernel_rfl),?_⟩
    apply run_sound 200
    cases b with
    | true =>
      simp only[if_true]at hba hst
      simp-implicitDefEqProofs+decide only[go_sem,hxa,Vx_T,hw,ofH,hloc]
      refine hJ (n+1) _ (by omega) (by omega) (Wk.boxes _ _ (bkU_hb B.hb) rfl rfl ?_ (fun l hp=> ?_) ?_ ?_)
      ·simp-implicitDefEqProofs+decide only[go_sem,ofH,hloc,hba,sCX_succ]<;>first|rfl|exact⟨rfl,rfl⟩|skip
      ·cases l<;>first|(cases hp;done)|simp-implicitDefEqProofs+decide only[go_sem,hst,hwr,ofH]
      ·simp-implicitDefEqProofs+decide only[go_sem,sX,hst]<;>rfl
      ·simp-implicitDefEqProofs+decide only[go_sem,sX]
    | false =>
      simp only[Bool.false_eq_true,if_false]at hba hst
      simp-implicitDefEqProofs+decide only[go_sem,hw,ofH]
      refine hJ (n+1) _ (by omega) (by omega) (Wk.boxes _ _ (bkU_hb B.hb) rfl rfl ?_ (fun l hp=> ?_) ?_ ?_)
      ·simp-implicitDefEqProofs+decide only[go_sem,ofH,hloc,hba,sCX_succ]<;>first|rfl|exact⟨rfl,rfl⟩|skip
      ·cases l<;>first|(cases hp;done)|simp-implicitDefEqProofs+decide only[go_sem,hst,hwr,ofH]
      ·simp-implicitDefEqProofs+decide only[go_sem,sX,hst]<;>rfl
      ·simp-implicitDefEqProofs+decide only[go_sem,sX]
  | false =>
    have cl:=lessG_ok _ m id md tb (xs.getD p (.q 0)) (xs.getD (n+1) (.q 0)) (bkU_M B.hb) (by omega) qp.1 qa.1 (qp.2.mono (by decide)) (qa.2.mono (by decide))
    rw[bkU_U]at cl
    have hst:bestF false xs s (n+1)=⟨if lessV (xs.getD p (.q 0)) (xs.getD (n+1) (.q 0))=true then n+1 else p,lessS tb (xs.getD p (.q 0)) (xs.getD (n+1) (.q 0))⟩:=hst
    obtain⟨x2,hx2⟩:∃x,xs.getD (n+1) (.q 0)=x:=⟨_,rfl⟩
    obtain⟨x1,hx1⟩:∃x,xs.getD p (.q 0)=x:=⟨_,rfl⟩
    rw[hx1,hx2]at cl hst
    obtain⟨o,ho⟩:=mtR_snoc tb.met (lessV x1 x2)
    have hwr:=fun l=>bkU_writes (h:=h) (id:=id) (f:=4) (o:=obG id md tb) (o':=obG id md (lessS tb x1 x2)) (met:=tb.met) ho l
    have hms:(lessS tb x1 x2).met=tb.met++[lessV x1 x2]:=rfl
    rw[←hms]at hwr
    obtain⟨b,hbb⟩:∃b,lessV x1 x2=b:=⟨_,rfl⟩
    rw[hbb]at cl hst
    obtain⟨s',hs'⟩:∃s',lessS tb x1 x2=s':=⟨_,rfl⟩
    rw[hs']at cl hst hwr
    have hba:xs.getD (bestF false xs s (n+1)).pick (.q 0)=if b=true then x2 else x1:=by
     rw[hst]
     cases b
     ·exact hx1
     ·exact hx2
    rw[hx2]at hxa
    rw[hx1]
    simp only[Vx_T]at cl
    simp-implicitDefEqProofs+decide only[go_sem,hop]
    refine Goes.drawP mixed (Calm.of (by repeat first|exact Clean.und|refine Clean.upd ?_ rfl|refine Clean.upd ?_ (by simp only[cleanA,cleanL,])) (by repeat first|exact HCalm.none|exact HCalm.hb hb|exact HCalm.hb (bank_hb hb)|refine HCalm.row ?_|refine HCalm.box ?_ (by first|rfl|(simp only[cleanA,cleanL,];done)|assumption))) ?_
    simp-implicitDefEqProofs+decide only[go_sem,hxa,Vx_T,sCX_succ]
    refine CallD.make _ [(.obj id,obG id md s'),(.fld id 4,o)] 0 Tryz.call132 cl rfl hb (by rintro (_|_|_|_|_) hp<;>first|(cases hp;done)|simp-implicitDefEqProofs+decide only[go_sem]) (fun l _=>hwr l) rfl (.inr rfl) ?_
    refine Sm ?_
    refine⟨.mk (by kernel_rfl),?_⟩
    apply run_sound 200
    cases b with
    | true =>
      simp only[if_true]at hba hst
      simp-implicitDefEqProofs+decide only[go_sem,hxa,Vx_T,hw,ofH,hloc]
      refine hJ (n+1) _ (by omega) (by omega) (Wk.boxes _ _ (bkU_hb B.hb) rfl rfl ?_ (fun l hp=> ?_) ?_ ?_)
      ·simp-implicitDefEqProofs+decide only[go_sem,ofH,hloc,hba,sCX_succ]<;>first|rfl|exact⟨rfl,rfl⟩|skip
      ·cases l<;>first|(cases hp;done)|simp-implicitDefEqProofs+decide only[go_sem,hst,hwr,ofH]
      ·simp-implicitDefEqProofs+decide only[go_sem,sX,hst]<;>rfl
      ·simp-implicitDefEqProofs+decide only[go_sem,sX]
    | false =>
      simp only[Bool.false_eq_true,if_false]at hba hst
      simp-implicitDefEqProofs+decide only[go_sem,hw,ofH]
      refine hJ (n+1) _ (by omega) (by omega) (Wk.boxes _ _ (bkU_hb B.hb) rfl rfl ?_ (fun l hp=> ?_) ?_ ?_)
      ·simp-implicitDefEqProofs+decide only[go_sem,ofH,hloc,hba,sCX_succ]<;>first|rfl|exact⟨rfl,rfl⟩|skip
      ·cases l<;>first|(cases hp;done)|simp-implicitDefEqProofs+decide only[go_sem,hst,hwr,ofH]
      ·simp-implicitDefEqProofs+decide only[go_sem,sX,hst]<;>rfl
      ·simp-implicitDefEqProofs+decide only[go_sem,sX]
 ·obtain rfl:n=xs.length-1:=by omega
  rw[hs]
  simp only[Vx_T]
  simp-implicitDefEqProofs+decide only[go_sem,ofH,sCX_succ]
  exact endC.twoV (.inr rfl) (by simp-implicitDefEqProofs+decide only[go_sem,valC];rfl) (by simp-implicitDefEqProofs+decide only[go_sem,valC];rfl) rfl rfl (by rintro (_|_|_|_|_) hp<;>first|(cases hp;done)|simp-implicitDefEqProofs+decide only[go_sem,hloc]) rfl
end Go.Fm
/- Reductions: what comes of groups. -/
namespace Go.Fm
open Go.Proofs
set_option maxRecDepth 100000
attribute [local irreducible] tiOf

structure GL (L:List (List Int)) (N:Nat):Prop where
 ne:1≤L.length
 len:L.length≤64
 each:∀g∈L,1≤g.length∧g.length≤64∧∀z∈g,0≤z∧z<(N:Int)
theorem GL_of {mk:List Bool} {d:List Int} (G:Grp mk d):GL (groupsL mk d) (prodL d).toNat:=by
 have hK:=(chk0 (kept_chk G.c G.l).1).2.2
 have hN:=(chk0 G.c).2.2
 refine⟨by simp[groupsL];omega,by simp[groupsL];omega,fun g hg=> ?_⟩
 obtain⟨k,hk,rfl⟩:=List.mem_map.1 hg
 have hk:=List.mem_range.1 hk
 obtain⟨_,h2,h3⟩:=G.first (show(k:Int)<_ by omega)
 refine⟨?_,Nat.le_trans (grpL_len mk d _ k) (by omega),fun z hz=> ?_⟩
 ·have:((firstG mk d k:Nat):Int)∈grpL mk d (prodL d).toNat k:=by
   unfold grpL
   exact List.mem_map.2 ⟨firstG mk d k,List.mem_filter.2 ⟨List.mem_range.2 (by omega),by simpa using h3⟩,rfl⟩
  exact List.length_pos_of_mem this
 ·unfold grpL at hz
  obtain⟨n,hn,rfl⟩:=List.mem_map.1 hz
  have:=List.mem_range.1 (List.mem_filter.1 hn).1
  omega
def pickX (v:List Vx) (g:List Int):List Vx:=g.map fun z=>v.getD z.toNat (.q 0)
theorem pickX_length (v:List Vx) (g:List Int):(pickX v g).length=g.length:=by simp[pickX]
theorem pickX_snoc {v:List Vx} {g:List Int} {i n:Nat} {y:Vx} (hg:g[i]?=some (n:Int)) (hy:v[n]?=some y):(pickX v (g.take i)).map Vx.T++[y.T]=(pickX v (g.take (i+1))).map Vx.T:=by
 unfold pickX
 rw[take_snoc hg,List.map_append,List.map_append]
 simp[hy]
theorem pickX_mem {v:List Vx} {g:List Int} {md:Int} {B:Nat} (hv:AllX md B v) (hg:∀z∈g,0≤z∧z<(v.length:Int)):AllX md B (pickX v g):=fun r hr=>by
 obtain⟨z,hz,rfl⟩:=List.mem_map.1 hr
 have:=hg z hz
 obtain⟨y,hy⟩:=getI (show z.toNat<v.length by omega)
 rw[List.getD_eq_getElem?_getD,hy,Option.getD_some]
 exact hv y (List.mem_of_getElem? hy)
def numN (md:Int) (n:Int):Vx:=numV md ((n:Rat)/((1:Int):Rat))
structure Grs where
 v:Vx
 p:Nat
 b:Bs
def bestL (op:Int) (xs:List Vx) (s:Bs):Bst:=bestF (decide (op=30)) xs s (xs.length-1)
def grpV (op md:Int) (many:Vx) (xs:List Vx) (s:Bs):Grs:=
 if op=27 then ⟨sumX (xs.headD (.q 0)) xs.tail,0,⟨s.k+xs.tail.length,s.met,s.tie⟩⟩
 else if op=28 then ⟨divV (sumX (xs.headD (.q 0)) xs.tail) many,0,⟨s.k+xs.tail.length+1,s.met,s.tie⟩⟩
 else if op=31 then ⟨numN md (bestL op xs s).pick,(bestL op xs s).pick,(bestL op xs s).b⟩
 else ⟨xs.getD (bestL op xs s).pick (.q 0),(bestL op xs s).pick,(bestL op xs s).b⟩
structure Dst where
 vals:List Vx
 which:List Int
 b:Bs
def doX (op md:Int) (many:Vx) (v:List Vx) (L:List (List Int)) (s:Bs):Nat→Dst
 |0=>⟨[],[],s⟩
 |i+1=>⟨(doX op md many v L s i).vals++[(grpV op md many (pickX v (L.getD i [])) (doX op md many v L s i).b).v],(doX op md many v L s i).which++[((grpV op md many (pickX v (L.getD i [])) (doX op md many v L s i).b).p:Int)],(grpV op md many (pickX v (L.getD i [])) (doX op md many v L s i).b).b⟩
theorem doX_len (op md:Int) (many:Vx) (v:List Vx) (L:List (List Int)) (s:Bs):∀i,(doX op md many v L s i).vals.length=i∧(doX op md many v L s i).which.length=i
 |0=>⟨rfl,rfl⟩
 | i + 1 => by
   have:=doX_len op md many v L s i
   unfold doX
   dsimp only
   rw[List.length_append,List.length_append,this.1,this.2]
   exact⟨rfl,rfl⟩
theorem grpV_b (op md:Int) (many:Vx) (xs:List Vx) (s:Bs):(grpV op md many xs s).b.met.length≤s.met.length+xs.length∧(grpV op md many xs s).b.k≤s.k+xs.length+1:=by
 have h1:=bestF_met (decide (op=30)) xs s (xs.length-1)
 have h2:=bestF_k (decide (op=30)) xs s (xs.length-1)
 unfold grpV bestL
 split
 ·dsimp only;rw[List.length_tail];omega
 split
 ·dsimp only;rw[List.length_tail];omega
 split
 ·dsimp only;omega
 ·dsimp only;omega
theorem doX_b {op md:Int} {many:Vx} {v:List Vx} {L:List (List Int)} {N:Nat} {s:Bs} (G:GL L N):∀i,(doX op md many v L s i).b.met.length≤s.met.length+i*64∧(doX op md many v L s i).b.k≤s.k+i*65
 |0=>⟨Nat.le_refl _,Nat.le_refl _⟩
 | i + 1 => by
   have h1:=doX_b (op:=op) (md:=md) (many:=many) (v:=v) (s:=s) G i
   have h2:=grpV_b op md many (pickX v (L.getD i [])) (doX op md many v L s i).b
   have:(L.getD i []).length≤64:=by
    rw[List.getD_eq_getElem?_getD]
    cases hg:L[i]? with
    |none=>simp
    |some g=>exact(G.each g (List.mem_of_getElem? hg)).2.1
   rw[pickX_length]at h2
   unfold doX
   dsimp only
   rw[Nat.add_mul,Nat.add_mul]
   omega
theorem grpV_ok {op md:Int} (hmd:md=0∨md=1) {many:Vx} {xs:List Vx} {s:Bs} (hx:AllX md 9 xs) (h1:1≤xs.length) (h64:xs.length≤64) (hm:many.md=md∧many.B 2∧many.nz):
  (grpV op md many xs s).v.md=md∧(grpV op md many xs s).v.B 1000∧(grpV op md many xs s).p<xs.length:=by
 obtain⟨y,l,rfl⟩:∃y l,xs=y::l:=by
  cases xs with
  |nil=>simp at h1
  |cons a l=>exact⟨a,l,rfl⟩
 have hs:=sumX_ok (x:=y) (l:=l) (hx y (.head _)) (fun v hv=>hx v (.tail _ hv)) l.length
 rw[List.take_length]at hs
 have hlen:(y::l).length=l.length+1:=rfl
 have hB:(l.length+1)*(9+1)≤998:=by omega
 have hp:=bestF_pick (decide (op=30)) (y::l) s ((y::l).length-1)
 have hpl:(bestL op (y::l) s).pick<(y::l).length:=by unfold bestL;omega
 unfold grpV
 split
 ·exact⟨hs.1,hs.2.1.mono (by omega),h1⟩
 split
 ·refine⟨(divV_md (hs.1.trans hm.1.symm)).trans hs.1,(divV_B (hs.1.trans hm.1.symm) hs.2.1 hm.2.1 hm.2.2).mono (by omega),h1⟩
 split
 ·exact⟨numV_md hmd _,numV_B ((QB_div (by decide) (by omega) (by decide)).mono (by decide)),hpl⟩
 ·have h:=hx _ (List.mem_of_getElem? (getD_X hpl))
  exact⟨h.1,h.2.mono (by omega),hpl⟩
theorem doX_ok {op md:Int} (hmd:md=0∨md=1) {many:Vx} {v:List Vx} {L:List (List Int)} {s:Bs} (hv:AllX md 9 v) (G:GL L v.length) (hm:many.md=md∧many.B 2∧many.nz):∀i,i≤L.length→AllX md 1000 (doX op md many v L s i).vals
 |0,_=>fun r hr=>absurd hr List.not_mem_nil
 | i + 1, hi => by
   have ih:=doX_ok (op:=op) (s:=s) hmd hv G hm i (by omega)
   obtain⟨g,hg⟩:=getI (show i<L.length by omega)
   have hgd:L.getD i []=g:=by rw[List.getD_eq_getElem?_getD,hg];rfl
   obtain⟨g1,g64,gz⟩:=G.each g (List.mem_of_getElem? hg)
   have hgr:=grpV_ok (op:=op) (s:=(doX op md many v L s i).b) hmd (pickX_mem hv gz) (by rw[pickX_length];exact g1) (by rw[pickX_length];exact g64) hm
   intro r hr
   unfold doX at hr
   rw[hgd]at hr
   rcases List.mem_append.1 hr with h|h
   ·exact ih r h
   ·rw[List.mem_singleton.1 h];exact⟨hgr.1,hgr.2.1⟩
theorem numN_ok {md n:Int} (hmd:md=0∨md=1) (h1:1≤n) (h2:n≤64):(numN md n).md=md∧(numN md n).B 2∧(numN md n).nz∧(numN md n).Zi 200:=by
 have hr:(n:Rat)/((1:Int):Rat)=(n:Rat):=by
  rw[Rat.div_def]
  have:((1:Int):Rat)⁻¹=1:=by decide+kernel
  rw[this,Rat.mul_one]
 have hne:(n:Rat)≠0:=int_ne (by omega)
 refine⟨numV_md hmd _,numV_B (QB_div (by decide) (by omega) (by decide)),?_,?_⟩
 ·unfold numN numV
  rw[hr]
  split
  ·exact hne
  ·trivial
 ·unfold numN numV
  rw[hr]
  split
  ·exact(ZB_of (QB_inv hne (QB_int (by omega)))).mono (by decide)
  ·trivial
end Go.Fm
/- Reductions, in the program. -/
namespace Go.Fm
open Go.Proofs
set_option maxRecDepth 100000
attribute [local irreducible] tiOf

theorem manyG_ok (h:Heap) (m id k:Nat) (md:Int) (hmd:md=0∨md=1) (mc:AV) (tie:Bool) (g:List Int) (L:List (List Int)) (hb:∀l,Lab.pool l=false→h l=none) (hk:h (.obj id)=some (bankG md mc k tie)) (hg:g.length<1000000000) (hL:L.length<1000000000):
  Ret Tryz.prog 31 [.ptr id,sL (g::L)] h m [.t (numN md g.length).T] h m:=by
 have hloc:∀d j,h (.loc d j)=none:=fun d j=>hb _ rfl
 have c1:=numG_ok h m id k md mc tie g.length 1 hmd hb hk (by decide) (by omega) (by omega) (by decide) (by decide)
 unfold numN
 generalize numV md (((g.length:Int):Rat)/((1:Int):Rat))=v at*
 simp only[Vx_T]at c1⊢
 have hne:decide (((L.length+1:Nat):Int)=0)=false:=decide_eq_false (by omega)
 refine Ret.introC Tryz.func31 rfl (rv:=[.c 4 68]) rfl (by simp[Tryz.ntmps31]) (by decide) (sites:=fun _=>false) hb (Keeps.refl _) ?_
 apply run_sound 200
 simp-implicitDefEqProofs+decide only[go_sem,hloc,sL,List.map_cons,List.length_cons,List.length_map,hne,sI,List.getElem?_cons_zero]
 refine CallG.pool _ Tryz.call64 c1 hb (by rintro (_|_|_|_|_) hp<;>first|(cases hp;done)|simp-implicitDefEqProofs+decide only[go_sem]) ?_
 apply run_sound 200
 simp-implicitDefEqProofs+decide only[go_sem,hloc,sW]
 exact endC.oneV (.inr rfl) (by first|(simp-implicitDefEqProofs+decide only[go_sem,valC,hloc,sW];done)|(simp-implicitDefEqProofs+decide only[go_sem,valC,hloc,sW];rfl)) (by first|rfl|(simp-implicitDefEqProofs+decide only[go_sem,hloc,sW];done)|(simp-implicitDefEqProofs+decide only[go_sem,hloc,sW];rfl)) (by rintro (_|_|_|_|_) hp<;>first|(cases hp;done)|simp-implicitDefEqProofs+decide only[go_sem,hloc,sW]) rfl
theorem many0_ok (h:Heap) (m id:Nat) (hb:∀l,Lab.pool l=false→h l=none):
  Ret Tryz.prog 31 [.ptr id,.slice []] h m [.t (.agg [.bool false,.slice [],.slice [],.int .u64 0,.int .i64 0])] h m:=by
 have hloc:∀d j,h (.loc d j)=none:=fun d j=>hb _ rfl
 refine Ret.introC Tryz.func31 rfl (rv:=[.c 4 68]) rfl (by simp[Tryz.ntmps31]) (by decide) (sites:=fun _=>false) hb (Keeps.refl _) ?_
 apply run_sound 200
 simp-implicitDefEqProofs+decide only[go_sem,hloc]
 exact endC.oneV (.inr rfl) (by first|(simp-implicitDefEqProofs+decide only[go_sem,valC,hloc,sW];done)|(simp-implicitDefEqProofs+decide only[go_sem,valC,hloc,sW];rfl)) (by first|rfl|(simp-implicitDefEqProofs+decide only[go_sem,hloc,sW];done)|(simp-implicitDefEqProofs+decide only[go_sem,hloc,sW];rfl)) (by rintro (_|_|_|_|_) hp<;>first|(cases hp;done)|simp-implicitDefEqProofs+decide only[go_sem,hloc,sW]) rfl

set_option maxHeartbeats 4000000 in
theorem doG_ok (h:Heap) (m id:Nat) (md op:Int) (hmd:md=0∨md=1) (x:Atr) (d:List Int) (v:List Vx) (s:Bs) (L:List (List Int)) (g0:List Int) (Lr:List (List Int)) (hL:groupsL (marksI d.length (axesI op x)) d=L) (hLr:L=g0::Lr) (B:BkM h id 4 (obG id md s) s.met) (hop:27≤op∧op≤31)
  (hml:s.met.length<10000) (hkb:s.k<1000000) (hd:d.length<1000000000) (hl:x.list.length<9000000000000000000) (h0:(redE op x d).2=0) (hv:(v.length:Int)=cnt d) (hvq:AllX md 9 v):
  Ret Tryz.prog 23 [.ptr id,.int .i64 op,x.T,argX d v] h m [.t (sX (doX op md (numN md g0.length) v L s L.length).vals),.t (sI (doX op md (numN md g0.length) v L s L.length).which)]
   (bkU h id 4 (obG id md (doX op md (numN md g0.length) v L s L.length).b) (doX op md (numN md g0.length) v L s L.length).b.met) m:=by
 have hb:=B.hb
 have hb0:=hb
 have hloc:∀d j,h (.loc d j)=none:=fun d j=>hb _ rfl
 obtain⟨_,hc,_,_⟩:=red0 h0
 have hG:=grp_of hc (axesI op x)
 have c1:=redGroups_ok op x d hd hl h0
 have GG:=GL_of hG
 have hcd:cnt d=prodL d:=by unfold cnt;rw[if_pos hc]
 have hN:=(chk0 hc).2.2
 have c2:=count_ok d hd
 have c3:=errG_ok h m id s.k md _ s.tie hb B.o
 rw[show(prodL d).toNat=v.length by omega]at GG
 rw[hL]at c1 GG
 have hL1:=GG.ne
 have hL64:=GG.len
 have hg0:=GG.each g0 (by rw[hLr];exact .head _)
 have cm:=manyG_ok h m id s.k md hmd _ s.tie g0 Lr hb B.o (by omega) (by rw[hLr]at hL64;simp at hL64;omega)
 rw[←hLr]at cm
 have hmok:=numN_ok hmd (show 1≤(g0.length:Int) by omega) (by omega)
 obtain⟨many,hmany⟩:∃t,numN md g0.length=t:=⟨_,rfl⟩
 rw[hmany]at cm hmok⊢
 clear hLr hL
 have dz:decide ((L.length:Int)=0)=false:=decide_eq_false (by omega)
 have dv:decide ((v.length:Int)≠cnt d)=false:=decide_eq_false (by omega)
 have hlL:(L.map sI).length=L.length:=by simp
 obtain⟨a1,a2,a3,a4,a5,a6,a7,a8,ak,al⟩:=x
 have hu0:=bkU_self B
 refine Ret.intro Tryz.func23 rfl (rt:=[8,9]) rfl (by simp[Tryz.ntmps23]) (by decide) (sites:=fun _=>false) (bkU_hb hb) (bkU_keeps B) ?_
 unfold argX
 simp only[Atr.T,sI,I,sL]at c1 c2
 apply run_sound 200
 simp-implicitDefEqProofs+decide only[go_sem,hloc,Atr.T,I,sI,sX]
 refine CallG.pureS _ Tryz.call73 (c1) (by simp only[List.all_cons,List.all_nil,noPtr,noPtrL,noPtr_sW,noPtr_sI,noPtr_sV,noPtrL_U,noPtrL_I,noPtrL_vT,I,List.map_cons,List.map_nil,Bool.and_true,Bool.and_self]) (by first|rfl|(simp only[go_sem];done)|(simp only[go_sem];rfl)) ?_
 apply run_sound 200
 simp-implicitDefEqProofs+decide only[go_sem,hloc,sL,hlL]
 refine Goes.drawP mixed (Calm.of (by repeat first|exact Clean.und|refine Clean.upd ?_ rfl|refine Clean.upd ?_ (by simp only[cleanA,cleanL,])) (by repeat first|exact HCalm.none|exact HCalm.hb hb|exact HCalm.hb (bank_hb hb)|refine HCalm.row ?_|refine HCalm.box ?_ (by first|rfl|(simp only[cleanA,cleanL,];done)|assumption))) ?_
 simp-implicitDefEqProofs+decide only[go_sem,hloc,sL,hlL,dz,List.length_map]
 refine CallD.P _ Tryz.call54 c2 ?_
 simp-implicitDefEqProofs+decide only[go_sem,hloc,dv]
 refine CallD.look _ Tryz.call17 c3 rfl hb (by rintro (_|_|_|_|_) hp<;>first|(cases hp;done)|simp-implicitDefEqProofs+decide only[go_sem,hloc]) ?_
 refine Sm ?_
 refine⟨.mk (by kernel_rfl),?_⟩
 apply run_sound 200
 by_cases h28:op=28
 ·have d28:decide (op=28)=true:=decide_eq_true h28
  simp only[Vx_T]at cm
  simp-implicitDefEqProofs+decide only[go_sem,hloc,d28]
  refine CallG.pool _ Tryz.call31 cm hb (by rintro (_|_|_|_|_) hp<;>first|(cases hp;done)|simp-implicitDefEqProofs+decide only[go_sem,hloc]) ?_
  apply run_sound 200
  obtain⟨c,hcc⟩:∃c:Nat,1=c:=⟨_,rfl⟩
  have hsc:sCX c many=[.t (.bool many.neg),.t (sW many.p),.t (sW many.qq),.t (.int .u64 many.bits),.t (.int .i64 0)]:=by rw[←hcc];exact sCX_succ 0 many
  simp-implicitDefEqProofs+decide only[go_sem,hloc]
  refine Goes.wk (Wk.nilRow (d:=12) (lab:=.loc 101 0) (size:=5) (by simp-implicitDefEqProofs+decide only[go_sem]) (by simp-implicitDefEqProofs+decide only[go_sem,hloc]) rfl (by decide)) ?_
  refine Goes.wk (Wk.nilRow (d:=13) (lab:=.loc 102 0) (size:=1) (by simp-implicitDefEqProofs+decide only[go_sem]) (by simp-implicitDefEqProofs+decide only[go_sem,hloc]) rfl (by decide)) ?_
  refine Goes.loop (X:=Nat) (fun i=>⟨ofL [(0,.t (.ptr id)),(1,.t (.int .i64 op)),(7,.bp (.loc 7 0) 0),(11,.bp (.loc 11 0) 0),(12,.sl (.loc 101 0) i 0 i),(13,.sl (.loc 102 0) i 0 i),(48,.t (sL L)),(49,.t (.int .i64 L.length)),(50,.t (.int .i64 i))],
    ofH (bkU h id 4 (obG id md (doX op md many v L s i).b) (doX op md many v L s i).b.met) [(.loc 7 0,.box [.t (sI d),.t (sX v)]),(.loc 11 0,.box (sCX c many)),(.loc 101 0,.arr 5 ((doX op md many v L s i).vals.map Vx.T) i 0),(.loc 102 0,.arr 1 ((doX op md many v L s i).which.map I) i 0)],m⟩) (fun i=>i≤L.length) (fun i=>L.length-i) 0 ?_ (by omega) ?_
  ·have e1:doX op md many v L s 0=⟨[],[],s⟩:=rfl
   rw[e1]
   dsimp only
   rw[hu0]
   refine Wk.boxes _ _ hb rfl (by rw[hsc];rfl) ?_ (by rintro (_|_|_|_|_) hp<;>first|(cases hp;done)|simp-implicitDefEqProofs+decide only[go_sem,hloc]) ?_ ?_
   ·simp-implicitDefEqProofs+decide only[go_sem,hloc,ofH,sI,sX,List.map_nil,hsc]<;>first|rfl|exact⟨rfl,rfl⟩|exact⟨rfl,rfl,rfl⟩|skip
   ·simp-implicitDefEqProofs+decide only[go_sem,sX,sL]<;>rfl
   ·simp-implicitDefEqProofs+decide only[go_sem,sX]
  rintro i hi J hJ
  have hdl:=doX_len op md many v L s i
  have hdm:=doX_b (op:=op) (md:=md) (many:=many) (v:=v) (s:=s) GG i
  have hst:doX op md many v L s (i+1)=⟨(doX op md many v L s i).vals++[(grpV op md many (pickX v (L.getD i [])) (doX op md many v L s i).b).v],(doX op md many v L s i).which++[((grpV op md many (pickX v (L.getD i [])) (doX op md many v L s i).b).p:Int)],(grpV op md many (pickX v (L.getD i [])) (doX op md many v L s i).b).b⟩:=rfl
  obtain⟨⟨vs,wh,sb⟩,hs⟩:∃t,doX op md many v L s i=t:=⟨_,rfl⟩
  rw[hs]at hdl hdm hst⊢
  dsimp only at hdl hdm hst⊢
  apply run_sound 200
  simp-implicitDefEqProofs+decide only[go_sem,sL]
  refine selP_dec (fun hc1=> ?_) (fun hc1=> ?_)
  rotate_left
  ·obtain rfl:i=L.length:=by omega
   rw[hs]
   simp-implicitDefEqProofs+decide only[go_sem,ofH]
   exact endF.row2 (.inr rfl) (by simp-implicitDefEqProofs+decide only[go_sem];rfl) (by simp-implicitDefEqProofs+decide only[go_sem];rfl) (by rw[List.length_map,hdl.1]) rfl (by simp-implicitDefEqProofs+decide only[go_sem];rfl) (by simp-implicitDefEqProofs+decide only[go_sem];rfl) (by rw[List.length_map,hdl.2]) rfl (by rintro (_|_|_|_|_) hp<;>first|(cases hp;done)|simp-implicitDefEqProofs+decide only[go_sem,hloc]) rfl
  obtain⟨g,hg⟩:=getI (show i<L.length by omega)
  have hgd:L.getD i []=g:=by rw[List.getD_eq_getElem?_getD,hg];rfl
  obtain⟨g1,g64,gz⟩:=GG.each g (List.mem_of_getElem? hg)
  rw[hgd]at hst
  have hb2:=bkU_hb (id:=id) (f:=4) (o:=obG id md sb) (met:=sb.met) hb
  have hlu:∀d j,bkU h id 4 (obG id md sb) sb.met (.loc d j)=none:=fun d j=>hb2 _ rfl
  have hwi:=wS (show i<1000000000000 by omega)
  simp-implicitDefEqProofs+decide only[go_sem,hg,sI]
  refine Goes.wk (Wk.nilRow (d:=16) (lab:=.loc 103 0) (size:=5) (by simp-implicitDefEqProofs+decide only[go_sem]) (by simp-implicitDefEqProofs+decide only[go_sem,hlu,ofH]) rfl (by decide)) ?_
  refine Goes.loop (X:=Nat) (fun j=>⟨ofL [(0,.t (.ptr id)),(1,.t (.int .i64 op)),(7,.bp (.loc 7 0) 0),(11,.bp (.loc 11 0) 0),(12,.sl (.loc 101 0) i 0 i),(13,.sl (.loc 102 0) i 0 i),(16,.sl (.loc 103 0) j 0 j),(48,.t (sL L)),(49,.t (.int .i64 L.length)),(50,.t (.int .i64 i)),(54,.t (sI g)),(55,.t (.int .i64 g.length)),(56,.t (.int .i64 j))],
    ofH (bkU h id 4 (obG id md sb) sb.met) [(.loc 7 0,.box [.t (sI d),.t (sX v)]),(.loc 11 0,.box (sCX c many)),(.loc 101 0,.arr 5 (vs.map Vx.T) i 0),(.loc 102 0,.arr 1 (wh.map I) i 0),(.loc 103 0,.arr 5 ((pickX v (g.take j)).map Vx.T) j 0)],m⟩) (fun j=>j≤g.length) (fun j=>g.length-j) 0 ?_ (by omega) ?_
  ·refine Wk.boxes _ _ hb2 rfl (by rw[hsc];rfl) ?_ (by rintro (_|_|_|_|_) hp<;>first|(cases hp;done)|simp-implicitDefEqProofs+decide only[go_sem,hlu]) ?_ ?_
   ·simp-implicitDefEqProofs+decide only[go_sem,hlu,ofH,sI,sX,hsc]<;>first|rfl|exact⟨rfl,rfl⟩|skip
   ·simp-implicitDefEqProofs+decide only[go_sem,sX,sL,sI,List.length_map]<;>rfl
   ·simp-implicitDefEqProofs+decide only[go_sem,sX]
  rintro j hj J2 hJ2
  apply run_sound 200
  refine SmJ ?_
  refine selP_dec (fun hc2=> ?_) (fun hc2=> ?_)
  ·obtain⟨z,hz⟩:=getI (show j<g.length by omega)
   obtain⟨n,rfl⟩:∃n:Nat,z=(n:Int):=⟨z.toNat,by have:=gz z (List.mem_of_getElem? hz);omega⟩
   have hnv:=gz _ (List.mem_of_getElem? hz)
   obtain⟨y,hy⟩:=getI (show n<v.length by omega)
   have hwj:=wS (show j<1000000000000 by omega)
   have hnb:j+1<big:=by unfold big;omega
   have hpl:((pickX v (g.take j)).map Vx.T).length=j:=by rw[List.length_map,pickX_length,List.length_take];omega
   have hsn:=pickX_snoc hz hy
   rw[Vx_T]at hsn
   simp-implicitDefEqProofs+decide only[go_sem,hz,I,ofH,sX]
   simp-implicitDefEqProofs+decide only[go_sem,hy,Vx_T,hlu,hpl,hnb,hsn,hwj,Int.toNat_natCast]
   refine hJ2 (j+1) _ (by omega) (by omega) (Wk.boxes _ _ hb2 rfl (by rw[hsc];rfl) ?_ (by rintro (_|_|_|_|_) hp<;>first|(cases hp;done)|simp-implicitDefEqProofs+decide only[go_sem,hlu]) ?_ ?_)
   ·simp-implicitDefEqProofs+decide only[go_sem,hlu,ofH,sI,sX,hsc]<;>first|rfl|exact⟨rfl,rfl⟩|skip
   ·simp-implicitDefEqProofs+decide only[go_sem,sX,sL,sI]<;>rfl
   ·simp-implicitDefEqProofs+decide only[go_sem,sX]
  obtain rfl:j=g.length:=by omega
  rw[List.take_length]
  have hpl:=pickX_length v g
  have hxq:=pickX_mem hvq gz
  have hgo:=grpV_ok (op:=op) (s:=sb) hmd hxq (by omega) (by omega) ⟨hmok.1,hmok.2.1,hmok.2.2.1⟩
  have htk:List.take g.length ((pickX v g).map Vx.T)=(pickX v g).map Vx.T:=List.take_of_length_le (by rw[List.length_map,hpl];exact Nat.le_refl _)
  have hnb:i+1<big:=by unfold big;omega
  obtain⟨⟨y,pk,sb'⟩,hgr⟩:∃t,grpV op md many (pickX v g) sb=t:=⟨_,rfl⟩
  rw[hgr]at hst hgo
  dsimp only at hst hgo
  have cc:=copyX_ok y (hgo.2.1.mono (by decide))
  rw[Vx_T]at cc
  have hlu':∀d j,bkU h id 4 (obG id md sb') sb'.met (.loc d j)=none:=fun d j=>bkU_hb hb _ rfl
  have him:i*64≤4096:=Nat.mul_le_mul_right 64 (show i≤64 by omega)
  have hik:i*65≤4160:=Nat.mul_le_mul_right 65 (show i≤64 by omega)
  unfold grpV at hgr
  subst h28
  rw[if_neg (by decide),if_pos rfl]at hgr
  obtain⟨y0,rest,hyr⟩:∃y0 rest,pickX v g=y0::rest:=by
   cases hp:pickX v g with
   |nil=>rw[hp]at hpl;simp at hpl;omega
   |cons a l=>exact⟨a,l,rfl⟩
  have hrl:rest.length+1=g.length:=by rw[←hpl,hyr];rfl
  have cb:=sumG_ok (bkU h id 4 (obG id md sb) sb.met) m id sb.k md _ sb.tie y0 rest hb2 (bkU_M hb).o (by omega) (by omega) (hxq y0 (by rw[hyr];exact .head _)) (fun r hr=>hxq r (by rw[hyr];exact .tail _ hr))
  rw[bkU_up,←hyr]at cb
  rw[hyr,List.headD_cons,List.tail_cons]at hgr
  injection hgr with hy hpk hsb
  have hsx:=sumX_ok (x:=y0) (l:=rest) (md:=md) (B:=9) (hxq y0 (by rw[hyr];exact .head _)) (fun r hr=>hxq r (by rw[hyr];exact .tail _ hr)) rest.length
  rw[List.take_length]at hsx
  have hmB:(rest.length+1)*(9+1)≤10000000:=by omega
  have cd:=bankDivG_ok (bkU h id 4 (bankG md (mtC id 4 sb.met) (sb.k+rest.length) sb.tie) sb.met) m id (sb.k+rest.length) md (mtC id 4 sb.met) sb.tie (sumX y0 rest) many (bkU_hb hb) (bkU_M hb).o (by omega) hsx.1 hmok.1 (hsx.2.1.mono hmB) (hmok.2.1.mono (by decide)) hmok.2.2.1
  rw[bkU_up,hy]at cd
  have e5:obG id md sb'=bankG md (mtC id 4 sb.met) (sb.k+rest.length+1) sb.tie:=by rw[←hsb];rfl
  have e6:sb'.met=sb.met:=by rw[←hsb]
  rw[←e5,←e6]at cd
  have e4:wh.map I++[.int .i64 0]=(wh++[(pk:Int)]).map I:=by rw[←hpk,List.map_append];rfl
  generalize sumX y0 rest=y1 at*
  have hHH:∀l,bkU h id 4 (obG id md sb') sb'.met l=upd (bkU h id 4 (obG id md sb) sb.met) (.obj id) (some (obG id md sb')) l:=fun l=>by rw[e6,bkU_up]
  have hW1:=fun l=>(congrFun (bkU_up (h:=h) (id:=id) (f:=4) (o:=obG id md sb) (met:=sb.met) (o':=bankG md (mtC id 4 sb.met) (sb.k+rest.length) sb.tie)) l).symm
  have hW2:=fun l=>(congrFun (bkU_up (h:=h) (id:=id) (f:=4) (o:=bankG md (mtC id 4 sb.met) (sb.k+rest.length) sb.tie) (met:=sb.met) (o':=obG id md sb')) l).symm
  rw[e6]at cd hlu'
  obtain⟨o1,ho1⟩:∃o1,bankG md (mtC id 4 sb.met) (sb.k+rest.length) sb.tie=o1:=⟨_,rfl⟩
  rw[ho1]at cb cd hW1 hW2
  simp only[sX,Vx_T]at cb cd
  have hb:=hb2
  have hclean:=sCX_clean c many
  simp-implicitDefEqProofs+decide only[go_sem,hlu,ofH,htk]
  refine Goes.drawP mixed (Calm.of (by repeat first|exact Clean.und|refine Clean.upd ?_ rfl|refine Clean.upd ?_ (by simp only[cleanA,cleanL,])) (by repeat first|exact HCalm.none|exact HCalm.hb hb|exact HCalm.hb (bank_hb hb)|refine HCalm.row ?_|refine HCalm.box ?_ (by first|rfl|(simp only[cleanA,cleanL,];done)|assumption))) ?_
  simp-implicitDefEqProofs+decide only[go_sem,hlu,ofH,htk]
  refine CallD.make _ [(.obj id,o1)] 0 Tryz.call28 cb rfl hb2 (by rintro (_|_|_|_|_) hp<;>first|(cases hp;done)|simp-implicitDefEqProofs+decide only[go_sem,hlu]) (fun l _=>hW1 l) rfl (.inr rfl) ?_
  simp-implicitDefEqProofs+decide only[go_sem,hlu,hsc]
  refine CallD.make _ [(.obj id,obG id md sb')] 0 Tryz.call74 cd rfl (bkU_hb hb0) (by rintro (_|_|_|_|_) hp<;>first|(cases hp;done)|simp-implicitDefEqProofs+decide only[go_sem,hlu,hW1]) (fun l _=>hW2 l) rfl (.inr rfl) ?_
  refine Sm ?_
  refine⟨.mk (by kernel_rfl),?_⟩
  apply run_sound 200
  have e1:(vs.map Vx.T).length=i:=by rw[List.length_map,hdl.1]
  have e2:(wh.map I).length=i:=by rw[List.length_map,hdl.2]
  have e3:vs.map Vx.T++[.agg [.bool y.neg,sW y.p,sW y.qq,.int .u64 y.bits,.int .i64 0]]=(vs++[y]).map Vx.T:=by rw[List.map_append,←Vx_T];rfl
  obtain⟨vs',hvs'⟩:∃l,vs++[y]=l:=⟨_,rfl⟩
  obtain⟨wh',hwh'⟩:∃l,wh++[(pk:Int)]=l:=⟨_,rfl⟩
  rw[hvs']at e3 hst
  rw[hwh']at e4 hst
  simp-implicitDefEqProofs+decide only[go_sem,hlu,hlu']
  refine CallG.PS _ Tryz.call67 (cc) ?_
  simp-implicitDefEqProofs+decide only[go_sem,hlu,hlu',e1,e2,e3,e4,hnb,hwi]
  refine hJ (i+1) _ (by omega) (by omega) (Wk.boxes _ _ (bkU_hb hb0) rfl (by rw[hsc];rfl) ?_ (by rintro (_|_|_|_|_) hp<;>first|(cases hp;done)|simp-implicitDefEqProofs+decide only[go_sem,hst,hHH]) ?_ ?_)
  ·simp-implicitDefEqProofs+decide only[go_sem,hlu,hlu',ofH,sI,sX,hst,hsc]<;>first|rfl|exact⟨rfl,rfl⟩|skip
  ·simp-implicitDefEqProofs+decide only[go_sem,sX,sL,sI]<;>rfl
  ·simp-implicitDefEqProofs+decide only[go_sem,sX]
 ·have d28:decide (op=28)=false:=decide_eq_false h28
  obtain⟨c,hcc⟩:∃c:Nat,0=c:=⟨_,rfl⟩
  have hsc:sCX c many=[.t (.bool false),.nil,.nil,.t (.int .u64 0),.t (.int .i64 0)]:=by rw[←hcc];exact sCX_zero many
  simp-implicitDefEqProofs+decide only[go_sem,hloc,d28]
  refine Goes.wk (Wk.nilRow (d:=12) (lab:=.loc 101 0) (size:=5) (by simp-implicitDefEqProofs+decide only[go_sem]) (by simp-implicitDefEqProofs+decide only[go_sem,hloc]) rfl (by decide)) ?_
  refine Goes.wk (Wk.nilRow (d:=13) (lab:=.loc 102 0) (size:=1) (by simp-implicitDefEqProofs+decide only[go_sem]) (by simp-implicitDefEqProofs+decide only[go_sem,hloc]) rfl (by decide)) ?_
  refine Goes.loop (X:=Nat) (fun i=>⟨ofL [(0,.t (.ptr id)),(1,.t (.int .i64 op)),(7,.bp (.loc 7 0) 0),(11,.bp (.loc 11 0) 0),(12,.sl (.loc 101 0) i 0 i),(13,.sl (.loc 102 0) i 0 i),(48,.t (sL L)),(49,.t (.int .i64 L.length)),(50,.t (.int .i64 i))],
    ofH (bkU h id 4 (obG id md (doX op md many v L s i).b) (doX op md many v L s i).b.met) [(.loc 7 0,.box [.t (sI d),.t (sX v)]),(.loc 11 0,.box (sCX c many)),(.loc 101 0,.arr 5 ((doX op md many v L s i).vals.map Vx.T) i 0),(.loc 102 0,.arr 1 ((doX op md many v L s i).which.map I) i 0)],m⟩) (fun i=>i≤L.length) (fun i=>L.length-i) 0 ?_ (by omega) ?_
  ·have e1:doX op md many v L s 0=⟨[],[],s⟩:=rfl
   rw[e1]
   dsimp only
   rw[hu0]
   refine Wk.boxes _ _ hb rfl (by rw[hsc];rfl) ?_ (by rintro (_|_|_|_|_) hp<;>first|(cases hp;done)|simp-implicitDefEqProofs+decide only[go_sem,hloc]) ?_ ?_
   ·simp-implicitDefEqProofs+decide only[go_sem,hloc,ofH,sI,sX,List.map_nil,hsc]<;>first|rfl|exact⟨rfl,rfl⟩|exact⟨rfl,rfl,rfl⟩|skip
   ·simp-implicitDefEqProofs+decide only[go_sem,sX,sL]<;>rfl
   ·simp-implicitDefEqProofs+decide only[go_sem,sX]
  rintro i hi J hJ
  have hdl:=doX_len op md many v L s i
  have hdm:=doX_b (op:=op) (md:=md) (many:=many) (v:=v) (s:=s) GG i
  have hst:doX op md many v L s (i+1)=⟨(doX op md many v L s i).vals++[(grpV op md many (pickX v (L.getD i [])) (doX op md many v L s i).b).v],(doX op md many v L s i).which++[((grpV op md many (pickX v (L.getD i [])) (doX op md many v L s i).b).p:Int)],(grpV op md many (pickX v (L.getD i [])) (doX op md many v L s i).b).b⟩:=rfl
  obtain⟨⟨vs,wh,sb⟩,hs⟩:∃t,doX op md many v L s i=t:=⟨_,rfl⟩
  rw[hs]at hdl hdm hst⊢
  dsimp only at hdl hdm hst⊢
  apply run_sound 200
  simp-implicitDefEqProofs+decide only[go_sem,sL]
  refine selP_dec (fun hc1=> ?_) (fun hc1=> ?_)
  rotate_left
  ·obtain rfl:i=L.length:=by omega
   rw[hs]
   simp-implicitDefEqProofs+decide only[go_sem,ofH]
   exact endF.row2 (.inr rfl) (by simp-implicitDefEqProofs+decide only[go_sem];rfl) (by simp-implicitDefEqProofs+decide only[go_sem];rfl) (by rw[List.length_map,hdl.1]) rfl (by simp-implicitDefEqProofs+decide only[go_sem];rfl) (by simp-implicitDefEqProofs+decide only[go_sem];rfl) (by rw[List.length_map,hdl.2]) rfl (by rintro (_|_|_|_|_) hp<;>first|(cases hp;done)|simp-implicitDefEqProofs+decide only[go_sem,hloc]) rfl
  obtain⟨g,hg⟩:=getI (show i<L.length by omega)
  have hgd:L.getD i []=g:=by rw[List.getD_eq_getElem?_getD,hg];rfl
  obtain⟨g1,g64,gz⟩:=GG.each g (List.mem_of_getElem? hg)
  rw[hgd]at hst
  have hb2:=bkU_hb (id:=id) (f:=4) (o:=obG id md sb) (met:=sb.met) hb
  have hlu:∀d j,bkU h id 4 (obG id md sb) sb.met (.loc d j)=none:=fun d j=>hb2 _ rfl
  have hwi:=wS (show i<1000000000000 by omega)
  simp-implicitDefEqProofs+decide only[go_sem,hg,sI]
  refine Goes.wk (Wk.nilRow (d:=16) (lab:=.loc 103 0) (size:=5) (by simp-implicitDefEqProofs+decide only[go_sem]) (by simp-implicitDefEqProofs+decide only[go_sem,hlu,ofH]) rfl (by decide)) ?_
  refine Goes.loop (X:=Nat) (fun j=>⟨ofL [(0,.t (.ptr id)),(1,.t (.int .i64 op)),(7,.bp (.loc 7 0) 0),(11,.bp (.loc 11 0) 0),(12,.sl (.loc 101 0) i 0 i),(13,.sl (.loc 102 0) i 0 i),(16,.sl (.loc 103 0) j 0 j),(48,.t (sL L)),(49,.t (.int .i64 L.length)),(50,.t (.int .i64 i)),(54,.t (sI g)),(55,.t (.int .i64 g.length)),(56,.t (.int .i64 j))],
    ofH (bkU h id 4 (obG id md sb) sb.met) [(.loc 7 0,.box [.t (sI d),.t (sX v)]),(.loc 11 0,.box (sCX c many)),(.loc 101 0,.arr 5 (vs.map Vx.T) i 0),(.loc 102 0,.arr 1 (wh.map I) i 0),(.loc 103 0,.arr 5 ((pickX v (g.take j)).map Vx.T) j 0)],m⟩) (fun j=>j≤g.length) (fun j=>g.length-j) 0 ?_ (by omega) ?_
  ·refine Wk.boxes _ _ hb2 rfl (by rw[hsc];rfl) ?_ (by rintro (_|_|_|_|_) hp<;>first|(cases hp;done)|simp-implicitDefEqProofs+decide only[go_sem,hlu]) ?_ ?_
   ·simp-implicitDefEqProofs+decide only[go_sem,hlu,ofH,sI,sX,hsc]<;>first|rfl|exact⟨rfl,rfl⟩|skip
   ·simp-implicitDefEqProofs+decide only[go_sem,sX,sL,sI,List.length_map]<;>rfl
   ·simp-implicitDefEqProofs+decide only[go_sem,sX]
  rintro j hj J2 hJ2
  apply run_sound 200
  refine SmJ ?_
  refine selP_dec (fun hc2=> ?_) (fun hc2=> ?_)
  ·obtain⟨z,hz⟩:=getI (show j<g.length by omega)
   obtain⟨n,rfl⟩:∃n:Nat,z=(n:Int):=⟨z.toNat,by have:=gz z (List.mem_of_getElem? hz);omega⟩
   have hnv:=gz _ (List.mem_of_getElem? hz)
   obtain⟨y,hy⟩:=getI (show n<v.length by omega)
   have hwj:=wS (show j<1000000000000 by omega)
   have hnb:j+1<big:=by unfold big;omega
   have hpl:((pickX v (g.take j)).map Vx.T).length=j:=by rw[List.length_map,pickX_length,List.length_take];omega
   have hsn:=pickX_snoc hz hy
   rw[Vx_T]at hsn
   simp-implicitDefEqProofs+decide only[go_sem,hz,I,ofH,sX]
   simp-implicitDefEqProofs+decide only[go_sem,hy,Vx_T,hlu,hpl,hnb,hsn,hwj,Int.toNat_natCast]
   refine hJ2 (j+1) _ (by omega) (by omega) (Wk.boxes _ _ hb2 rfl (by rw[hsc];rfl) ?_ (by rintro (_|_|_|_|_) hp<;>first|(cases hp;done)|simp-implicitDefEqProofs+decide only[go_sem,hlu]) ?_ ?_)
   ·simp-implicitDefEqProofs+decide only[go_sem,hlu,ofH,sI,sX,hsc]<;>first|rfl|exact⟨rfl,rfl⟩|skip
   ·simp-implicitDefEqProofs+decide only[go_sem,sX,sL,sI]<;>rfl
   ·simp-implicitDefEqProofs+decide only[go_sem,sX]
  obtain rfl:j=g.length:=by omega
  rw[List.take_length]
  have hpl:=pickX_length v g
  have hxq:=pickX_mem hvq gz
  have hgo:=grpV_ok (op:=op) (s:=sb) hmd hxq (by omega) (by omega) ⟨hmok.1,hmok.2.1,hmok.2.2.1⟩
  have htk:List.take g.length ((pickX v g).map Vx.T)=(pickX v g).map Vx.T:=List.take_of_length_le (by rw[List.length_map,hpl];exact Nat.le_refl _)
  have hnb:i+1<big:=by unfold big;omega
  obtain⟨⟨y,pk,sb'⟩,hgr⟩:∃t,grpV op md many (pickX v g) sb=t:=⟨_,rfl⟩
  rw[hgr]at hst hgo
  dsimp only at hst hgo
  have cc:=copyX_ok y (hgo.2.1.mono (by decide))
  rw[Vx_T]at cc
  have hlu':∀d j,bkU h id 4 (obG id md sb') sb'.met (.loc d j)=none:=fun d j=>bkU_hb hb _ rfl
  have him:i*64≤4096:=Nat.mul_le_mul_right 64 (show i≤64 by omega)
  have hik:i*65≤4160:=Nat.mul_le_mul_right 65 (show i≤64 by omega)
  unfold grpV at hgr
  by_cases h27:op=27
  ·subst h27
   rw[if_pos rfl]at hgr
   obtain⟨y0,rest,hyr⟩:∃y0 rest,pickX v g=y0::rest:=by
    cases hp:pickX v g with
    |nil=>rw[hp]at hpl;simp at hpl;omega
    |cons a l=>exact⟨a,l,rfl⟩
   have hrl:rest.length+1=g.length:=by rw[←hpl,hyr];rfl
   have cb:=sumG_ok (bkU h id 4 (obG id md sb) sb.met) m id sb.k md _ sb.tie y0 rest hb2 (bkU_M hb).o (by omega) (by omega) (hxq y0 (by rw[hyr];exact .head _)) (fun r hr=>hxq r (by rw[hyr];exact .tail _ hr))
   rw[bkU_up,←hyr]at cb
   rw[hyr,List.headD_cons,List.tail_cons]at hgr
   injection hgr with hy hpk hsb
   have e5:obG id md sb'=bankG md (mtC id 4 sb.met) (sb.k+rest.length) sb.tie:=by rw[←hsb];rfl
   have e6:sb'.met=sb.met:=by rw[←hsb]
   have e7:bkU h id 4 (bankG md (mtC id 4 sb.met) (sb.k+rest.length) sb.tie) sb.met=bkU h id 4 (obG id md sb') sb'.met:=by rw[e5,e6]
   rw[e7,hy]at cb
   have e4:wh.map I++[.int .i64 0]=(wh++[(pk:Int)]).map I:=by rw[←hpk,List.map_append];rfl
   simp only[sX,Vx_T]at cb
   simp-implicitDefEqProofs+decide only[go_sem,hlu,ofH,htk]
   refine CallG.pool _ Tryz.call28 cb hb2 (by rintro (_|_|_|_|_) hp<;>first|(cases hp;done)|simp-implicitDefEqProofs+decide only[go_sem,hlu]) ?_
   apply run_sound 200
   have e1:(vs.map Vx.T).length=i:=by rw[List.length_map,hdl.1]
   have e2:(wh.map I).length=i:=by rw[List.length_map,hdl.2]
   have e3:vs.map Vx.T++[.agg [.bool y.neg,sW y.p,sW y.qq,.int .u64 y.bits,.int .i64 0]]=(vs++[y]).map Vx.T:=by rw[List.map_append,←Vx_T];rfl
   obtain⟨vs',hvs'⟩:∃l,vs++[y]=l:=⟨_,rfl⟩
   obtain⟨wh',hwh'⟩:∃l,wh++[(pk:Int)]=l:=⟨_,rfl⟩
   rw[hvs']at e3 hst
   rw[hwh']at e4 hst
   simp-implicitDefEqProofs+decide only[go_sem,hlu,hlu']
   refine CallG.PS _ Tryz.call67 (cc) ?_
   simp-implicitDefEqProofs+decide only[go_sem,hlu,hlu',e1,e2,e3,e4,hnb,hwi]
   refine hJ (i+1) _ (by omega) (by omega) (Wk.boxes _ _ (bkU_hb hb0) rfl (by rw[hsc];rfl) ?_ (by rintro (_|_|_|_|_) hp<;>first|(cases hp;done)|simp-implicitDefEqProofs+decide only[go_sem,hst]) ?_ ?_)
   ·simp-implicitDefEqProofs+decide only[go_sem,hlu,hlu',ofH,sI,sX,hst,hsc]<;>first|rfl|exact⟨rfl,rfl⟩|skip
   ·simp-implicitDefEqProofs+decide only[go_sem,sX,sL,sI]<;>rfl
   ·simp-implicitDefEqProofs+decide only[go_sem,sX]
  ·have d27:decide (op=27)=false:=decide_eq_false h27
   rw[if_neg h27,if_neg h28]at hgr
   have hbp:=bestF_pick (decide (op=30)) (pickX v g) sb ((pickX v g).length-1)
   have cb:=bestG_ok (bkU h id 4 (obG id md sb) sb.met) m id md op _ sb (pickX v g) (bkU_M hb) rfl (by omega) (by omega) (by omega) (fun r hr=>⟨(hxq r hr).1,(hxq r hr).2.mono (by decide)⟩)
   rw[bkU_U]at cb
   unfold bestL at hgr
   obtain⟨⟨pk',tb⟩,hbs⟩:∃t,bestF (decide (op=30)) (pickX v g) sb ((pickX v g).length-1)=t:=⟨_,rfl⟩
   rw[hbs]at cb hgr hbp
   dsimp only at cb hgr hbp
   have e4:wh.map I++[.int .i64 (pk':Int)]=(wh++[(pk':Int)]).map I:=by rw[List.map_append];rfl
   by_cases h31:op=31
   ·subst h31
    rw[if_pos rfl]at hgr
    injection hgr with hy hpk hsb
    have hpk:=hpk.symm
    subst hpk
    subst hsb
    have cn:=numG_ok (bkU h id 4 (obG id md tb) tb.met) m id tb.k md (mtC id 4 tb.met) tb.tie pk 1 hmd (bkU_hb hb) (bkU_M hb).o (by decide) (by omega) (by omega) (by decide) (by decide)
    unfold numN at hy
    rw[hy]at cn
    generalize (pickX v g).getD pk (.q 0)=yb at cb
    simp only[sX,Vx_T]at cb cn
    simp-implicitDefEqProofs+decide only[go_sem,hlu,ofH,htk]
    refine CallG.pool _ Tryz.call75 cb hb2 (by rintro (_|_|_|_|_) hp<;>first|(cases hp;done)|simp-implicitDefEqProofs+decide only[go_sem,hlu]) ?_
    apply run_sound 200
    simp-implicitDefEqProofs+decide only[go_sem,hlu,hlu']
    refine CallG.pool _ Tryz.call64 cn (bkU_hb hb) (by rintro (_|_|_|_|_) hp<;>first|(cases hp;done)|simp-implicitDefEqProofs+decide only[go_sem,hlu,hlu']) ?_
    apply run_sound 200
    have e1:(vs.map Vx.T).length=i:=by rw[List.length_map,hdl.1]
    have e2:(wh.map I).length=i:=by rw[List.length_map,hdl.2]
    have e3:vs.map Vx.T++[.agg [.bool y.neg,sW y.p,sW y.qq,.int .u64 y.bits,.int .i64 0]]=(vs++[y]).map Vx.T:=by rw[List.map_append,←Vx_T];rfl
    obtain⟨vs',hvs'⟩:∃l,vs++[y]=l:=⟨_,rfl⟩
    obtain⟨wh',hwh'⟩:∃l,wh++[(pk:Int)]=l:=⟨_,rfl⟩
    rw[hvs']at e3 hst
    rw[hwh']at e4 hst
    simp-implicitDefEqProofs+decide only[go_sem,hlu,hlu']
    refine CallG.PS _ Tryz.call67 (cc) ?_
    simp-implicitDefEqProofs+decide only[go_sem,hlu,hlu',e1,e2,e3,e4,hnb,hwi]
    refine hJ (i+1) _ (by omega) (by omega) (Wk.boxes _ _ (bkU_hb hb0) rfl (by rw[hsc];rfl) ?_ (by rintro (_|_|_|_|_) hp<;>first|(cases hp;done)|simp-implicitDefEqProofs+decide only[go_sem,hst]) ?_ ?_)
    ·simp-implicitDefEqProofs+decide only[go_sem,hlu,hlu',ofH,sI,sX,hst,hsc]<;>first|rfl|exact⟨rfl,rfl⟩|skip
    ·simp-implicitDefEqProofs+decide only[go_sem,sX,sL,sI]<;>rfl
    ·simp-implicitDefEqProofs+decide only[go_sem,sX]
   ·have d31:decide (op=31)=false:=decide_eq_false h31
    rw[if_neg h31]at hgr
    injection hgr with hy hpk hsb
    have hpk:=hpk.symm
    subst hpk
    subst hsb
    rw[hy]at cb
    simp only[sX,Vx_T]at cb
    simp-implicitDefEqProofs+decide only[go_sem,hlu,ofH,d27,d28,d31,htk]
    refine CallG.pool _ Tryz.call75 cb hb2 (by rintro (_|_|_|_|_) hp<;>first|(cases hp;done)|simp-implicitDefEqProofs+decide only[go_sem,hlu]) ?_
    apply run_sound 200
    have e1:(vs.map Vx.T).length=i:=by rw[List.length_map,hdl.1]
    have e2:(wh.map I).length=i:=by rw[List.length_map,hdl.2]
    have e3:vs.map Vx.T++[.agg [.bool y.neg,sW y.p,sW y.qq,.int .u64 y.bits,.int .i64 0]]=(vs++[y]).map Vx.T:=by rw[List.map_append,←Vx_T];rfl
    obtain⟨vs',hvs'⟩:∃l,vs++[y]=l:=⟨_,rfl⟩
    obtain⟨wh',hwh'⟩:∃l,wh++[(pk:Int)]=l:=⟨_,rfl⟩
    rw[hvs']at e3 hst
    rw[hwh']at e4 hst
    simp-implicitDefEqProofs+decide only[go_sem,hlu,hlu']
    refine CallG.PS _ Tryz.call67 (cc) ?_
    simp-implicitDefEqProofs+decide only[go_sem,hlu,hlu',e1,e2,e3,e4,hnb,hwi]
    refine hJ (i+1) _ (by omega) (by omega) (Wk.boxes _ _ (bkU_hb hb0) rfl (by rw[hsc];rfl) ?_ (by rintro (_|_|_|_|_) hp<;>first|(cases hp;done)|simp-implicitDefEqProofs+decide only[go_sem,hst]) ?_ ?_)
    ·simp-implicitDefEqProofs+decide only[go_sem,hlu,hlu',ofH,sI,sX,hst,hsc]<;>first|rfl|exact⟨rfl,rfl⟩|skip
    ·simp-implicitDefEqProofs+decide only[go_sem,sX,sL,sI]<;>rfl
    ·simp-implicitDefEqProofs+decide only[go_sem,sX]
end Go.Fm
