/- Comparisons of scalars, exact or of doubles: the program's bank. -/
import Derived.Test.YteodjhhobkcnjaaGreatHeB
import Derived.Test.YteodjhhobkcnjaaGreatHeA
import Derived.Test.YteodjhhobkcnjaaGreatHcC
import Derived.Test.YteodjhhobkcnjaaGreatHaC
import Derived.Test.YteodjhhobkcnjaaGreatHdD
set_option linter.unusedVariables false
set_option linter.unusedSimpArgs false
namespace Go.Fm
open Go.Proofs
set_option maxRecDepth 100000
attribute [local irreducible] tiOf
theorem QB_sub {r s:Rat} {a b:Nat} (hr:QB r a) (hs:QB s b):QB (r-s) (a+b+1):=by
 rw[Rat.sub_eq_add_neg]
 exact QB_add hr ⟨by rw[show(-s).num= -s.num from rfl,Int.natAbs_neg];exact hs.n,hs.d⟩
theorem cmp_okQ (r s:Rat) (hr:QB r 10000000) (hs:QB s 10000000):Pure Tryz.prog 195 [(qR r).T,(qR s).T] [.t (.int .i64 (sgnI (r-s)))]:=by
 have c1:=sub_okQ r s hr hs
 have c2:=sgn_okQ (r-s) ((QB_sub hr hs).mono (by decide))
 generalize r-s=t at c1 c2⊢
 rw[qT]at c2
 rw[qT,qT,qT]at c1
 rw[qT,qT]
 refine Pure.I Tryz.func195 [4] ?_
 refine Sm ?_
 refine CallG.PS _ Tryz.call216 (c1) ?_
 refine Sm ?_
 refine CallG.P _ Tryz.call185 (c2) ?_
 refine Sm ?_
 exact endF.V1 4 (.int .i64 (sgnI t))
theorem sgnI_neg (r s:Rat):decide (sgnI (r-s)<0)=decide (r<s):=by
 refine decide_eq_decide.2 ?_
 have h:(r-s).num<0↔r<s:=by
  have h0:0≤(r-s).num↔s≤r:=by rw[Rat.num_nonneg,←Rat.le_iff_sub_nonneg]
  rw[←Rat.not_le,←h0];omega
 rw[←h]
 unfold sgnI
 split
 ·omega
 ·split<;>omega
theorem sgnI_zero (r s:Rat):decide (sgnI (r-s)=0)=decide (r=s):=by
 refine decide_eq_decide.2 ?_
 have h:(r-s).num=0↔r=s:=by
  rw[Rat.num_eq_zero]
  constructor
  ·intro h
   have:r-s+s=0+s:=by rw[h]
   rwa [Rat.sub_add_cancel,Rat.zero_add]at this
  ·intro h;rw[h,Rat.sub_self]
 rw[←h]
 unfold sgnI
 split
 ·omega
 ·split<;>omega
theorem rat_tie (r s:Rat):decide (r=s)=(!decide (r<s)&& !decide (s<r)):=by
 by_cases h:r=s
 ·subst h
  have:¬r<r:=Rat.lt_irrefl
  simp[this]
 ·rw[decide_eq_false h]
  rcases Rat.le_total (a:=r) (b:=s) with g|g
  ·have:r<s:=Rat.lt_of_le_of_ne g h
   simp[this]
  ·have:s<r:=Rat.lt_of_le_of_ne g (fun e=>h e.symm)
   simp[this]
def lessV:Vx→Vx→Bool
 |.q r,.q s=>decide (r<s)
 |.d a,.d b=>lessD a b
 |_,_=>false
structure Bs where
 k:Nat
 met:List Bool
 tie:Bool
def lessS (s:Bs) (x y:Vx):Bs:=⟨s.k,s.met++[lessV x y],s.tie||(!lessV x y&& !lessV y x)⟩
def mtC (id f:Nat):List Bool→AV
 |[]=>.nil
 |_::l=>.sl (.fld id f) l.length 0 (l.length+1)
def mtR:List Bool→Option Obj
 |[]=>none
 |b::l=>some (.arr 1 ((b::l).map T.bool) l.length 0)
def obG (id:Nat) (md:Int) (s:Bs):Obj:=bankG md (mtC id 4 s.met) s.k s.tie
structure BkM (h:Heap) (id f:Nat) (o:Obj) (met:List Bool):Prop where
 hb:∀l,Lab.pool l=false→h l=none
 o:h (.obj id)=some o
 f:h (.fld id f)=mtR met
def bkU (h:Heap) (id f:Nat) (o:Obj) (met:List Bool):Heap:=upd (upd h (.obj id) (some o)) (.fld id f) (mtR met)
section
variable {h:Heap} {id f:Nat} {o o':Obj} {met met':List Bool}
theorem bkU_hb (hb:∀l,Lab.pool l=false→h l=none):∀l,Lab.pool l=false→bkU h id f o met l=none:=fun l hp=>by
 unfold bkU
 rw[upd_ne _ _ _ _ (fun e=>by subst e;cases hp),upd_ne _ _ _ _ (fun e=>by subst e;cases hp)]
 exact hb l hp
theorem bkU_M (hb:∀l,Lab.pool l=false→h l=none):BkM (bkU h id f o met) id f o met:=
 ⟨bkU_hb hb,by unfold bkU;rw[upd_ne _ _ _ _ (fun e=>by cases e),upd_same],by unfold bkU;rw[upd_same]⟩
theorem bkU_U:bkU (bkU h id f o met) id f o' met'=bkU h id f o' met':=by
 funext l
 unfold bkU
 by_cases e1:l=.fld id f
 ·subst e1;rw[upd_same,upd_same]
 ·rw[upd_ne _ _ _ _ e1,upd_ne _ _ _ _ e1]
  by_cases e2:l=.obj id
  ·subst e2;rw[upd_same,upd_same]
  ·rw[upd_ne _ _ _ _ e2,upd_ne _ _ _ _ e1,upd_ne _ _ _ _ e2,upd_ne _ _ _ _ e2]
theorem bkU_up:upd (bkU h id f o met) (.obj id) (some o')=bkU h id f o' met:=by
 funext l
 unfold bkU
 by_cases e1:l=.fld id f
 ·subst e1;rw[upd_ne _ _ _ _ (fun e=>by cases e),upd_same,upd_same]
 ·rw[upd_ne _ (Lab.fld id f) _ _ e1]
  by_cases e2:l=.obj id
  ·subst e2;rw[upd_same,upd_same]
  ·rw[upd_ne _ _ _ _ e2,upd_ne _ _ _ _ e1,upd_ne _ _ _ _ e2,upd_ne _ _ _ _ e2]
theorem bkU_self (B:BkM h id f o met):bkU h id f o met=h:=by
 funext l
 unfold bkU
 by_cases e1:l=.fld id f
 ·subst e1;rw[upd_same,B.f]
 ·rw[upd_ne _ _ _ _ e1]
  by_cases e2:l=.obj id
  ·subst e2;rw[upd_same,B.o]
  ·rw[upd_ne _ _ _ _ e2]
theorem BkM.up (B:BkM h id f o met):upd h (.obj id) (some o')=bkU h id f o' met:=by
 conv=>lhs;rw[←bkU_self B]
 exact bkU_up
theorem bkU_keeps {c c':List AV} (B:BkM h id f (.box c) met):Keeps h (bkU h id f (.box c') met'):=by
 refine⟨fun id' cs hc=> ?_,fun i o hc=> ?_⟩
 ·unfold bkU
  rw[upd_ne _ _ _ _ (fun e=>by cases e)]
  by_cases e:Lab.obj id'=.obj id
  ·rw[e,upd_same];exact⟨_,rfl⟩
  ·rw[upd_ne _ _ _ _ e];exact⟨_,hc⟩
 ·unfold bkU
  rw[upd_ne _ _ _ _ (fun e=>by cases e),upd_ne _ _ _ _ (fun e=>by cases e)]
  exact⟨_,hc,ArgStep.refl _⟩
theorem bkU_writes {r:Obj} (hr:mtR met'=some r) (l:Lab):bkU h id f o' met' l=writes (bkU h id f o met) [(.obj id,o'),(.fld id f,r)] l:=by
 show _=upd (upd (bkU h id f o met) (.obj id) (some o')) (.fld id f) (some r) l
 rw[←hr]
 show _=bkU (bkU h id f o met) id f o' met' l
 rw[bkU_U]
end
theorem mtR_snoc (l:List Bool) (b:Bool):∃o,mtR (l++[b])=some o:=by cases l<;>exact⟨_,rfl⟩
set_option maxHeartbeats 2000000 in
theorem lessQ_ok (h:Heap) (m id k:Nat) (met:List Bool) (tie:Bool) (x y:Rat) (B:BkM h id 4 (bankG 0 (mtC id 4 met) k tie) met) (hml:met.length<60000) (hx:QB x 10000000) (hy:QB y 10000000):
  Ret Tryz.prog 132 [.ptr id,vT x,vT y] h m [.t (.bool (decide (x<y)))] (bkU h id 4 (bankG 0 (mtC id 4 (met++[decide (x<y)])) k (tie||decide (x=y))) (met++[decide (x<y)])) m:=by
 have c1:=failsG_ok h m id k 0 (mtC id 4 met) tie B.hb B.o
 have c2:=cmp_okQ x y hx hy
 have s1:=sgnI_neg x y
 have s2:=sgnI_zero x y
 rw[qT,qT]at c2
 generalize sgnI (x-y)=sg at c2 s1 s2
 generalize decide (x<y)=b at*
 generalize decide (x=y)=z at*
 have hl:∀d j,h (.loc d j)=none:=fun d j=>B.hb _ rfl
 have ho:=B.o
 have hf:=B.f
 refine Ret.intro Tryz.func132 rfl (rt:=[6]) rfl (by simp[Tryz.ntmps132]) (by decide) (sites:=fun _=>false) (bkU_hb B.hb) (bkU_keeps B) ?_
 simp only[vT_eq]
 unfold bankG at ho
 cases met with
 | nil =>
   simp only[mtC,mtR]at ho hf
   apply run_sound 200
   refine SmB ?_
   refine CallG.pool _ Tryz.call117 c1 B.hb (by rintro (_|_|_|_|_) hp<;>first|(cases hp;done)|simp-implicitDefEqProofs+decide only[go_sem,hl]) ?_
   apply run_sound 200
   simp-implicitDefEqProofs+decide only[go_sem,ho,hl]
   refine CallG.P _ Tryz.call195 (c2) ?_
   cases tie
   ·simp-implicitDefEqProofs+decide only[go_sem,ho,hf,hl,s1,s2]
    exact endF.oneH (.inr rfl) (by simp-implicitDefEqProofs+decide only[go_sem]) rfl (by rintro (_|_|_|_|_) hp<;>first|(cases hp;done)|simp-implicitDefEqProofs+decide only[go_sem,bkU,bankG,mtC,mtR,Bool.false_or,Bool.true_or,Bool.not_true,Bool.not_false,Bool.and_true,Bool.and_false,Bool.false_and,Bool.true_and,List.map_cons,List.map_nil,List.length_nil]) rfl
   ·simp-implicitDefEqProofs+decide only[go_sem,ho,hf,hl,s1,s2]
    exact endF.oneH (.inr rfl) (by simp-implicitDefEqProofs+decide only[go_sem]) rfl (by rintro (_|_|_|_|_) hp<;>first|(cases hp;done)|simp-implicitDefEqProofs+decide only[go_sem,bkU,bankG,mtC,mtR,Bool.false_or,Bool.true_or,Bool.not_true,Bool.not_false,Bool.and_true,Bool.and_false,Bool.false_and,Bool.true_and,List.map_cons,List.map_nil,List.length_nil]) rfl
 | cons a l =>
   have e1:(a::l)++[b]=a::(l++[b]):=rfl
   have e2:(l++[b]).length=l.length+1:=by simp
   have e4:((a::l).map T.bool).length=l.length+1:=by simp
   have hn:decide ((65536:Int)≤((l.length+1:Nat):Int))=false:=decide_eq_false (by simp at hml;omega)
   have hnb:l.length+1+1<big:=by unfold big;simp at hml;omega
   rw[e1]
   simp only[mtC,mtR]at ho hf
   apply run_sound 200
   refine SmB ?_
   refine CallG.pool _ Tryz.call117 c1 B.hb (by rintro (_|_|_|_|_) hp<;>first|(cases hp;done)|simp-implicitDefEqProofs+decide only[go_sem,hl]) ?_
   apply run_sound 200
   simp-implicitDefEqProofs+decide only[go_sem,ho,hf,hl,hn]
   refine CallG.P _ Tryz.call195 (c2) ?_
   cases tie
   ·simp-implicitDefEqProofs+decide only[go_sem,ho,hf,hl,s1,s2,e4,hnb]
    exact endF.oneH (.inr rfl) (by simp-implicitDefEqProofs+decide only[go_sem]) rfl (by rintro (_|_|_|_|_) hp<;>first|(cases hp;done)|simp-implicitDefEqProofs+decide only[go_sem,bkU,bankG,mtC,mtR,Bool.false_or,Bool.true_or,Bool.not_true,Bool.not_false,Bool.and_true,Bool.and_false,Bool.false_and,Bool.true_and,List.map_cons,List.map_append,List.map_nil,e2]) rfl
   ·simp-implicitDefEqProofs+decide only[go_sem,ho,hf,hl,s1,s2,e4,hnb]
    exact endF.oneH (.inr rfl) (by simp-implicitDefEqProofs+decide only[go_sem]) rfl (by rintro (_|_|_|_|_) hp<;>first|(cases hp;done)|simp-implicitDefEqProofs+decide only[go_sem,bkU,bankG,mtC,mtR,Bool.false_or,Bool.true_or,Bool.not_true,Bool.not_false,Bool.and_true,Bool.and_false,Bool.false_and,Bool.true_and,List.map_cons,List.map_append,List.map_nil,e2]) rfl
set_option maxHeartbeats 2000000 in
theorem lessDD_ok (h:Heap) (m id k:Nat) (met:List Bool) (tie:Bool) (x y:Nat) (B:BkM h id 4 (bankG 1 (mtC id 4 met) k tie) met) (hml:met.length<60000) (hx:x<18446744073709551616) (hy:y<18446744073709551616):
  Ret Tryz.prog 132 [.ptr id,(Vx.d x).T,(Vx.d y).T] h m [.t (.bool (lessD x y))] (bkU h id 4 (bankG 1 (mtC id 4 (met++[lessD x y])) k (tie||(!lessD x y&& !lessD y x))) (met++[lessD x y])) m:=by
 have c1:=failsG_ok h m id k 1 (mtC id 4 met) tie B.hb B.o
 have c2:=fless_ok x y hx hy
 have c3:=fless_ok y x hy hx
 generalize lessD x y=b at*
 generalize lessD y x=z at*
 have hl:∀d j,h (.loc d j)=none:=fun d j=>B.hb _ rfl
 have ho:=B.o
 have hf:=B.f
 refine Ret.intro Tryz.func132 rfl (rt:=[6]) rfl (by simp[Tryz.ntmps132]) (by decide) (sites:=fun _=>false) (bkU_hb B.hb) (bkU_keeps B) ?_
 simp only[Vx_d]
 unfold bankG at ho
 cases met with
 | nil =>
   simp only[mtC,mtR]at ho hf
   apply run_sound 200
   refine SmB ?_
   refine CallG.pool _ Tryz.call117 c1 B.hb (by rintro (_|_|_|_|_) hp<;>first|(cases hp;done)|simp-implicitDefEqProofs+decide only[go_sem,hl]) ?_
   apply run_sound 200
   simp-implicitDefEqProofs+decide only[go_sem,ho,hl]
   refine CallG.P _ Tryz.call196 (c2) ?_
   cases tie
   ·cases b
    ·simp-implicitDefEqProofs+decide only[go_sem,ho,hf,hl]
     refine CallG.P _ Tryz.call196 (c3) ?_
     simp-implicitDefEqProofs+decide only[go_sem,ho,hf,hl]
     exact endF.oneH (.inr rfl) (by simp-implicitDefEqProofs+decide only[go_sem]) rfl (by rintro (_|_|_|_|_) hp<;>first|(cases hp;done)|simp-implicitDefEqProofs+decide only[go_sem,bkU,bankG,mtC,mtR,Bool.false_or,Bool.true_or,Bool.not_true,Bool.not_false,Bool.and_true,Bool.and_false,Bool.false_and,Bool.true_and,List.map_cons,List.map_nil,List.length_nil]) rfl
    ·simp-implicitDefEqProofs+decide only[go_sem,ho,hf,hl]
     exact endF.oneH (.inr rfl) (by simp-implicitDefEqProofs+decide only[go_sem]) rfl (by rintro (_|_|_|_|_) hp<;>first|(cases hp;done)|simp-implicitDefEqProofs+decide only[go_sem,bkU,bankG,mtC,mtR,Bool.false_or,Bool.true_or,Bool.not_true,Bool.not_false,Bool.and_true,Bool.and_false,Bool.false_and,Bool.true_and,List.map_cons,List.map_nil,List.length_nil]) rfl
   ·simp-implicitDefEqProofs+decide only[go_sem,ho,hf,hl]
    exact endF.oneH (.inr rfl) (by simp-implicitDefEqProofs+decide only[go_sem]) rfl (by rintro (_|_|_|_|_) hp<;>first|(cases hp;done)|simp-implicitDefEqProofs+decide only[go_sem,bkU,bankG,mtC,mtR,Bool.false_or,Bool.true_or,Bool.not_true,Bool.not_false,Bool.and_true,Bool.and_false,Bool.false_and,Bool.true_and,List.map_cons,List.map_nil,List.length_nil]) rfl
 | cons a l =>
   have e1:(a::l)++[b]=a::(l++[b]):=rfl
   have e2:(l++[b]).length=l.length+1:=by simp
   have e4:((a::l).map T.bool).length=l.length+1:=by simp
   have hn:decide ((65536:Int)≤((l.length+1:Nat):Int))=false:=decide_eq_false (by simp at hml;omega)
   have hnb:l.length+1+1<big:=by unfold big;simp at hml;omega
   rw[e1]
   simp only[mtC,mtR]at ho hf
   apply run_sound 200
   refine SmB ?_
   refine CallG.pool _ Tryz.call117 c1 B.hb (by rintro (_|_|_|_|_) hp<;>first|(cases hp;done)|simp-implicitDefEqProofs+decide only[go_sem,hl]) ?_
   apply run_sound 200
   simp-implicitDefEqProofs+decide only[go_sem,ho,hf,hl,hn]
   refine CallG.P _ Tryz.call196 (c2) ?_
   cases tie
   ·cases b
    ·simp-implicitDefEqProofs+decide only[go_sem,ho,hf,hl,e4,hnb]
     refine CallG.P _ Tryz.call196 (c3) ?_
     simp-implicitDefEqProofs+decide only[go_sem,ho,hf,hl,e4,hnb]
     exact endF.oneH (.inr rfl) (by simp-implicitDefEqProofs+decide only[go_sem]) rfl (by rintro (_|_|_|_|_) hp<;>first|(cases hp;done)|simp-implicitDefEqProofs+decide only[go_sem,bkU,bankG,mtC,mtR,Bool.false_or,Bool.true_or,Bool.not_true,Bool.not_false,Bool.and_true,Bool.and_false,Bool.false_and,Bool.true_and,List.map_cons,List.map_append,List.map_nil,e2]) rfl
    ·simp-implicitDefEqProofs+decide only[go_sem,ho,hf,hl,e4,hnb]
     exact endF.oneH (.inr rfl) (by simp-implicitDefEqProofs+decide only[go_sem]) rfl (by rintro (_|_|_|_|_) hp<;>first|(cases hp;done)|simp-implicitDefEqProofs+decide only[go_sem,bkU,bankG,mtC,mtR,Bool.false_or,Bool.true_or,Bool.not_true,Bool.not_false,Bool.and_true,Bool.and_false,Bool.false_and,Bool.true_and,List.map_cons,List.map_append,List.map_nil,e2]) rfl
   ·simp-implicitDefEqProofs+decide only[go_sem,ho,hf,hl,e4,hnb]
    exact endF.oneH (.inr rfl) (by simp-implicitDefEqProofs+decide only[go_sem]) rfl (by rintro (_|_|_|_|_) hp<;>first|(cases hp;done)|simp-implicitDefEqProofs+decide only[go_sem,bkU,bankG,mtC,mtR,Bool.false_or,Bool.true_or,Bool.not_true,Bool.not_false,Bool.and_true,Bool.and_false,Bool.false_and,Bool.true_and,List.map_cons,List.map_append,List.map_nil,e2]) rfl
theorem lessG_ok (h:Heap) (m id:Nat) (md:Int) (s:Bs) (x y:Vx) (B:BkM h id 4 (obG id md s) s.met) (hml:s.met.length<60000) (mx:x.md=md) (my:y.md=md) (bx:x.B 10000000) (by':y.B 10000000):
  Ret Tryz.prog 132 [.ptr id,x.T,y.T] h m [.t (.bool (lessV x y))] (bkU h id 4 (obG id md (lessS s x y)) (lessS s x y).met) m:=by
 subst mx
 cases x with
 | q r => cases y with
   | q t =>
     have c:=lessQ_ok h m id s.k s.met s.tie r t B hml bx by'
     rw[rat_tie]at c
     exact c
   |d b=>simp[Vx.md]at my
 | d a => cases y with
   |q t=>simp[Vx.md]at my
   |d b=>exact lessDD_ok h m id s.k s.met s.tie a b B hml bx by'
def divV:Vx→Vx→Vx
 |.q r,.q s=>.q (r/s)
 |.d a,.d b=>.d (divD a b)
 |_,_=>.q 0
def Vx.nz:Vx→Prop
 |.q s=>s≠0
 |.d _=>True
theorem divV_md {x y:Vx} (h:x.md=y.md):(divV x y).md=x.md:=by cases x<;>cases y<;>first|rfl|(simp[Vx.md]at h)
theorem divD_lt (a b:Nat):divD a b<18446744073709551616:=by
 unfold divD
 split
 ·decide
 split
 ·exact infD_lt _
 split
 ·exact sgnD_lt (by decide)
 ·exact rndD_lt _ _ _
theorem divV_B {x y:Vx} {a b:Nat} (h:x.md=y.md) (hx:x.B a) (hy:y.B b) (hz:y.nz):(divV x y).B (a+b):=by
 cases x with
 | q r => cases y with
   | q s =>
     show QB (r/s) _
     rw[Rat.div_def]
     exact QB_mul hx (QB_inv hz hy)
   |d b=>simp[Vx.md]at h
 | d a => cases y with
   |q s=>simp[Vx.md]at h
   |d b=>exact divD_lt a b
theorem dblDiv_ok (a b:Nat) (ha:a<18446744073709551616) (hb:b<18446744073709551616):Pure Tryz.prog 166 [.int .i64 7,.int .u64 a,.int .u64 b] [.t (.int .u64 (divD a b:Nat))]:=by
 have c1:=fdiv_ok a b ha hb
 refine Pure.I Tryz.func166 [6] ?_
 refine Sm ?_
 refine CallG.P _ Tryz.call222 (c1) ?_
 refine Sm ?_
 exact endF.V1 6 (.int .u64 (divD a b:Nat))
theorem exQDiv_ok (h:Heap) (m id k:Nat) (mc:AV) (tie:Bool) (r s:Rat) (hb:∀l,Lab.pool l=false→h l=none) (hk:h (.obj id)=some (bankG 0 mc k tie)) (hs0:s≠0) (hr:QB r 10000000) (hs:QB s 10000000):
  Ret Tryz.prog 165 [.ptr id,.int .i64 7,(qR r).T,(qR s).T] h m [.t (qR (r/s)).T] h m:=by
 have hl:∀d j,h (.loc d j)=none:=fun d j=>hb _ rfl
 have c1:=div_okQ r s hs0 hr hs
 have c4:=fail0_ok h m id k 0 mc tie hb hk
 refine Ret.iC Tryz.func165 [.c 8 65] ?_
 simp only[qT]at c1⊢
 refine SmB ?_
 refine CallG.PS _ Tryz.call182 (c1) ?_
 refine SmB ?_
 refine CallG.Q _ Tryz.call183 c4 ?_
 refine SmC ?_
 exact endC.O
theorem doQd_ok (h:Heap) (m id k:Nat) (mc:AV) (tie:Bool) (r s:Rat) (hb:∀l,Lab.pool l=false→h l=none) (hk:h (.obj id)=some (bankG 0 mc k tie)) (hkb:k<1000000000) (hs0:s≠0) (hr:QB r 10000000) (hs:QB s 10000000):
  Ret Tryz.prog 110 [.ptr id,.int .i64 7,vT r,vT s,.bool true] h m [.t (vT (r/s))] (upd h (.obj id) (some (bankG 0 mc (k+1) tie))) m:=by
 have hl:∀d j,h (.loc d j)=none:=fun d j=>hb _ rfl
 have c1:=failsG_ok h m id k 0 mc tie hb hk
 have hb2:∀l,Lab.pool l=false→upd h (.obj id) (some (bankG 0 mc (k+1) tie)) l=none:=upd_hb hb
 have c2:=exQDiv_ok (upd h (.obj id) (some (bankG 0 mc (k+1) tie))) m id (k+1) mc tie r s hb2 (upd_same _ _ _) hs0 hr hs
 have hw:=wS (show k<1000000000000 by omega)
 generalize r/s=t at*
 refine Ret.introC Tryz.func110 rfl (rv:=[.c 10 68]) rfl (by simp[Tryz.ntmps110]) (by decide) (sites:=fun _=>false) hb2 bank_keeps ?_
 simp only[qT]at c2⊢
 simp only[vT_eq]
 apply run_sound 200
 refine SmB ?_
 refine CallG.Q _ Tryz.call117 c1 ?_
 unfold bankG at hk
 simp-implicitDefEqProofs+decide only[go_sem,hk,hw,hl]
 refine CallG.pool _ Tryz.call165 c2 hb2 (by rintro (_|_|_|_|_) hp<;>first|(cases hp;done)|simp-implicitDefEqProofs+decide only[go_sem,bankG]) ?_
 apply run_sound 200
 unfold bankG
 refine SmC ?_
 exact endC.O
theorem bankDivG_ok (h:Heap) (m id k:Nat) (md:Int) (mc:AV) (tie:Bool) (x y:Vx) (hb:∀l,Lab.pool l=false→h l=none) (hk:h (.obj id)=some (bankG md mc k tie)) (hkb:k<1000000000) (mx:x.md=md) (my:y.md=md) (bx:x.B 10000000) (by':y.B 10000000) (hz:y.nz):
  Ret Tryz.prog 74 [.ptr id,x.T,y.T] h m [.t (divV x y).T] (upd h (.obj id) (some (bankG md mc (k+1) tie))) m:=by
 have hl:∀d j,h (.loc d j)=none:=fun d j=>hb _ rfl
 have c1:Ret Tryz.prog 110 [.ptr id,.int .i64 7,x.T,y.T,.bool true] h m [.t (divV x y).T] (upd h (.obj id) (some (bankG md mc (k+1) tie))) m:=by
  subst mx
  cases x with
  | q r => cases y with
    |q s=>exact doQd_ok h m id k mc tie r s hb hk hkb hz bx by'
    |d b=>simp[Vx.md]at my
  | d a => cases y with
    |q s=>simp[Vx.md]at my
    |d b=>exact doD_ok 7 (divD a b) h m id k mc tie a b hb hk hkb (dblDiv_ok a b bx by')
 refine Ret.iC Tryz.func74 [.c 6 68] ?_
 simp only[Vx_T]at c1⊢
 refine SmB ?_
 refine CallG.Q _ Tryz.call110 c1 ?_
 refine SmC ?_
 exact endC.O
theorem copyX_ok (v:Vx) (h:v.B 10000000):Pure Tryz.prog 67 [v.T] [.t v.T]:=copy_ok v.sc (ScB_Vx h (by decide))
theorem endC.twoV {P:Program} {rv rv':RV} {y y':AV} {t t':T} {h':Heap} {m':Nat} {e:Exit} {s:St} (he:e=.normal∨e=.ret) (hv:valC P s rv=some y) (hv':valC P s rv'=some y') (hr:reify y=.ret (t,[])) (hr':reify y'=.ret (t',[]))
  (hh:∀l,Lab.pool l=true→h' l=s.h l) (hn:s.nxt=m'):endC P [rv,rv'] [.t t,.t t'] h' m' e s:=by
 refine⟨he,⟨[y,y'],[false,false],by simp[valsC,hv,hv'],rfl,[],[none,none],[],?_,rfl,hh⟩,hn⟩
 simp[finL,fin1,hr,hr',Rd.bind,Rd.run]
theorem getD_X {xs:List Vx} {i:Nat} (hi:i<xs.length):xs[i]?=some (xs.getD i (.q 0)):=by obtain⟨x,hx⟩:=getI hi;rw[hx,List.getD_eq_getElem?_getD,hx];rfl
theorem endC.W {P:Program} {rv rv':RV} {y y':AV} {t t':T} {h':Heap} {m':Nat} {e:Exit} {s:St} (hv:valC P s rv=some y:=by simp-implicitDefEqProofs+decide only[go_sem,valC];rfl) (hv':valC P s rv'=some y':=by simp-implicitDefEqProofs+decide only[go_sem,valC];rfl) (hr:reify y=.ret (t,[]):=by rfl) (hr':reify y'=.ret (t',[]):=by rfl)
 (he:e=.normal∨e=.ret:=by exact .inr rfl) (hh:∀l,Lab.pool l=true→h' l=s.h l:=by rintro (_|_|_|_|_) hp<;>first|(cases hp;done)|(simp-implicitDefEqProofs+decide only[go_sem,hloc];done)|(simp-implicitDefEqProofs+decide only[go_sem,hl];done)|(simp-implicitDefEqProofs+decide only[go_sem];done)) (hn:s.nxt=m':=by rfl):endC P [rv,rv'] [.t t,.t t'] h' m' e s:=endC.twoV he hv hv' hr hr' hh hn
noncomputable def wchkC (to:Ag) (b:Bool):Int:=if chk to.d≠0 then chk to.d else if (to.v.length:Int)≠cnt to.d then 1 else if b=true then 0 else 1
theorem subV_B {x y:Vx} {a b:Nat} (h:x.md=y.md) (hx:x.B a) (hy:y.B b):(subV x y).B (a+b+1):=by
 cases x<;>cases y<;>first|(simp[Vx.md]at h;done)|exact addD_lt hx (flipD_lt hy)|skip
 rename_i r s
 show QB (r-s) _
 rw[Rat.sub_eq_add_neg]
 exact QB_add hx ⟨by rw[show(-s).num= -s.num from rfl,Int.natAbs_neg];exact hy.n,hy.d⟩
theorem exQSub_ok (h:Heap) (m id:Nat) (r s:Rat) (hb:∀l,Lab.pool l=false→h l=none) (hr:QB r 10000000) (hs:QB s 10000000):
  Ret Tryz.prog 165 [.ptr id,.int .i64 5,(qR r).T,(qR s).T] h m [.t (qR (r-s)).T] h m:=by
 have hl:∀d j,h (.loc d j)=none:=fun d j=>hb _ rfl
 have c1:=sub_okQ r s hr hs
 refine Ret.iC Tryz.func165 [.c 8 65] ?_
 simp only[qT]at c1⊢
 refine SmB ?_
 refine CallG.PS _ Tryz.call216 (c1) ?_
 refine SmC ?_
 exact endC.Q
theorem bankSubG_ok (h:Heap) (m id k:Nat) (md:Int) (mc:AV) (tie:Bool) (x y:Vx) (hb:∀l,Lab.pool l=false→h l=none) (hk:h (.obj id)=some (bankG md mc k tie)) (hkb:k<1000000000) (mx:x.md=md) (my:y.md=md) (bx:x.B 10000000) (by':y.B 10000000):
  Ret Tryz.prog 66 [.ptr id,x.T,y.T] h m [.t (subV x y).T] (upd h (.obj id) (some (bankG md mc (k+1) tie))) m:=by
 have hl:∀d j,h (.loc d j)=none:=fun d j=>hb _ rfl
 have c1:Ret Tryz.prog 110 [.ptr id,.int .i64 5,x.T,y.T,.bool true] h m [.t (subV x y).T] (upd h (.obj id) (some (bankG md mc (k+1) tie))) m:=by
  subst mx
  cases x with
  | q r => cases y with
    |q s=>exact doQ_ok 5 (r-s) h m id k mc tie r s hb hk hkb fun h hb=>exQSub_ok h m id r s hb bx by'
    |d b=>simp[Vx.md]at my
  | d a => cases y with
    |q s=>simp[Vx.md]at my
    |d b=>exact doD_ok 5 (addD a (flipD b)) h m id k mc tie a b hb hk hkb (dblSub_ok a b bx by')
 refine Ret.iC Tryz.func66 [.c 6 68] ?_
 simp only[Vx_T]at c1⊢
 refine SmB ?_
 refine CallG.Q _ Tryz.call110 c1 ?_
 refine SmC ?_
 exact endC.O
end Go.Fm
