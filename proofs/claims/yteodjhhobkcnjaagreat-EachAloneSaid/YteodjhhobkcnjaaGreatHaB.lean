/- All operations that call no Go function. -/
import Derived.Test.YteodjhhobkcnjaaGreatHaA
import Derived.Scope
import Derived.Deep.LoopGhost
import Derived.KernelRfl
import Derived.Deep.Slices
import Derived.Carry
import Derived.SizedLaws
import Derived.OpenShut
import Derived.ChangeShapes
import Derived.ChangeArms
import Derived.RowKit
import Derived.ChangeMaps5
import Derived.Handed
set_option linter.unusedVariables false
set_option linter.unusedSimpArgs false
namespace Go.Fm
section
variable {P:Program} {κ:Kap} {n:Nat} {a:Act} {w:World} {s:St}
theorem vRun {z:Option AV} {h:Heap} {y:Dl} {acc:List Lab} (e:(valR z).run h=some (y,acc)):∃x,z=some x∧y={v:=x}:=by
 cases z with
 |none=>exact(Rd.run_fail_some e).elim
 |some x=>exact⟨x,rfl,(Rd.run_ret_some e).1.symm⟩
theorem twoInts {f:Operand→AV} {l:List Operand} {x y:AV} (h:l.map f=[x,y]):∃x1 x2,l=[x1,x2]∧f x1=x∧f x2=y:=by
 cases l with
 |nil=>simp at h
 | cons x1 l => cases l with
   |nil=>simp at h
   | cons x2 l => cases l with
     |nil=>simp at h;exact⟨x1,x2,rfl,h.1,h.2⟩
     |cons x3 l=>simp at h
set_option maxHeartbeats 1600000 in
theorem step_sound {o : Oper} {pool : Sites} {y : Dl} {acc : List Lab} (hc : Conc κ n s a w) (hdst : ∀ d', o.dst = some d' → d' < n)
  (h:(stepR (tiOf P) pool s.nxt (evA s.f) o).run s.h=some (y,acc)):Does P κ n a w o s y:=by
 unfold stepR at h
 simp only at h
 split at h
 ·rename_i x ho
  obtain⟨rfl,_⟩:=Rd.run_ret_some h
  exact do_move (.inl ho) hc hdst
 ·rename_i x ho
  obtain⟨rfl,_⟩:=Rd.run_ret_some h
  exact do_move (.inr ho) hc hdst
 ·rename_i c x x' ho
  split at h
  ·rename_i b hb
   obtain⟨rfl,_⟩:=Rd.run_ret_some h
   exact do_pick ho hc hdst hb
  ·exact(Rd.run_fail_some h).elim
 ·rename_i op t x x' yt ho
  obtain⟨z,hz,rfl⟩:=vRun h
  rw[Option.map_eq_some_iff]at hz
  obtain⟨t',hz,rfl⟩:=hz
  exact do_binOp ho hc hdst hz
 ·rename_i t x ho
  split at h
  ·rename_i b hb
   obtain⟨rfl,_⟩:=Rd.run_ret_some h
   exact do_unOp ho hc hdst (.inl ⟨b,rfl,hb,rfl⟩)
  ·exact(Rd.run_fail_some h).elim
 ·rename_i t x ho
  split at h
  ·rename_i k m hb
   obtain⟨rfl,_⟩:=Rd.run_ret_some h
   exact do_unOp ho hc hdst (.inr (.inl ⟨k,m,rfl,hb,rfl⟩))
  ·exact(Rd.run_fail_some h).elim
 ·rename_i t x ho
  split at h
  ·rename_i k m hb
   obtain⟨z,hz,rfl⟩:=vRun h
   rw[Option.map_eq_some_iff]at hz
   obtain⟨t',hz,rfl⟩:=hz
   exact do_unOp ho hc hdst (.inr (.inr ⟨k,m,rfl,hb,hz⟩))
  ·exact(Rd.run_fail_some h).elim
 ·rename_i x ho
  split at h
  ·rename_i l j hb
   obtain⟨rfl,_⟩:=Rd.run_ret_some h
   exact do_nilCheck ho hc hdst (.inl ⟨l,j,hb,rfl⟩)
  ·rename_i id hb
   obtain⟨a1,h,_⟩:=Rd.run_ask_some h
   split at h
   ·rename_i cs hl
    obtain⟨rfl,_⟩:=Rd.run_ret_some h
    exact do_nilCheck ho hc hdst (.inr (.inr ⟨id,cs,hb,hl,rfl⟩))
   ·exact(Rd.run_fail_some h).elim
  ·rename_i cs hb
   obtain⟨rfl,_⟩:=Rd.run_ret_some h
   exact do_nilCheck ho hc hdst (.inr (.inl ⟨cs,hb,rfl⟩))
  ·exact(Rd.run_fail_some h).elim
 ·rename_i t x i ho
  split at h
  ·rename_i fs hd
   split at h
   ·rename_i f hf
    split at h
    ·exact(Rd.run_fail_some h).elim
    ·rename_i hsz
     split at h
     ·rename_i l j hb
      obtain⟨rfl,_⟩:=Rd.run_ret_some h
      exact do_fieldAddr ho hc hdst hd hf hsz (.inl ⟨l,j,hb,rfl⟩)
     ·rename_i l v k j hb
      obtain⟨a1,h,_⟩:=Rd.run_ask_some h
      split at h
      ·rename_i size es v' frz hl
       split at h
       ·rename_i hv
        subst hv
        obtain⟨rfl,_⟩:=Rd.run_ret_some h
        exact do_fieldAddr ho hc hdst hd hf hsz (.inr (.inl ⟨l,v,k,j,hb,rfl,size,es,frz,hl⟩))
       ·exact(Rd.run_fail_some h).elim
      ·exact(Rd.run_fail_some h).elim
     ·rename_i cs hb
      obtain⟨rfl,_⟩:=Rd.run_ret_some h
      exact do_fieldAddr ho hc hdst hd hf hsz (.inr (.inr (.inl ⟨cs,hb,rfl⟩)))
     ·rename_i id hb
      obtain⟨a1,h,_⟩:=Rd.run_ask_some h
      split at h
      ·rename_i cs hl
       obtain⟨rfl,_⟩:=Rd.run_ret_some h
       exact do_fieldAddr ho hc hdst hd hf hsz (.inr (.inr (.inr ⟨id,cs,hb,hl,rfl⟩)))
      ·exact(Rd.run_fail_some h).elim
     ·exact(Rd.run_fail_some h).elim
   ·exact(Rd.run_fail_some h).elim
  ·exact(Rd.run_fail_some h).elim
 ·rename_i t x i ho
  split at h
  ·rename_i fs hd
   split at h
   ·rename_i f hf
    split at h
    ·rename_i hag
     obtain⟨z,hz,rfl⟩:=vRun h
     exact do_field ho hc hdst hd hf hag hz
    ·exact(Rd.run_fail_some h).elim
   ·exact(Rd.run_fail_some h).elim
  ·exact(Rd.run_fail_some h).elim
 ·rename_i t x i ho
  split at h
  ·rename_i e hd
   obtain⟨z,a1,a2,h1,h2,_⟩:=Rd.run_bind_some h
   obtain⟨rfl,_⟩:=Rd.run_ret_some h2
   exact do_indexAddr ho hc hdst (.inl hd) h1
  ·rename_i m e hd
   obtain⟨z,a1,a2,h1,h2,_⟩:=Rd.run_bind_some h
   obtain⟨rfl,_⟩:=Rd.run_ret_some h2
   exact do_indexAddr ho hc hdst (.inr ⟨m,hd⟩) h1
  ·exact(Rd.run_fail_some h).elim
 ·rename_i t x i ho
  split at h
  ·rename_i str m hd hx hi
   split at h
   ·rename_i h0
    split at h
    ·rename_i b hb
     obtain⟨rfl,_⟩:=Rd.run_ret_some h
     obtain⟨k,hk⟩:=intOf_some hi
     exact do_index_str ho hc hdst hd hx hk h0 hb
    ·exact(Rd.run_fail_some h).elim
   ·exact(Rd.run_fail_some h).elim
  ·rename_i N e m hd hi
   split at h
   ·rename_i hcond
    obtain⟨z,hz,rfl⟩:=vRun h
    obtain⟨k,hk⟩:=intOf_some hi
    exact do_index_arr ho hc hdst hd hcond.2.2 hk hcond.1 hcond.2.1 hz
   ·exact(Rd.run_fail_some h).elim
  ·exact(Rd.run_fail_some h).elim
 ·rename_i t x ho
  obtain⟨z,a1,a2,h1,h2,_⟩:=Rd.run_bind_some h
  obtain⟨rfl,_⟩:=Rd.run_ret_some h2
  exact do_load ho hc hdst h1
 ·rename_i t p x ho
  exact do_store ho hc hdst h
 ·rename_i t x lo hi mx ho
  exact do_slice ho hc hdst (fun e he=>by rw[he]) h
 ·rename_i t x c ho
  split at h
  ·rename_i e k m k' q hd hx hq
   split at h
   ·rename_i z hz
    split at h
    ·rename_i hcond
     have hbig:q<big:=by have h1:=hcond.1;have h2:=hcond.2.1;have h3:=hcond.2.2.1;omega
     split at h
     ·split at h
      ·rename_i hB
       exact do_makeBoxes ho hc hdst hd hx hq hcond.1 hcond.2.1 hbig hcond.2.2.2 hB.1 hB.2.1 hB.2.2 (zeroT_rep hz).2.2.1 h
      ·exact(Rd.run_fail_some h).elim
     ·exact do_makeSlice ho hc hdst hd hx hq hz hcond.1 hcond.2.1 hbig hcond.2.2.2 h
    ·exact(Rd.run_fail_some h).elim
   ·exact(Rd.run_fail_some h).elim
  ·exact(Rd.run_fail_some h).elim
 ·rename_i t N ps ho
  split at h
  ·rename_i e hd
   obtain⟨r,a1,a2,h1,h2,_⟩:=Rd.run_bind_some h
   split at h2
   ·rename_i hcond
    obtain⟨c1,c2,c3,c4,c5⟩:=hcond
    exact do_buildSlice ho hc hdst hd ⟨a1,h1⟩ c1 (by simpa using c2) c3 c4 c5 h2
   ·exact(Rd.run_fail_some h2).elim
  ·exact(Rd.run_fail_some h).elim
 ·rename_i t ps ho
  obtain⟨z,hz,rfl⟩:=vRun h
  exact do_build ho hc hdst hz
 ·rename_i t x ho
  split at h
  ·rename_i hok
   exact do_box ho hc hdst hok h
  ·exact(Rd.run_fail_some h).elim
 ·rename_i t ho
  split at h
  ·rename_i hcond
   exact do_alloc ho hc hdst hcond.1 hcond.2.1 hcond.2.2 h
  ·exact(Rd.run_fail_some h).elim
 ·rename_i g first caps ho
  split at h
  ·rename_i hfirst
   obtain⟨z,hz,rfl⟩:=vRun h
   rw[Option.map_eq_some_iff]at hz
   obtain⟨l,hl,rfl⟩:=hz
   exact do_makeFunc ho hc hdst hfirst hl
  ·exact(Rd.run_fail_some h).elim
 ·rename_i t ho
  split at h
  ·rename_i d kt et hd ht
   obtain⟨a1,h,_⟩:=Rd.run_ask_some h
   split at h
   ·rename_i hl
    obtain⟨rfl,_⟩:=Rd.run_ret_some h
    exact do_makeMap ho hd hc hdst hl
   ·exact(Rd.run_fail_some h).elim
  ·exact(Rd.run_fail_some h).elim
 ·rename_i t m k x ho
  split at h
  ·rename_i kt et ht
   split at h
   ·rename_i hk
    split at h
    ·rename_i l ki xi hm hki hxi
     obtain⟨a1,h,_⟩:=Rd.run_ask_some h
     split at h
     ·rename_i kvs hl
      obtain⟨rfl,_⟩:=Rd.run_ret_some h
      exact do_mapUpdate ho ht hk hm hki hxi hl hc hdst
     ·exact(Rd.run_fail_some h).elim
    ·exact(Rd.run_fail_some h).elim
   ·exact(Rd.run_fail_some h).elim
  ·exact(Rd.run_fail_some h).elim
 ·rename_i t m k ho
  split at h
  ·rename_i kt et ht
   split at h
   ·rename_i hk
    split at h
    ·rename_i l ki hm hki
     obtain⟨a1,h,_⟩:=Rd.run_ask_some h
     split at h
     ·rename_i kvs hl
      split at h
      ·rename_i hi
       obtain⟨rfl,_⟩:=Rd.run_ret_some h
       exact do_lookup ho ht hk hm hki hl hi hc hdst
      ·exact(Rd.run_fail_some h).elim
     ·exact(Rd.run_fail_some h).elim
    ·exact(Rd.run_fail_some h).elim
   ·exact(Rd.run_fail_some h).elim
  ·exact(Rd.run_fail_some h).elim
 ·rename_i st dt x ho
  obtain⟨z,hz,rfl⟩:=vRun h
  rw[Option.map_eq_some_iff]at hz
  obtain⟨t',hz,rfl⟩:=hz
  exact do_convert ho hc hdst hz
 ·rename_i x i ho
  split at h
  ·rename_i vs hx
   obtain⟨z,hz,rfl⟩:=vRun h
   exact do_extract ho hc hdst hx hz
  ·exact(Rd.run_fail_some h).elim
 ·rename_i b xs ts ho
  split at h
  ·split at h
   ·rename_i x t hx ht
    obtain⟨z,a1,a2,h1,h2,_⟩:=Rd.run_bind_some h
    obtain⟨rfl,_⟩:=Rd.run_ret_some h2
    have e1:xs= #[x]:=by rw[←Array.toArray_toList (xs:=xs),hx]
    have e2:ts= #[t]:=by rw[←Array.toArray_toList (xs:=ts),ht]
    subst e1
    subst e2
    exact do_len ho hc hdst h1
   ·exact(Rd.run_fail_some h).elim
  ·split at h
   ·rename_i x x' t t' hx ht
    have e1:xs= #[x,x']:=by rw[←Array.toArray_toList (xs:=xs),hx]
    have e2:ts= #[t,t']:=by rw[←Array.toArray_toList (xs:=ts),ht]
    subst e1
    subst e2
    split at h
    ·exact(Rd.run_fail_some h).elim
    ·rename_i htt
     have htt:t=t':=Decidable.byContradiction htt
     subst htt
     split at h
     ·rename_i e hd
      split at h
      ·rename_i hcond
       exact do_append ho hc hdst hd hcond.1 hcond.2 h
      ·exact(Rd.run_fail_some h).elim
     ·exact(Rd.run_fail_some h).elim
   ·exact(Rd.run_fail_some h).elim
  ·split at h
   ·rename_i k p k' q hx
    obtain⟨rfl,_⟩:=Rd.run_ret_some h
    obtain⟨x1,x2,hxs,e1,e2⟩:=twoInts hx
    have hxs:xs= #[x1,x2]:=by rw[←Array.toArray_toList (xs:=xs),hxs]
    subst hxs
    exact do_minmax (.inl rfl) ho hc hdst e1 e2
   ·exact(Rd.run_fail_some h).elim
  ·split at h
   ·rename_i k p k' q hx
    obtain⟨rfl,_⟩:=Rd.run_ret_some h
    obtain⟨x1,x2,hxs,e1,e2⟩:=twoInts hx
    have hxs:xs= #[x1,x2]:=by rw[←Array.toArray_toList (xs:=xs),hxs]
    subst hxs
    have:=do_minmax (P:=P) (.inr rfl) ho hc hdst e1 e2
    simpa using this
   ·exact(Rd.run_fail_some h).elim
  ·exact(Rd.run_fail_some h).elim
 ·exact(Rd.run_fail_some h).elim
end
inductive RC where
 |t (t:T)|own (size:Nat) (es:List T)
 deriving Inhabited
def rcA (j:Nat):RC→AV
 |.t t=>.t t
 |.own _ es=>.sl (.res j) 0 0 es.length
def rsAs (k:Nat):List RC→List AV
 |[]=>[]
 |r::rs=>rcA k r::rsAs (k+1) rs
def rsA:List RC→AV
 |[r]=>rcA 0 r
 |rs=>.tup (rsAs 0 rs)
def resH (h:Heap) (rs:List RC):Heap:=fun l=>match l with
 | .res j => match rs[j]? with
   |some (.own size es)=>some (.arr size es 0 0)
   |_=>none
 |l=>h l
def ArgStep (o o':Obj):Prop:=match o with
 |.arr size es v _=>∃es' frz',o'=.arr size es' v frz'∧es.length≤es'.length
 |_=>o'=o
theorem ArgStep.refl (o:Obj):ArgStep o o:=by cases o<;>first|rfl|exact⟨_,_,rfl,Nat.le_refl _⟩
def Keeps (h h':Heap):Prop:=(∀id cs,h (.obj id)=some (.box cs)→∃cs',h' (.obj id)=some (.box cs'))∧∀i o,h (.arg i)=some o→∃o',h' (.arg i)=some o'∧ArgStep o o'
theorem Keeps.refl (h:Heap):Keeps h h:=⟨fun _ _ hc=>⟨_,hc⟩,fun _ _ hc=>⟨_,hc,ArgStep.refl _⟩⟩
theorem Keeps.none (h':Heap):Keeps (fun _=>Option.none) h':=⟨fun _ _ h=>(by cases h),fun _ _ h=>(by cases h)⟩
def RetA (P:Program) (g:FuncId) (as:List AV) (h:Heap) (m:Nat) (rs:List RC) (h':Heap) (m':Nat):Prop:=
 (∀l,Lab.pool l=false→h' l=none)∧Keeps h h'∧
 ∀(φ0:Inj) (S0:Addr→Prop) (w0:World) (vs:List Value),(∀l,Lab.pool l=false→h l=none)→Mem ⟨w0,φ0,S0,h⟩ φ0 S0 h m w0→vs.length=as.length→
  (∀(j:Nat) (x:AV) (v:Value),as[j]?=some x→vs[j]?=some v→RepA φ0 h w0 S0 x v)→
  Calls P g vs.toArray w0 fun e w'=>∃v φ' S',e=.returned v∧Mem ⟨w0,φ0,S0,h⟩ φ' S' (resH h' rs) m' w'∧RepA φ' (resH h' rs) w' S' (rsA rs) v
def Ret (P:Program) (g:FuncId) (ts:List T) (h:Heap) (m:Nat) (rs:List RC) (h':Heap) (m':Nat):Prop:=RetA P g (ts.map .t) h m rs h' m'
theorem Ret.use {P:Program} {g:FuncId} {ts:List T} {h:Heap} {m:Nat} {rs:List RC} {h':Heap} {m':Nat} (hR:Ret P g ts h m rs h' m') (φ0:Inj) (S0:Addr→Prop) (w0:World) (vs:List Value) (hh:∀l,Lab.pool l=false→h l=none)
  (M:Mem ⟨w0,φ0,S0,h⟩ φ0 S0 h m w0) (hlen:vs.length=ts.length) (hvs:∀(j:Nat) (t:T) (v:Value),ts[j]?=some t→vs[j]?=some v→RepT φ0.objs w0 S0 t v):
  Calls P g vs.toArray w0 fun e w'=>∃v φ' S',e=.returned v∧Mem ⟨w0,φ0,S0,h⟩ φ' S' (resH h' rs) m' w'∧RepA φ' (resH h' rs) w' S' (rsA rs) v:=
 hR.2.2 φ0 S0 w0 vs hh M (by simpa using hlen) fun j x v hj hv=>by
  rw[List.getElem?_map,Option.map_eq_some_iff]at hj
  obtain⟨t,ht,rfl⟩:=hj
  exact .t _ _ (hvs j t v ht hv)
def Pure (P:Program) (g:FuncId) (ts:List T) (rs:List RC):Prop:=Ret P g ts (fun _=>none) 0 rs (fun _=>none) 0
mutual
def noPtr:T→Bool
 |.ptr _=>false
 |.slice es=>noPtrL es
 |.agg cs=>noPtrL cs
 |.fn _ cs=>noPtrL cs
 |_=>true
def noPtrL:List T→Bool
 |[]=>true
 |t::r=>noPtr t&&noPtrL r
end
theorem noPtrL_iff (l:List T):noPtrL l=true↔∀t∈l,noPtr t=true:=by
 induction l with
 |nil=>simp[noPtrL]
 |cons t r ih=>simp[noPtrL,ih]
def flatT:T→Bool
 |.int _ _|.bool _|.str _|.nilp|.nofn=>true
 |_=>false
def flatRC:RC→Bool
 |.t t=>flatT t
 |.own _ es=>es.all fun e=>e.cells.all flatT
theorem repT_flat {O O':Nat→Option Nat} {w w':World} {S S':Addr→Prop} {t:T} {v:Value} (h:RepT O w S t v) (hf:flatT t=true):RepT O' w' S' t v:=by
 cases h with
 |int=>exact .int _ _
 |bool=>exact .bool _
 |str _ _ h=>exact .str _ _ h
 |nilp=>exact .nilp
 |nofn=>exact .nofn
 |_=>simp[flatT]at hf
theorem noPtr_cells {e:T} (h:noPtr e=true):∀c∈e.cells,noPtr c=true:=by
 cases e with
 |agg cs=>exact(noPtrL_iff cs).1 (by simpa [noPtr] using h)
 |_=>intro c hc;simp[T.cells]at hc;subst hc;exact h
theorem RepT.noObj {O:Nat→Option Nat} {w:World} {S:Addr→Prop} {t:T} {v:Value} (h:RepT O w S t v):noPtr t=true→∀O',RepT O' w S t v:=by
 induction h with
 |int k n=>exact fun _ _=>.int k n
 |bool b=>exact fun _ _=>.bool b
 |str l s h=>exact fun _ _=>.str l s h
 |nilp=>exact fun _ _=>.nilp
 |ptr id b h=>intro h';simp[noPtr]at h'
 | slice es a ad cap size u hcap ha hsz hsc hc hr ih =>
   intro h' O'
   have h':=(noPtrL_iff es).1 (by simpa [noPtr] using h')
   exact .slice es a ad cap size u hcap ha hsz hsc hc fun i j e c he hcj=>ih i j e c he hcj (noPtr_cells (h' e (List.mem_of_getElem? he)) c (List.mem_of_getElem? hcj)) O'
 | agg cs vs hn hsc hr ih =>
   intro h' O'
   have h':=(noPtrL_iff cs).1 (by simpa [noPtr] using h')
   exact .agg cs vs hn hsc fun j c v hj hv=>ih j c v hj hv (h' c (List.mem_of_getElem? hj)) O'
 | fn g cs vs hn hr ih =>
   intro h' O'
   have h':=(noPtrL_iff cs).1 (by simpa [noPtr] using h')
   exact .fn g cs vs hn fun j c v hj hv=>ih j c v hj hv (h' c (List.mem_of_getElem? hj)) O'
 |nofn=>exact fun _ _=>.nofn
section
variable {κ:Kap} {φ:Inj} {S:Addr→Prop} {H:Heap} {n:Nat} {w:World}
theorem Mem.after (M:Mem κ φ S H n w) {w':World} {S3:Addr→Prop} (hgrow:w.heap.size≤w'.heap.size) (hkeep:∀l b,φ l=some b→w'.heap[b]?=w.heap[b]?) (hcell:∀a u,S a→w.cell? a=some u→w'.cell? a=some u)
  (hold:∀b,b<κ.w0.heap.size→(∀l,κ.φ0 l≠some b)→w'.heap[b]?=w.heap[b]?)
  (hos:w'.os=w.os) (htape:w'.tape=w.tape) (hout:w'.output=w.output) (h1:∀a,S a→S3 a) (h2:∀a,S3 a→¬Mut φ H a) (h3:∀a,S3 a→a.block<w'.heap.size∧a.spot=none)
  (h4:∀a,S3 a→κ.S0 a∨κ.w0.heap.size≤a.block∨∃l,κ.φ0 l=some a.block):Chg κ φ S H w φ S3 H n w':=by
 have hstep:∀l' o,H l'=some o→∃o',H l'=some o'∧LStep φ φ w w' l' o o':=fun l' o ho=>⟨o,ho,LStep.refl o fun b cs ty fr hb h=>⟨cs,ty,fr,(hkeep _ b hb).trans h,Nat.le_refl _⟩⟩
 refine⟨?_,fun y u h=>h.mono (fun _ _ h=>h) h1 hcell hstep,fun t u h=>h.mono (fun _ _ h=>h) h1 hcell⟩
 exact { inj := M.inj, dom := M.dom, lt := fun l b h => Nat.lt_of_lt_of_le (M.lt l b h) hgrow, objs := fun l o ho => (M.objs l o ho).mono (fun _ _ h => h) h1 hcell hstep rfl fun b hb => hkeep _ b hb,
         stab:=h2,slt:=h3,nx:=M.nx,sub:=fun a h=>h1 a (M.sub a h),sup:=h4,grow:=Nat.le_trans M.grow hgrow,os:=hos.trans M.os,tape:=htape.trans M.tape,output:=hout.trans M.output,
         keep:=fun b hb h=>(hold b hb h).trans (M.keep b hb h),keepS:=fun a u h h'=>hcell a u (M.sub a h) (M.keepS a u h h'),old:=M.old,loc0:=M.loc0,fldk:=M.fldk.step hstep,objk:=fun l b hf h=>⟨(M.objk l b hf h).1,(M.objk l b hf h).2.trans (Kept.same (hkeep l b (M.objk l b hf h).1))⟩}
theorem repT_of_hdr' {l:Lab} {size:Nat} {es:List T} {v frz:Nat} {u:Value} (hobj:ObjRep φ H w S l (.arr size es v frz)) (hh:Hdr φ w l size es.length 0 es.length u) {O':Nat→Option Nat} {S':Addr→Prop}
  (hS:∀b off,φ l=some b→off<es.length*size→S' ⟨b,off,none⟩) (hT:∀e∈es,∀c∈e.cells,∀x,RepT φ.objs w S c x→RepT O' w S' c x):RepT O' w S' (.slice es) u:=by
 obtain⟨o1,o2,o3,o4,o5,o6⟩:=hobj
 obtain⟨h1,ad,cap,rfl,h2,h3,h4⟩:=hh
 by_cases hz:es=[]
 ·subst hz
  exact repT_nil _ _ _ _ _
 ·cases hφ:φ l with
  |none=>exact absurd (o5 hφ) hz
  | some b =>
    obtain⟨rfl,cs0,ty0,fr0,m1,m2⟩:=h4 b hφ (.inl rfl)
    obtain⟨cs,ty,g1,g2,g3,g4⟩:=o6 b hφ
    have hcell:∀(i j:Nat) (e c:T),es[i]?=some e→e.cells[j]?=some c→
     w.cell? ⟨b,0*size+i*size+j,none⟩=some (cs.getD (i*size+j) undef)∧S' ⟨b,0*size+i*size+j,none⟩∧RepT O' w S' c (cs.getD (i*size+j) undef):=by
     intro i j e c he hc
     obtain⟨x,k1,k2⟩:=g3 i j e c he hc
     have hi:=(List.getElem?_eq_some_iff.1 he).1
     have hj:j<size:=by
      have:=(List.getElem?_eq_some_iff.1 hc).1
      rw[o2 e (List.mem_of_getElem? he)]at this
      exact this
     have hlt:i*size+j<es.length*size:=by
      have:=Nat.mul_le_mul_right size (show i+1≤es.length by omega)
      rw[Nat.add_mul,Nat.one_mul]at this
      omega
     rw[show 0*size+i*size+j=i*size+j by omega]
     refine⟨by rw[cell?_eq g1,k1];simp[k1],hS b _ hφ hlt,?_⟩
     have:=hT e (List.mem_of_getElem? he) c (List.mem_of_getElem? hc) _ k2
     simpa [k1] using this
    exact .slice _ _ ⟨b,0*size,none⟩ cap size (fun i j=>cs.getD (i*size+j) undef) h2 (fun _=>⟨rfl,rfl⟩) o2 o3
     (fun i j e c he hc=>⟨(hcell i j e c he hc).1,(hcell i j e c he hc).2.1⟩) (fun i j e c he hc=>(hcell i j e c he hc).2.2)
end
def retT:RC→AV
 |.t t=>.t t
 |.own _ es=>.t (.slice es)
def retAd (d k:Nat):RC→AV
 |.t t=>.t t
 |.own _ es=>.sl (.loc d k) 0 0 es.length
def retC (ad:Option Nat) (k:Nat) (r:RC):AV:=
 match ad with
 |none=>retT r
 |some d=>retAd d k r
def retCs (ad:Option Nat) (k:Nat):List RC→List AV
 |[]=>[]
 |r::rs=>retC ad k r::retCs ad (k+1) rs
def retVal (ad:Option Nat):List RC→AV
 |[r]=>retC ad 0 r
 |rs=>.tup (retCs ad 0 rs)
def retW (d k:Nat):List RC→List (Lab×Obj)
 |[]=>[]
 |.own size es::rs=>(.loc d k,.arr size es 0 0)::retW d (k+1) rs
 |.t _::rs=>retW d (k+1) rs
theorem rsAs_get:∀(rs:List RC) (k j:Nat),(rsAs k rs)[j]?=(rs[j]?).map (rcA (k+j))
 |[],k,j=>by simp[rsAs]
 | r :: rs, k, j => by
   cases j with
   |zero=>simp[rsAs]
   |succ j=>simp only[rsAs,List.getElem?_cons_succ,rsAs_get rs (k+1) j];rw[show k+1+j=k+(j+1) by omega]
theorem rsAs_length:∀(rs:List RC) (k:Nat),(rsAs k rs).length=rs.length
 |[],_=>rfl
 |r::rs,k=>by simp[rsAs,rsAs_length rs]
theorem retCs_get (ad:Option Nat):∀(rs:List RC) (k j:Nat),(retCs ad k rs)[j]?=(rs[j]?).map (retC ad (k+j))
 |[],k,j=>by simp[retCs]
 | r :: rs, k, j => by
   cases j with
   |zero=>simp[retCs]
   |succ j=>simp only[retCs,List.getElem?_cons_succ,retCs_get ad rs (k+1) j];rw[show k+1+j=k+(j+1) by omega]
theorem retCs_length (ad:Option Nat):∀(rs:List RC) (k:Nat),(retCs ad k rs).length=rs.length
 |[],_=>rfl
 |r::rs,k=>by simp[retCs,retCs_length ad rs]
def adH (d:Nat) (rs:List RC) (H:Heap):Heap:=fun l=>match l with
 |.loc d' j=>if d'=d then (match rs[j]? with|some (.own size es)=>some (.arr size es 0 0)|_=>H (.loc d' j)) else H (.loc d' j)
 |l=>H l
theorem writes_retW (d : Nat) : ∀ (rs : List RC) (k : Nat) (H : Heap), writes H (retW d k rs) = fun l => match l with
  |.loc d' j=>if d'=d∧k≤j then (match rs[j-k]? with|some (.own size es)=>some (.arr size es 0 0)|_=>H (.loc d' j)) else H (.loc d' j)
  |l=>H l
 | [], k, H => by
   funext l
   cases l<;>simp[retW,writes_nil]
 | r :: rs, k, H => by
   have key : ∀ (H1 : Heap), (∀ l, (∀ j, l ≠ .loc d j ∨ j ≠ k) → H1 l = H l) → (∀ j, j = k → H1 (.loc d j) = match r with | .own size es => some (.arr size es 0 0) | _ => H (.loc d j)) →
    writes H1 (retW d (k+1) rs)=fun l=>match l with
     |.loc d' j=>if d'=d∧k≤j then (match (r::rs)[j-k]? with|some (.own size es)=>some (.arr size es 0 0)|_=>H (.loc d' j)) else H (.loc d' j)
     |l=>H l:=by
    intro H1 h1 h2
    rw[writes_retW d rs (k+1) H1]
    funext l
    cases l with
    | loc d' j =>
      simp only
      by_cases e:d'=d
      ·subst e
       by_cases ej:j=k
       ·subst ej
        rw[if_neg (by omega),if_pos ⟨rfl,Nat.le_refl _⟩,h2 j rfl,Nat.sub_self,List.getElem?_cons_zero]
        cases r<;>rfl
       ·have hh:=h1 (.loc d' j) (fun j'=>by
          by_cases e2:j'=k
          ·left;intro h;cases h;exact ej e2
          ·right;exact e2)
        rw[hh]
        by_cases hk:k≤j
        ·rw[if_pos ⟨rfl,by omega⟩,if_pos ⟨rfl,hk⟩,show j-k=(j-(k+1))+1 by omega,List.getElem?_cons_succ]
        ·rw[if_neg (by omega),if_neg (by omega)]
      ·rw[if_neg (fun h=>e h.1),if_neg (fun h=>e h.1)]
       exact h1 _ fun j'=>.inl fun h=>by cases h;exact e rfl
    |arg i=>exact h1 _ fun j'=>.inl fun h=>by cases h
    |obj i=>exact h1 _ fun j'=>.inl fun h=>by cases h
    |fld i j=>exact h1 _ fun j'=>.inl fun h=>by cases h
    |res i=>exact h1 _ fun j'=>.inl fun h=>by cases h
   cases r with
   |t t=>exact key H (fun _ _=>rfl) (fun _ _=>rfl)
   | own size es =>
     simp only[retW,writes_cons]
     refine key _ (fun l hl=>upd_ne _ _ _ _ fun e=> ?_) (fun j e=>by subst e;exact upd_same _ _ _)
     subst e
     rcases hl k with h|h
     ·exact h rfl
     ·exact h rfl
theorem writes_retW0 (d:Nat) (rs:List RC) (H:Heap):writes H (retW d 0 rs)=adH d rs H:=by
 rw[writes_retW]
 funext l
 cases l<;>simp[adH]
section
variable {P:Program} {κ:Kap} {φ:Inj} {S:Addr→Prop} {H:Heap} {n:Nat} {w:World}
structure Owns (φ:Inj) (S:Addr→Prop) (n0:Nat) (w:World) (rs:List RC) (ψ:Nat→Option Nat) (O:Nat→Option Nat):Prop where
 inj:∀j j' b,ψ j=some b→ψ j'=some b→j=j'
 no:∀j b,ψ j=some b→∃size es,rs[j]?=some (.own size es)
 new:∀j b,ψ j=some b→(∀l,φ l≠some b)∧b<w.heap.size∧n0≤b∧∀a,S a→a.block≠b
 obj:∀j size es,rs[j]?=some (.own size es)→size≠0∧(∀e∈es,e.cells.length=size)∧(∀e∈es,∀c∈e.cells,c.scal)∧(ψ j=none→es=[])∧
  ∀b,ψ j=some b→∃cs ty,w.heap[b]?=some (.cells cs ty (0,0))∧es.length*size≤cs.size∧
   ∀(i k:Nat) (e c:T),es[i]?=some e→e.cells[k]?=some c→∃u,cs[i*size+k]?=some u∧RepT O w S c u
def adφ (d:Nat) (rs:List RC) (ψ:Nat→Option Nat) (φ:Inj):Inj:=fun l=>match l with
 |.loc d' j=>if d'=d then (match rs[j]? with|some (.own _ _)=>ψ j|_=>φ (.loc d' j)) else φ (.loc d' j)
 |l=>φ l
theorem Mem.adoptAll (M:Mem κ φ S H n w) {d:Nat} {rs:List RC} {ψ:Nat→Option Nat} (hn:∀j size es,rs[j]?=some (.own size es)→H (.loc d j)=none) (F:Owns φ S κ.w0.heap.size w rs ψ φ.objs):
  Chg κ φ S H w (adφ d rs ψ φ) S (adH d rs H) n w:=by
 have fAd:∀j size es,rs[j]?=some (.own size es)→adφ d rs ψ φ (.loc d j)=ψ j∧adH d rs H (.loc d j)=some (.arr size es 0 0):=fun j size es h=>by simp[adφ,adH,h]
 have cases_l:∀l,(∃j size es,l=.loc d j∧rs[j]?=some (.own size es))∨(adφ d rs ψ φ l=φ l∧adH d rs H l=H l):=by
  intro l
  cases l with
  | loc d' j =>
    by_cases e:d'=d
    ·subst e
     cases hr:rs[j]? with
     |none=>right;simp[adφ,adH,hr]
     | some r => cases r with
       |t t=>right;simp[adφ,adH,hr]
       |own size es=>left;exact⟨j,size,es,rfl,hr⟩
    ·right;simp[adφ,adH,e]
  |_=>right;exact⟨rfl,rfl⟩
 have hO:∀id b,φ (.obj id)=some b→adφ d rs ψ φ (.obj id)=some b:=fun id b h=>h
 have hstep:∀l o,H l=some o→∃o',adH d rs H l=some o'∧LStep φ (adφ d rs ψ φ) w w l o o':=by
  intro l o ho
  rcases cases_l l with ⟨j,size,es,rfl,hr⟩|⟨e1,e2⟩
  ·rw[hn j size es hr]at ho;cases ho
  ·refine⟨o,by rw[e2];exact ho,?_⟩
   cases o with
   |box=>exact e1
   |map=>exact e1
   |dead=>exact trivial
   |arr=>exact⟨Nat.le_refl _,fun _=>⟨rfl,Nat.le_refl _,e1,fun b cs ty fr _ h=>⟨cs,ty,fr,h,Nat.le_refl _⟩⟩⟩
 have tv:∀t v,RepT φ.objs w S t v→RepT (Inj.objs (adφ d rs ψ φ)) w S t v:=fun t v h=>h.mono hO (fun _ h=>h) (fun _ _ _ h=>h)
 refine⟨?_,fun y u h=>h.mono hO (fun _ h=>h) (fun _ _ _ h=>h) hstep,tv⟩
 refine{M with inj:= ?_,dom:= ?_,lt:= ?_,objs:= ?_,stab:= ?_,nx:=M.nx,old:= ?_,fldk:=M.fldk.step hstep,objk:=fun l b hf h=>by cases l<;>first|exact M.objk _ b hf h|cases hf}
 ·intro l1 l2 b h1 h2
  rcases cases_l l1 with ⟨j1,s1,e1,rfl,hr1⟩|⟨p1,q1⟩<;>rcases cases_l l2 with ⟨j2,s2,e2,rfl,hr2⟩|⟨p2,q2⟩
  ·rw[(fAd _ _ _ hr1).1]at h1;rw[(fAd _ _ _ hr2).1]at h2
   rw[F.inj _ _ _ h1 h2]
  ·rw[(fAd _ _ _ hr1).1]at h1;rw[p2]at h2
   exact absurd h2 ((F.new _ _ h1).1 _)
  ·rw[p1]at h1;rw[(fAd _ _ _ hr2).1]at h2
   exact absurd h1 ((F.new _ _ h2).1 _)
  ·rw[p1]at h1;rw[p2]at h2;exact M.inj _ _ _ h1 h2
 ·intro l h
  rcases cases_l l with ⟨j,size,es,rfl,hr⟩|⟨p,q⟩
  ·rw[(fAd _ _ _ hr).2]at h;cases h
  ·rw[q]at h;rw[p];exact M.dom l h
 ·intro l b h
  rcases cases_l l with ⟨j,size,es,rfl,hr⟩|⟨p,q⟩
  ·rw[(fAd _ _ _ hr).1]at h;exact(F.new _ _ h).2.1
  ·rw[p]at h;exact M.lt l b h
 ·intro l o h
  rcases cases_l l with ⟨j,size,es,rfl,hr⟩|⟨p,q⟩
  ·rw[(fAd _ _ _ hr).2]at h
   cases h
   obtain⟨f1,f2,f3,f4,f5⟩:=F.obj _ _ _ hr
   refine⟨f1,f2,f3,Nat.zero_le _,fun h=>f4 ((fAd _ _ _ hr).1▸h),fun b hb=> ?_⟩
   rw[(fAd _ _ _ hr).1]at hb
   obtain⟨cs,ty,g1,g2,g3⟩:=f5 b hb
   exact⟨cs,ty,g1,g2,fun i k e c he hc=>let ⟨u,q1,q2⟩:=g3 i k e c he hc;⟨u,q1,tv _ _ q2⟩,fun i k h=>absurd h (Nat.not_lt_zero _)⟩
  ·rw[q]at h
   exact(M.objs l o h).mono hO (fun _ h=>h) (fun _ _ _ h=>h) hstep p fun _ _=>rfl
 ·rintro ad h ⟨l,o,h1,h2,h3⟩
  rcases cases_l l with ⟨j,size,es,rfl,hr⟩|⟨p,q⟩
  ·rw[(fAd _ _ _ hr).1]at h2
   exact(F.new _ _ h2).2.2.2 ad h rfl
  ·rw[p]at h2;rw[q]at h1;exact M.stab ad h ⟨l,o,h1,h2,h3⟩
 ·intro l b h hlt
  rcases cases_l l with ⟨j,size,es,rfl,hr⟩|⟨p,q⟩
  ·rw[(fAd _ _ _ hr).1]at h
   have:=(F.new _ _ h).2.2.1
   omega
  ·rw[p]at h;exact M.old l b h hlt
end
section
variable {P:Program} {κ κ':Kap} {φ φb φ':Inj} {S Sb S2:Addr→Prop} {H Hb h':Heap} {n nb n':Nat} {w w':World} {rs:List RC}
theorem resH_own {j size:Nat} {es:List T} (h:rs[j]?=some (.own size es)):resH h' rs (.res j)=some (.arr size es 0 0):=by simp[resH,h]
theorem Mem.res_no (M':Mem κ' φ' S2 (resH h' rs) n' w') {j b:Nat} (h:φ' (.res j)=some b):∃size es,rs[j]?=some (.own size es):=by
 have:=M'.blk_ne h
 simp only[resH]at this
 split at this
 ·rename_i size es hr;exact⟨size,es,hr⟩
 ·exact absurd rfl this
theorem comp_none (M':Mem κ' φ' S2 (resH h' rs) n' w') {S3:Addr→Prop} {O:Inj} {H3:Heap} {j:Nat} {r:RC} {u:Value} (hr:rs[j]?=some r) (hu:RepA φ' (resH h' rs) w' S2 (rcA j r) u)
  (hTt:∀t,r=.t t→∀v,RepT φ'.objs w' S2 t v→RepT O.objs w' S3 t v) (hTo:∀size es,r=.own size es→∀e∈es,∀c∈e.cells,∀v,RepT φ'.objs w' S2 c v→RepT O.objs w' S3 c v)
  (hS:∀b off size es,r=.own size es→φ' (.res j)=some b→off<es.length*size→S3 ⟨b,off,none⟩):RepA O H3 w' S3 (retT r) u:=by
 cases r with
 |t t=>cases hu with|t _ _ h0=>exact .t _ _ (hTt t rfl _ h0)
 | own size es =>
   cases hu with
   | sl _ _ _ _ _ o ho hv hh =>
     rw[resH_own hr]at ho
     cases ho
     exact .t _ _ (repT_of_hdr' (M'.objs _ _ (resH_own hr)) ((hh _ _ _ _ rfl).2 rfl) (fun b off hb hlt=>hS b off size es rfl hb hlt) (hTo size es rfl))
theorem retVal_rep {ad:Option Nat} {φ3:Inj} {H3:Heap} {S3:Addr→Prop} {v:Value} (hv:RepA φ' (resH h' rs) w' S2 (rsA rs) v)
  (hc:∀(j:Nat) (r:RC) (u:Value),rs[j]?=some r→RepA φ' (resH h' rs) w' S2 (rcA j r) u→RepA φ3 H3 w' S3 (retC ad j r) u):RepA φ3 H3 w' S3 (retVal ad rs) v:=by
 have tup:rsA rs=.tup (rsAs 0 rs)→retVal ad rs=.tup (retCs ad 0 rs)→RepA φ3 H3 w' S3 (retVal ad rs) v:=by
  intro e1 e2
  rw[e1]at hv
  rw[e2]
  cases hv with
  | tup _ vs hn hr =>
    refine .tup _ _ (by rw[hn,rsAs_length,retCs_length]) fun j c u hj hu=> ?_
    rw[retCs_get,Option.map_eq_some_iff]at hj
    obtain⟨r,hr',rfl⟩:=hj
    rw[Nat.zero_add]
    refine hc j r u hr' (hr j _ u ?_ hu)
    rw[rsAs_get,hr',Nat.zero_add];rfl
 match rs,hv,hc,tup with
 |[],hv,hc,tup=>exact tup rfl rfl
 |[r],hv,hc,_=>exact hc 0 r v rfl hv
 |r::r'::rs',hv,hc,tup=>exact tup rfl rfl
structure Back (κ:Kap) (φ:Inj) (S:Addr→Prop) (H:Heap) (w:World) (φb:Inj) (Sb:Addr→Prop) (Hb:Heap) (nb:Nat) (φ':Inj) (S2:Addr→Prop) (rs:List RC) (w':World):Prop where
 chg:Chg κ φ S H w φb Sb Hb nb w'
 sub:∀a,Sb a→S2 a
 tt:∀(j:Nat) (t:T),rs[j]?=some (.t t)→∀v,RepT φ'.objs w' S2 t v→RepT φb.objs w' Sb t v
 to:∀(j size:Nat) (es:List T),rs[j]?=some (.own size es)→∀e∈es,∀c∈e.cells,∀v,RepT φ'.objs w' S2 c v→RepT φb.objs w' Sb c v
 new:∀j b,φ' (.res j)=some b→(∀l,φb l≠some b)∧κ.w0.heap.size≤b
theorem Back.plain (B:Back κ φ S H w φb Sb Hb nb φ' S2 rs w') (M':Mem κ' φ' S2 (resH h' rs) n' w') {v:Value} (hv:RepA φ' (resH h' rs) w' S2 (rsA rs) v):
  ∃S3,Chg κ φ S H w φb S3 Hb nb w'∧RepA φb Hb w' S3 (retVal none rs) v:=by
 have M:=B.chg.mem
 let S3:Addr→Prop:=fun a=>Sb a∨∃j size es,rs[j]?=some (.own size es)∧φ' (.res j)=some a.block∧a.spot=none∧a.off<es.length*size
 have C:Chg κ φb Sb Hb w' φb S3 Hb nb w':=by
  refine M.after (Nat.le_refl _) (fun _ _ _=>rfl) (fun _ _ _ h=>h) (fun _ _ _=>rfl) rfl rfl rfl (fun a h=>.inl h) ?_ ?_ ?_
  ·rintro a (h|⟨j,size,es,h1,h2,h3,h4⟩)
   ·exact M.stab a h
   ·rintro ⟨l,o,_,hl,_⟩
    exact(B.new j _ h2).1 l hl
  ·rintro a (h|⟨j,size,es,h1,h2,h3,h4⟩)
   ·exact M.slt a h
   ·exact⟨M'.lt _ _ h2,h3⟩
  ·rintro a (h|⟨j,size,es,h1,h2,h3,h4⟩)
   ·exact M.sup a h
   ·exact .inr (.inl (B.new j _ h2).2)
 refine⟨S3,B.chg.trans C,retVal_rep hv fun j r u hr hu=>comp_none M' hr hu (fun t e v h=> ?_) (fun size es e el hel c hc v h=> ?_) fun b off size es e hb hlt=> ?_⟩
 ·subst e;exact C.tv _ _ (B.tt j t hr v h)
 ·subst e;exact C.tv _ _ (B.to j size es hr el hel c hc v h)
 ·subst e;exact .inr ⟨j,size,es,hr,hb,rfl,hlt⟩
theorem Back.adopt (B:Back κ φ S H w φb Sb Hb nb φ' S2 rs w') (M':Mem κ' φ' S2 (resH h' rs) n' w') {d:Nat} (hn:∀(j size:Nat) (es:List T),rs[j]?=some (.own size es)→Hb (.loc d j)=none) {v:Value} (hv:RepA φ' (resH h' rs) w' S2 (rsA rs) v):
  ∃φ3,Chg κ φ S H w φ3 Sb (adH d rs Hb) nb w'∧RepA φ3 (adH d rs Hb) w' Sb (retVal (some d) rs) v:=by
 have M:=B.chg.mem
 have F:Owns φb Sb κ.w0.heap.size w' rs (fun j=>φ' (.res j)) φb.objs:=by
  refine⟨fun j j' b h1 h2=>by have:=M'.inj _ _ _ h1 h2;injection this,fun j b h=>M'.res_no h,fun j b h=>⟨(B.new j b h).1,M'.lt _ _ h,(B.new j b h).2,fun a ha e=> ?_⟩,fun j size es hr=> ?_⟩
  ·obtain⟨size,es,hr⟩:=M'.res_no h
   exact M'.stab a (B.sub a ha) ⟨.res j,_,resH_own hr,by rw[e];exact h,by simp[Obj.opn]⟩
  ·obtain⟨o1,o2,o3,o4,o5,o6⟩:=M'.objs _ _ (resH_own hr)
   refine⟨o1,o2,o3,o5,fun b hb=> ?_⟩
   obtain⟨cs,ty,g1,g2,g3,g4⟩:=o6 b hb
   exact⟨cs,ty,g1,g2,fun i k e c he hc=>let ⟨u,q1,q2⟩:=g3 i k e c he hc;⟨u,q1,B.to j size es hr e (List.mem_of_getElem? he) c (List.mem_of_getElem? hc) u q2⟩⟩
 have C:=M.adoptAll (d:=d) hn F
 refine⟨_,B.chg.trans C,retVal_rep hv fun j r u hr hu=> ?_⟩
 cases r with
 |t t=>cases hu with|t _ _ h0=>exact .t _ _ (C.tv _ _ (B.tt j t hr _ h0))
 | own size es =>
   cases hu with
   | sl _ _ _ _ _ o ho hv' hh =>
     rw[resH_own hr]at ho
     cases ho
     obtain⟨k1,ad,cap,rfl,k3,k4,k5⟩:=(hh _ _ _ _ rfl).2 rfl
     refine .sl _ _ _ _ _ (.arr size es 0 0) (by simp[adH,hr]) trivial fun size' es' v'' frz' e=> ?_
     cases e
     have e1:adφ d rs (fun j=>φ' (.res j)) φb (.loc d j)=φ' (.res j):=by simp[adφ,hr]
     exact⟨Nat.le_refl _,fun _=>⟨k1,ad,cap,rfl,k3,by rw[e1];exact k4,by rw[e1];exact k5⟩⟩
theorem back_pure (M:Mem κ φ S H n w) {ts:List T} {ws:List (Lab×Obj)} {acc:List Lab} {xs:List AV} {vs:List Value} {g:FuncId} (hlen:vs.length=xs.length)
  (hx:∀(j:Nat) (x:AV) (u:Value),xs[j]?=some x→vs[j]?=some u→RepA φ H w S x u) (hr:(reifyE xs).run H=some ((ts,ws),acc)) (hnp:∀t∈ts,noPtr t=true) (hP:Pure P g ts rs):
  Calls P g vs.toArray w fun e w'=>∃v φ' S2 κ',e=.returned v∧Mem κ' φ' S2 (resH (fun _=>none) rs) 0 w'∧RepA φ' (resH (fun _=>none) rs) w' S2 (rsA rs) v∧
   ∃Sb,Back κ φ S H w φ Sb (if rs.all flatRC=true then H else writes H ws) n φ' S2 rs w':=by
 obtain⟨S1,R,q2,q3⟩:=reifyE_sim xs vs M (Frz.refl _) hlen hx hr
 have M1:=R.chg.mem
 refine(Ret.use hP (fun _=>none) S1 w vs (fun _ _=>rfl) ?_ (by rw[hlen,q2]) fun j t v hj hv=>(q3 j t v hj hv).noObj (hnp t (List.mem_of_getElem? hj)) _).mono ?_
 ·exact { inj := fun _ _ _ h => (by cases h), dom := fun _ _ => rfl, lt := fun _ _ h => (by cases h), objs := fun _ _ h => (by cases h), stab := fun a _ ⟨l, o, h, _⟩ => (by cases h), slt := M1.slt, nx := fun _ _ => rfl, sub := fun _ h => h, sup := fun _ h => .inl h,
          grow:=Nat.le_refl _,os:=rfl,tape:=rfl,output:=rfl,keep:=fun _ _ _=>rfl,keepS:=fun _ _ _ h=>h,old:=fun _ _ h=>(by cases h),loc0:=fun _ _=>rfl,objk:=fun _ _ _ h=>(by cases h),fldk:=fun _ _ _ h=>(by cases h)}
 ·rintro e w' ⟨v,φ',S2,rfl,M',hv⟩
  refine⟨v,φ',S2,_,rfl,M',hv,?_⟩
  have hsame:∀b,b<w.heap.size→w'.heap[b]?=w.heap[b]?:=fun b hb=>M'.keep b hb fun l=>by simp
  have hsup2:∀a,S2 a→S1 a∨w.heap.size≤a.block:=fun a h=>by
   rcases M'.sup a h with h|h|⟨l,h⟩
   ·exact .inl h
   ·exact .inr h
   ·cases h
  have hnew:∀j b,φ' (.res j)=some b→(∀l,φ l≠some b)∧w.heap.size≤b:=fun j b h=>by
   have hge:w.heap.size≤b:=by
    rcases Nat.lt_or_ge b w.heap.size with h'|h'
    ·have:=M'.old _ _ h h';cases this
    ·exact h'
   exact⟨fun l hl=>absurd (M.lt _ _ hl) (by omega),hge⟩
  have hobj:∀id b,φ' (.obj id)=some b→φ (.obj id)=some b:=fun id b h=>absurd h (by rw[M'.dom (.obj id) rfl];simp)
  have build : ∀ Hc Sc, Mem κ φ Sc Hc n w → Chg κ φ S H w φ Sc Hc n w → (∀ a, Sc a → S1 a) → Chg κ φ S H w φ (fun a => S2 a ∧ ¬ Mut φ Hc a) Hc n w' := fun Hc Sc Mc Cc hs =>
   Cc.trans (Mc.after M'.grow (fun l b hb=>hsame b (Mc.lt _ _ hb)) (fun a u ha h=>(cell?_of_block (hsame _ (Mc.slt a ha).1) a rfl).trans h) (fun b hb _=>hsame b (Nat.lt_of_lt_of_le hb Mc.grow)) M'.os M'.tape M'.output
     (fun a ha=>⟨M'.sub a (hs a ha),Mc.stab a ha⟩) (fun a ha=>ha.2) (fun a ha=>M'.slt a ha.1) fun a ha=>by
       rcases hsup2 a ha.1 with h|h
       ·exact M1.sup a h
       ·exact .inr (.inl (Nat.le_trans M.grow h)))
  by_cases hf:rs.all flatRC=true
  ·rw[if_pos hf]
   have hfl:=List.all_eq_true.1 hf
   refine⟨_,build H S M (Chg.refl M) R.sub,fun a h=>h.1,fun j t hj v h=>repT_flat h (hfl _ (List.mem_of_getElem? hj)),fun j size es hj e he c hc v h=> ?_,fun j b h=>⟨(hnew j b h).1,Nat.le_trans M.grow (hnew j b h).2⟩⟩
   have:=hfl _ (List.mem_of_getElem? hj)
   simp only[flatRC,List.all_eq_true]at this
   exact repT_flat h (this e he c hc)
  ·rw[if_neg hf]
   have hst:∀a,S2 a→S2 a∧¬Mut φ (writes H ws) a:=fun a h=>⟨h,by
     rcases hsup2 a h with h'|h'
     ·exact M1.stab a h'
     · rintro ⟨l, o, _, hl, _⟩
       exact absurd (M.lt _ _ hl) (by omega)⟩
   exact⟨_,build (writes H ws) S1 M1 R.chg (fun _ h=>h),fun a h=>h.1,fun j t hj v h=>h.mono hobj hst fun _ _ _ h=>h,fun j size es hj e he c hc v h=>h.mono hobj hst fun _ _ _ h=>h,fun j b h=>⟨(hnew j b h).1,Nat.le_trans M.grow (hnew j b h).2⟩⟩
end
mutual
def cleanA:AV→Bool
 |.sl (.arg _) _ _ n=>decide (0<n)
 |.sl l _ _ _=>l.isFld|| !l.pool
 |.ep l _ _ _=>l.isFld|| !l.pool
 |.mp l=> !l.pool
 |.sb l _=> !l.pool
 |.bp (.fld _ _) _|.bp (.arg _) _=>false
 |.agg cs=>cleanL cs
 |.tup cs=>cleanL cs
 |_=>true
def cleanL:List AV→Bool
 |[]=>true
 |x::r=>cleanA x&&cleanL r
end
theorem cleanL_iff (l:List AV):cleanL l=true↔∀x∈l,cleanA x=true:=by
 induction l with
 |nil=>simp[cleanL]
 |cons t r ih=>simp[cleanL,ih]
def killP (x:AV):AV:=if cleanA x then x else .und
def killO:Obj→Obj
 |.box cs=>.box (cs.map killP)
 |o=>o
def poolH (H:Heap):Heap:=fun l=>if l.pool then H l else none
def mixH (h' H:Heap):Heap:=fun l=>if l.pool then h' l else (H l).map killO
theorem RepA.carry {φ φb:Inj} {H Hb:Heap} {w w':World} {S S':Addr→Prop} {x:AV} {v:Value} (h:RepA φ H w S x v):
  (∀t v,RepT φ.objs w S t v→RepT φb.objs w' S' t v)→(∀a u,S a→w.cell? a=some u→w'.cell? a=some u∧S' a)→
  (∀l,Lab.pool l=false→φb l=φ l∧(∀o,H l=some o→Hb l=some (killO o)))→(∀l b,Lab.pool l=false→φ l=some b→w'.heap[b]?=w.heap[b]?)→
  (∀id cs b,H (.obj id)=some (.box cs)→φ (.obj id)=some b→(∃cs',Hb (.obj id)=some (.box cs'))∧φb (.obj id)=some b)→
  (∀i o,H (.arg i)=some o→∃o',Hb (.arg i)=some o'∧ArgStep o o')→(∀i b,φ (.arg i)=some b→φb (.arg i)=some b∧Kept w w' b)→(∀l o,Lab.isFld l=true→H l=some o→∃o',Hb l=some o'∧LStep φ φb w w' l o o')→cleanA x=true→RepA φb Hb w' S' x v:=by
 intro ht hS hl hb ho ha1 ha2 hfl
 induction h with
 |und v=>exact fun _=>.und v
 |t t v h=>exact fun _=>.t t v (ht t v h)
 |nil=>exact fun _=>.nil
 | sl l ver off len v o hlo hv h =>
   intro hc
   by_cases hla:∃i,l=.arg i
   ·obtain⟨i,rfl⟩:=hla
    have hlen:0<len:=by simpa [cleanA] using hc
    obtain⟨o',p1,p2⟩:=ha1 i o hlo
    refine .sl _ ver off len v o' p1 hv fun size' es' v'' frz'' e=> ?_
    subst e
    cases o with
    | arr size es v' frz =>
      obtain⟨es2,frz2,p3,p4⟩:=p2
      cases p3
      obtain⟨g1,g2⟩:=h _ _ _ _ rfl
      refine⟨g1,fun e'=> ?_⟩
      obtain⟨k1,ad,cap,k2,k3,k4,k5⟩:=g2 e'
      refine⟨by omega,ad,cap,k2,k3,fun hn=> ?_,fun b hb' hor=> ?_⟩
      ·cases hφ:φ (.arg i) with
       |none=>exact k4 hφ
       |some b=>rw[(ha2 i b hφ).1]at hn;cases hn
      ·cases hφ:φ (.arg i) with
       |none=>have:=(k4 hφ).2;omega
       | some b0 =>
         obtain⟨q1,q2⟩:=ha2 i b0 hφ
         rw[q1]at hb';cases hb'
         obtain⟨m1,cs,ty,fr,m2,m3⟩:=k5 _ hφ hor
         obtain⟨cs',ty',fr',m4,m5⟩:=q2 cs ty fr m2
         exact⟨m1,cs',ty',fr',m4,Nat.le_trans m3 m5⟩
    |box cs=>cases p2
    |map cs=>cases p2
    |dead=>cases p2
   by_cases hlf:Lab.isFld l=true
   ·obtain⟨o',p1,p2⟩:=hfl l o hlf hlo
    exact RepA.sl_step hv h p1 p2
   have hp:Lab.pool l=false:=by cases l<;>first|rfl|(exact absurd ⟨_,rfl⟩ hla)|(exact absurd rfl hlf)|(simp[cleanA,Lab.pool,Lab.isFld]at hc)
   obtain⟨e1,e2⟩:=hl l hp
   refine .sl l ver off len v _ (e2 o hlo) hv fun size es v' frz e=> ?_
   have eo:o=.arr size es v' frz:=by
    cases o<;>simp[killO]at e⊢
    exact e
   obtain⟨g1,g2⟩:=h size es v' frz eo
   refine⟨g1,fun e'=> ?_⟩
   obtain⟨k1,ad,cap,k2,k3,k4,k5⟩:=g2 e'
   refine⟨k1,ad,cap,k2,k3,by rw[e1];exact k4,fun b hb' hor=> ?_⟩
   rw[e1]at hb'
   obtain⟨m1,cs,ty,fr,m2,m3⟩:=k5 b hb' hor
   exact⟨m1,cs,ty,fr,(hb l b hp hb').trans m2,m3⟩
 | ep l ver i j v o hlo hv h =>
   intro hc
   by_cases hlf:Lab.isFld l=true
   ·obtain⟨o',p1,p2⟩:=hfl l o hlf hlo
    exact RepA.ep_step hv h p1 p2
   have hp:Lab.pool l=false:=by cases l<;>first|rfl|(exact absurd rfl hlf)|(simp[cleanA,Lab.pool,Lab.isFld]at hc)
   obtain⟨e1,e2⟩:=hl l hp
   refine .ep l ver i j v _ (e2 o hlo) hv fun size es v' frz e=> ?_
   have eo:o=.arr size es v' frz:=by
    cases o<;>simp[killO]at e⊢
    exact e
   obtain⟨g1,g2⟩:=h size es v' frz eo
   exact⟨g1,fun e'=>by rw[e1];exact g2 e'⟩
 | tp cs ad u ha hsc hc =>
   exact fun _=>.tp cs ad u ha hsc fun j c hj=>⟨(hS _ _ (hc j c hj).2.1 (hc j c hj).1).1,(hS _ _ (hc j c hj).2.1 (hc j c hj).1).2,ht _ _ (hc j c hj).2.2⟩
 | bp l j b cs hlo hb' =>
   intro hc
   by_cases hp:Lab.pool l=false
   ·obtain⟨e1,e2⟩:=hl l hp
    exact .bp l j b _ (e2 _ hlo) (by rw[e1];exact hb')
   ·cases l with
    | obj id =>
      obtain⟨⟨cs',h1⟩,h2⟩:=ho id cs b hlo hb'
      exact .bp _ j b cs' h1 h2
    |fld=>simp[cleanA]at hc
    |arg=>simp[cleanA]at hc
    |_=>exact absurd rfl hp
 | sb l n b cap cs hlo hb' hn =>
   intro hc
   obtain⟨e1,e2⟩:=hl l (by simpa [cleanA] using hc)
   exact .sb l n b cap _ (e2 _ hlo) (by rw[e1];exact hb') hn
 | mp l b kvs hlo hb' =>
   intro hc
   obtain⟨e1,e2⟩:=hl l (by simpa [cleanA] using hc)
   exact .mp l b kvs (e2 _ hlo) (by rw[e1];exact hb')
 | agg cs vs hn hsc hr ih =>
   intro hc
   have hc:=(cleanL_iff cs).1 (by simpa [cleanA] using hc)
   exact .agg cs vs hn hsc fun j c v hj hv=>ih j c v hj hv (hc c (List.mem_of_getElem? hj))
 | tup cs vs hn hr ih =>
   intro hc
   have hc:=(cleanL_iff cs).1 (by simpa [cleanA] using hc)
   exact .tup cs vs hn fun j c v hj hv=>ih j c v hj hv (hc c (List.mem_of_getElem? hj))
theorem RepA.poolC {φ φb:Inj} {H Hb:Heap} {w:World} {S:Addr→Prop} {x:AV} {v:Value} (h:RepA φ H w S x v) (hp:poolCell x) (hl:∀l,Lab.pool l=true→φb l=φ l∧Hb l=H l):RepA φb Hb w S x v:=by
 cases h with
 |und v=>exact .und v
 |t t v h=>exact .t t v (h.mono (fun id b e=>by show φb (.obj id)=_;rw[(hl (.obj id) rfl).1];exact e) (fun _ h=>h) fun _ _ _ h=>h)
 |nil=>exact .nil
 | sl l ver off len v o hlo hv h =>
   cases l with
   | fld i j =>
     obtain⟨e1,e2⟩:=hl (.fld i j) rfl
     refine .sl _ ver off len v o (by rw[e2];exact hlo) hv fun size es v' frz e=>⟨(h _ _ _ _ e).1,fun e'=> ?_⟩
     unfold Hdr
     rw[e1]
     exact(h _ _ _ _ e).2 e'
   |_=>exact hp.elim
 |_=>exact hp.elim
theorem ObjRep.poolO {φ φb:Inj} {H Hb:Heap} {w:World} {S:Addr→Prop} {l:Lab} {o:Obj} (h:ObjRep φ H w S l o) (hp:Lab.pool l=true) (hl:∀l,Lab.pool l=true→φb l=φ l∧Hb l=H l):ObjRep φb Hb w S l o:=by
 have tv:∀t v,RepT φ.objs w S t v→RepT φb.objs w S t v:=fun t v h=>h.mono (fun id b e=>by show φb (.obj id)=_;rw[(hl (.obj id) rfl).1];exact e) (fun _ h=>h) fun _ _ _ h=>h
 have e1:=(hl l hp).1
 cases o with
 |dead=>exact e1.trans h
 |map kvs=>exact absurd hp (by rw[h.1];simp)
 | box cs =>
   obtain⟨b,vs,ty,h1,h2,h3,h4,h5,h6⟩:=h
   exact⟨b,vs,ty,e1.trans h1,h2,h3,h4,h5,fun j c v hj hv=>(h6 j c v hj hv).poolC (h5 hp c (List.mem_of_getElem? hj)) hl⟩
 | arr size es v frz =>
   obtain⟨h1,h2,h3,h4,h5,h6⟩:=h
   refine⟨h1,h2,h3,h4,fun e=>h5 (e1▸e),fun b hb=> ?_⟩
   obtain⟨cs,ty,g1,g2,g3,g4⟩:=h6 b (e1▸hb)
   exact⟨cs,ty,g1,g2,fun i j e c he hc=>let ⟨u,q1,q2⟩:=g3 i j e c he hc;⟨u,q1,tv _ _ q2⟩,g4⟩
structure BackP (κ:Kap) (φ:Inj) (S:Addr→Prop) (H:Heap) (w:World) (φb:Inj) (Sb:Addr→Prop) (Hb:Heap) (nb:Nat) (φ':Inj) (S2:Addr→Prop) (rs:List RC) (w':World):Prop where
 mem:Mem κ φb Sb Hb nb w'
 av:∀y v,cleanA y=true→RepA φ H w S y v→RepA φb Hb w' Sb y v
 sub:∀a,Sb a→S2 a
 tt:∀(j:Nat) (t:T),rs[j]?=some (.t t)→∀v,RepT φ'.objs w' S2 t v→RepT φb.objs w' Sb t v
 to:∀(j size:Nat) (es:List T),rs[j]?=some (.own size es)→∀e∈es,∀c∈e.cells,∀v,RepT φ'.objs w' S2 c v→RepT φb.objs w' Sb c v
 new:∀j b,φ' (.res j)=some b→(∀l,φb l≠some b)∧κ.w0.heap.size≤b
theorem BackP.back {κ:Kap} {φ φb φ':Inj} {S Sb S2:Addr→Prop} {H Hb:Heap} {nb:Nat} {w w':World} {rs:List RC} (B:BackP κ φ S H w φb Sb Hb nb φ' S2 rs w'):Back κ φb Sb Hb w' φb Sb Hb nb φ' S2 rs w':=
 ⟨Chg.refl B.mem,B.sub,B.tt,B.to,B.new⟩
section
variable {P:Program} {κ:Kap} {φ:Inj} {S:Addr→Prop} {H h':Heap} {n n':Nat} {w:World} {rs:List RC}
def isLent:AV→Bool
 |.sl (.arg _) _ _ _=>true
 |_=>false
def passE:List AV→Rd (List AV×List (Lab×Obj))
 |[]=>.ret ([],[])
 | a :: r => match isLent a with
   |true=>(passE r).bind fun y=>.ret (a::y.1,y.2)
   |false=>(reify a).bind fun x=>(passE r).bind fun y=>.ret (.t x.1::y.1,x.2++y.2)
def passOk (a:AV):Prop:=(∃t,a=.t t)∨isLent a=true
theorem passE_sim:∀(xs:List AV) (us:List Value) {S:Addr→Prop} {H1:Heap} (_:Mem κ φ S H1 n w) (_:Frz H H1) (_:us.length=xs.length) (_:∀(j:Nat) (x:AV) (u:Value),xs[j]?=some x→us[j]?=some u→RepA φ H1 w S x u)
  {as:List AV} {ws:List (Lab×Obj)} {acc:List Lab} (_:(passE xs).run H=some ((as,ws),acc)),
  ∃S',Rei κ φ H n w S H1 S' (writes H1 ws)∧as.length=xs.length∧∀(j:Nat) (a:AV) (u:Value),as[j]?=some a→us[j]?=some u→RepA φ (writes H1 ws) w S' a u∧passOk a
 | [], us, S, H1, M, hF, hl, hx, as, ws, acc, h => by
   obtain⟨e,_⟩:=Rd.run_ret_some h
   cases e
   exact⟨S,⟨Chg.refl M,hF,fun _ h=>h⟩,rfl,fun j t u hj=>by simp at hj⟩
 |x::xs,[],S,H1,M,hF,hl,hx,as,ws,acc,h=>by simp at hl
 | x :: xs, u :: us, S, H1, M, hF, hl, hx, as, ws, acc, h => by
   unfold passE at h
   split at h
   ·rename_i hle
    obtain⟨⟨as',ws2⟩,a3,a4,h3,h4,_⟩:=Rd.run_bind_some h
    obtain⟨e,_⟩:=Rd.run_ret_some h4
    cases e
    obtain⟨S'',q1,q2,q3⟩:=passE_sim xs us M hF (by simpa using hl) (fun j x' u' hj hu=>hx (j+1) x' u' (by simpa using hj) (by simpa using hu)) h3
    refine⟨S'',q1,by simp[q2],fun j t' u' hj hu=> ?_⟩
    cases j with
    |zero=>simp at hj hu;subst hj;subst hu;exact⟨q1.chg.av _ _ (hx 0 x u rfl rfl),.inr hle⟩
    |succ j=>exact q3 j t' u' (by simpa using hj) (by simpa using hu)
   ·obtain⟨⟨t,ws1⟩,a1,a2,h1,h2,_⟩:=Rd.run_bind_some h
    obtain⟨⟨as',ws2⟩,a3,a4,h3,h4,_⟩:=Rd.run_bind_some h2
    obtain⟨e,_⟩:=Rd.run_ret_some h4
    cases e
    obtain⟨S',r1,r2⟩:=reify_sim M hF (hx 0 x u rfl rfl) h1
    obtain⟨S'',q1,q2,q3⟩:=passE_sim xs us r1.chg.mem r1.frz (by simpa using hl) (fun j x' u' hj hu=>r1.chg.av _ _ (hx (j+1) x' u' (by simpa using hj) (by simpa using hu))) h3
    refine⟨S'',by rw[writes_append];exact r1.trans q1,by simp[q2],fun j t' u' hj hu=> ?_⟩
    rw[writes_append]
    cases j with
    |zero=>simp at hj hu;subst hj;subst hu;exact⟨.t _ _ (q1.chg.tv _ _ r2),.inl ⟨_,rfl⟩⟩
    |succ j=>exact q3 j t' u' (by simpa using hj) (by simpa using hu)
theorem back_core (M:Mem κ φ S H n w) {S1:Addr→Prop} {ws:List (Lab×Obj)} {as:List AV} {vs:List Value} {g:FuncId} (R:Rei κ φ H n w S H S1 (writes H ws)) (hlen:vs.length=as.length)
  (hq:∀(j:Nat) (a:AV) (u:Value),as[j]?=some a→vs[j]?=some u→RepA φ (writes H ws) w S1 a u∧passOk a) (hP:RetA P g as (poolH (writes H ws)) n rs h' n'):
  Calls P g vs.toArray w fun e w'=>∃v φ' S2 κ',e=.returned v∧Mem κ' φ' S2 (resH h' rs) n' w'∧RepA φ' (resH h' rs) w' S2 (rsA rs) v∧
   ∃φb,BackP κ φ S H w φb S2 (mixH h' (writes H ws)) n' φ' S2 rs w':=by
 have M1:=R.chg.mem
 let φp:Inj:=fun l=>if l.pool then φ l else none
 have fp:∀l,Lab.pool l=true→φp l=φ l:=fun l h=>by show(if l.pool=true then φ l else none)=_;rw[if_pos h]
 have fn:∀l,Lab.pool l=false→φp l=none:=fun l h=>by show(if l.pool=true then φ l else none)=_;rw[if_neg (by simp[h])]
 have hp1:∀l,Lab.pool l=true→poolH (writes H ws) l=writes H ws l:=fun l h=>by unfold poolH;rw[if_pos h]
 have hn1:∀l,Lab.pool l=false→poolH (writes H ws) l=none:=fun l h=>by unfold poolH;rw[if_neg (by simp[h])]
 have some_p:∀l b,φp l=some b→Lab.pool l=true∧φ l=some b:=fun l b h=>by
  cases hl:Lab.pool l with
  |false=>rw[fn l hl]at h;cases h
  |true=>rw[fp l hl]at h;exact⟨rfl,h⟩
 have E:Mem ⟨w,φp,S1,poolH (writes H ws)⟩ φp S1 (poolH (writes H ws)) n w:=by
  refine { inj := fun l l' b h1 h2 => M1.inj _ _ _ (some_p _ _ h1).2 (some_p _ _ h2).2, dom := fun l h => ?_, lt := fun l b h => M1.lt _ _ (some_p _ _ h).2, objs := fun l o h => ?_, stab := ?_, slt := M1.slt, nx := fun id hid => by rw [hp1 _ rfl]; exact M1.nx id hid,
           sub:=fun _ h=>h,sup:=fun _ h=>.inl h,grow:=Nat.le_refl _,os:=rfl,tape:=rfl,output:=rfl,keep:=fun _ _ _=>rfl,keepS:=fun _ _ _ h=>h,old:=fun _ _ h _=>h,loc0:=fun d k=>fn (.loc d k) rfl,objk:=fun _ b _ h=>⟨h,Kept.refl _ _⟩,fldk:=FldK.rfl _ _ _}
  ·cases hl:Lab.pool l with
   |false=>exact fn l hl
   |true=>rw[hp1 l hl]at h;rw[fp l hl];exact M1.dom l h
  ·cases hl:Lab.pool l with
   |false=>rw[hn1 l hl]at h;cases h
   |true=>rw[hp1 l hl]at h;exact(M1.objs l o h).poolO hl fun l h=>⟨fp l h,hp1 l h⟩
  ·rintro a ha ⟨l,o,h1,h2,h3⟩
   obtain⟨hl,h2⟩:=some_p _ _ h2
   rw[hp1 l hl]at h1
   exact M1.stab a ha ⟨l,o,h1,h2,h3⟩
 refine(hP.2.2 φp S1 w vs hn1 E hlen fun j x v hj hv=> ?_).mono ?_
 ·obtain⟨h1,h2⟩:=hq j x v hj hv
  rcases h2 with ⟨t,rfl⟩|h2
  ·cases h1 with
   |t _ _ h1=>exact .t _ _ (h1.mono (fun id b e=>by rw[show(Inj.objs φp) id=φp (.obj id) from rfl,fp _ rfl];exact e) (fun _ h=>h) fun _ _ _ h=>h)
  ·cases h1 with
   | sl l ver off len v o hlo hv h =>
     have hl:Lab.pool l=true:=by cases l<;>first|rfl|cases h2
     refine .sl l ver off len v o (by rw[hp1 l hl];exact hlo) hv fun size es v' frz e=>⟨(h _ _ _ _ e).1,fun e'=> ?_⟩
     unfold Hdr
     rw[fp l hl]
     exact(h _ _ _ _ e).2 e'
   |_=>cases h2
 rintro e w' ⟨v,φ',S2,rfl,M',hv⟩
 refine⟨v,φ',S2,_,rfl,M',hv,fun l=>if l.pool then φ' l else φ l,?_⟩
 have gp:∀l,Lab.pool l=true→(if l.pool=true then φ' l else φ l)=φ' l:=fun l h=>if_pos h
 have gn:∀l,Lab.pool l=false→(if l.pool=true then φ' l else φ l)=φ l:=fun l h=>if_neg (by simp[h])
 have mp:∀l,Lab.pool l=true→mixH h' (writes H ws) l=h' l:=fun l h=>by unfold mixH;rw[if_pos h]
 have mn:∀l,Lab.pool l=false→mixH h' (writes H ws) l=(writes H ws l).map killO:=fun l h=>by unfold mixH;rw[if_neg (by simp[h])]
 have rp:∀l,Lab.pool l=true→resH h' rs l=h' l:=fun l h=>by cases l<;>first|rfl|simp[Lab.pool]at h
 -- blocks of the caller's own rows stand
 have hkeep:∀l b,Lab.pool l=false→φ l=some b→w'.heap[b]?=w.heap[b]?:=fun l b hl hb=>M'.keep b (M.lt _ _ hb) fun l' h=>by
  obtain⟨hl',h⟩:=some_p _ _ h
  have:=M.inj _ _ _ hb h
  rw[this]at hl
  rw[hl]at hl';cases hl'
 have hsup2:∀a,S2 a→S1 a∨w.heap.size≤a.block∨∃l,Lab.pool l=true∧φ l=some a.block:=fun a h=>by
  rcases M'.sup a h with h|h|⟨l,h⟩
  ·exact .inl h
  ·exact .inr (.inl h)
  ·exact .inr (.inr ⟨l,some_p _ _ h⟩)
 have hcell:∀a u,S1 a→w.cell? a=some u→w'.cell? a=some u∧S2 a:=fun a u ha h=>⟨M'.keepS a u ha h,M'.sub a ha⟩
 have hobj:∀id b,φ (.obj id)=some b→(if Lab.pool (.obj id)=true then φ' (.obj id) else φ (.obj id))=some b:=fun id b h=>by
  rw[gp _ rfl];exact(M'.objk (.obj id) b rfl (by show φp (.obj id)=_;rw[fp _ rfl];exact h)).1
 have tv1:∀t v,RepT φ.objs w S1 t v→RepT (Inj.objs fun l=>if l.pool then φ' l else φ l) w' S2 t v:=fun t v h=>h.mono hobj (fun a ha=>M'.sub a ha) fun a u ha h=>M'.keepS a u ha h
 have hbox:∀id cs b,writes H ws (.obj id)=some (.box cs)→φ (.obj id)=some b→(∃cs',mixH h' (writes H ws) (.obj id)=some (.box cs'))∧(if Lab.pool (.obj id)=true then φ' (.obj id) else φ (.obj id))=some b:=fun id cs b h1 h2=>by
  refine⟨?_,hobj id b h2⟩
  rw[mp _ rfl]
  exact hP.2.1.1 id cs (by rw[hp1 _ rfl];exact h1)
 have harg1:∀i o,writes H ws (.arg i)=some o→∃o',mixH h' (writes H ws) (.arg i)=some o'∧ArgStep o o':=fun i o h=>by
  rw[mp _ rfl]
  exact hP.2.1.2 i o (by rw[hp1 _ rfl];exact h)
 have harg2:∀i b,φ (.arg i)=some b→(if Lab.pool (.arg i)=true then φ' (.arg i) else φ (.arg i))=some b∧Kept w w' b:=fun i b h=>by
  rw[gp _ rfl]
  exact M'.objk (.arg i) b rfl (by show φp (.arg i)=_;rw[fp _ rfl];exact h)
 have hfld:∀l o,Lab.isFld l=true→writes H ws l=some o→∃o',mixH h' (writes H ws) l=some o'∧LStep φ (fun l=>if l.pool then φ' l else φ l) w w' l o o':=fun l o hl h=>by
  have hp:Lab.pool l=true:=by cases l<;>first|rfl|cases hl
  obtain⟨o',p1,p2⟩:=M'.fldk l o hl (by show poolH (writes H ws) l=_;rw[hp1 l hp];exact h)
  refine⟨o',by rw[mp l hp,←rp l hp];exact p1,?_⟩
  cases o<;>cases o'<;>first|exact p2.elim|exact trivial|skip
  ·refine⟨p2.1,fun e=> ?_⟩
   obtain⟨a,b,c,d⟩:=p2.2 e
   refine⟨a,b,(gp l hp).trans (c.trans (fp l hp)),fun b cs ty fr hb=>d b cs ty fr (by show φp l=_;rw[fp l hp];exact hb)⟩
  ·exact(gp l hp).trans (Eq.trans p2 (fp l hp))
  ·exact(gp l hp).trans (Eq.trans p2 (fp l hp))
 have carry1:∀y v,cleanA y=true→RepA φ (writes H ws) w S1 y v→RepA (fun l=>if l.pool then φ' l else φ l) (mixH h' (writes H ws)) w' S2 y v:=fun y v hc h=>
  h.carry tv1 hcell (fun l hl=>⟨gn l hl,fun o ho=>by rw[mn l hl,ho];rfl⟩) hkeep hbox harg1 harg2 hfld hc
 have hstab:∀a,S2 a→¬Mut (fun l=>if l.pool then φ' l else φ l) (mixH h' (writes H ws)) a:=by
  rintro a ha ⟨l,o,h1,h2,h3⟩
  rcases Bool.eq_false_or_eq_true (Lab.pool l) with hl|hl
  ·
   rw[mp l hl]at h1
   simp only[gp l hl]at h2
   exact M'.stab a ha ⟨l,o,by rw[rp l hl];exact h1,h2,h3⟩
  ·
   rw[mn l hl,Option.map_eq_some_iff]at h1
   obtain⟨o0,h1,rfl⟩:=h1
   simp only[gn l hl]at h2
   have h3:o0.opn a:=by cases o0<;>first|exact h3|trivial
   rcases hsup2 a ha with h|h|⟨l',hl',h⟩
   ·exact M1.stab a h ⟨l,o0,h1,h2,h3⟩
   ·exact absurd (M.lt _ _ h2) (by omega)
   ·have:=M.inj _ _ _ h2 h
    rw[this]at hl
    rw[hl]at hl';cases hl'
 have hgrow:=M'.grow
 refine⟨?_,fun y v hc h=>carry1 y v hc (R.chg.av _ _ h),fun _ h=>h,fun j t _ v h=>h.mono (fun id b e=>by show(if Lab.pool (.obj id)=true then φ' (.obj id) else φ (.obj id))=_;rw[gp _ rfl];exact e) (fun _ h=>h) fun _ _ _ h=>h,
   fun j size es _ e _ c _ v h=>h.mono (fun id b e=>by show(if Lab.pool (.obj id)=true then φ' (.obj id) else φ (.obj id))=_;rw[gp _ rfl];exact e) (fun _ h=>h) fun _ _ _ h=>h,fun j b hb=> ?_⟩
 ·refine { inj := ?_, dom := ?_, lt := ?_, objs := ?_, stab := hstab, slt := M'.slt, nx := fun id hid => by rw [mp _ rfl, ← rp _ rfl]; exact M'.nx id hid, sub := fun a h => M'.sub a (R.sub a (M.sub a h)), sup := ?_,
           grow:=Nat.le_trans M.grow hgrow,os:=M'.os.trans M.os,tape:=M'.tape.trans M.tape,output:=M'.output.trans M.output,keep:= ?_,keepS:=fun a u h h'=>(hcell a u (R.sub a (M.sub a h)) (M.keepS a u h h')).1,old:= ?_,loc0:=M.loc0,fldk:=fun l o hl ho=>(let ⟨o1,q1,q2⟩:=M1.fldk l o hl ho;let ⟨o2,r1,r2⟩:=hfld l o1 hl q1;⟨o2,r1,q2.trans r2⟩),objk:=fun l b hf h=> ?_}
  ·intro l1 l2 b h1 h2
   cases hl1:Lab.pool l1<;>cases hl2:Lab.pool l2<;>simp only[gp,gn,hl1,hl2]at h1 h2
   ·exact M.inj _ _ _ h1 h2
   ·have h3:=M'.old _ _ h2 (M.lt _ _ h1)
    exact M.inj _ _ _ h1 (some_p _ _ h3).2
   ·have h3:=M'.old _ _ h1 (M.lt _ _ h2)
    exact M.inj _ _ _ (some_p _ _ h3).2 h2
   ·exact M'.inj _ _ _ h1 h2
  ·intro l h
   rcases Bool.eq_false_or_eq_true (Lab.pool l) with hl|hl
   ·rw[mp l hl]at h;rw[gp l hl];exact M'.dom l (by rw[rp l hl];exact h)
   ·
    rw[mn l hl]at h;rw[gn l hl]
    exact M1.dom l (by simpa using h)
  ·intro l b h
   rcases Bool.eq_false_or_eq_true (Lab.pool l) with hl|hl
   ·rw[gp l hl]at h;exact M'.lt _ _ h
   ·rw[gn l hl]at h;exact Nat.lt_of_lt_of_le (M.lt _ _ h) hgrow
  ·intro l o h
   rcases Bool.eq_false_or_eq_true (Lab.pool l) with hl|hl
   ·
    rw[mp l hl]at h
    exact(M'.objs l o (by rw[rp l hl];exact h)).poolO hl fun l hl=>⟨gp l hl,by rw[mp l hl,rp l hl]⟩
   ·
    rw[mn l hl,Option.map_eq_some_iff]at h
    obtain⟨o0,h,rfl⟩:=h
    have O:=M1.objs l o0 h
    cases o0 with
    |dead=>show(if l.pool=true then φ' l else φ l)=_;rw[gn l hl];exact O
    | map kvs =>
      obtain⟨h0,b,es,c,h1,h2,h3⟩:=O
      exact⟨h0,b,es,c,by show(if l.pool=true then φ' l else φ l)=_;rw[gn l hl];exact h1,(hkeep l b hl h1).trans h2,h3⟩
    | box cs =>
      obtain⟨b,vs',ty,h1,h2,h3,h4,h5,h6⟩:=O
      refine⟨b,vs',ty,by show(if l.pool=true then φ' l else φ l)=_;rw[gn l hl];exact h1,(hkeep l b hl h1).trans h2,by rw[h3];simp,h4,fun hp=>(by rw[hl]at hp;cases hp),fun j c v hj hv=> ?_⟩
      rw[List.getElem?_map,Option.map_eq_some_iff]at hj
      obtain⟨c0,hj,rfl⟩:=hj
      unfold killP
      split
      ·rename_i hc;exact carry1 c0 v hc (h6 j c0 v hj hv)
      ·exact .und v
    | arr size es v frz =>
      obtain⟨h1,h2,h3,h4,h5,h6⟩:=O
      refine⟨h1,h2,h3,h4,fun e=>h5 (by have e:(if l.pool=true then φ' l else φ l)=none:=e;rwa [gn l hl]at e),fun b hb=> ?_⟩
      have hb:(if l.pool=true then φ' l else φ l)=some b:=hb
      rw[gn l hl]at hb
      obtain⟨cs,ty,g1,g2,g3,g4⟩:=h6 b hb
      exact⟨cs,ty,(hkeep l b hl hb).trans g1,g2,fun i j e c he hc=>let ⟨u,k1,k2⟩:=g3 i j e c he hc;⟨u,k1,tv1 _ _ k2⟩,fun i j hi hj=>M'.sub _ (g4 i j hi hj)⟩
  ·intro a ha
   rcases hsup2 a ha with h|h|⟨l,hl,h⟩
   ·exact M1.sup a h
   ·exact .inr (.inl (Nat.le_trans M.grow h))
   ·rcases Nat.lt_or_ge a.block κ.w0.heap.size with g|g
    ·exact .inr (.inr ⟨l,M.old l _ h g⟩)
    ·exact .inr (.inl g)
  ·intro b hb h
   refine(M'.keep b (Nat.lt_of_lt_of_le hb M.grow) fun l hl=> ?_).trans (M.keep b hb h)
   exact h l (M.old l b (some_p _ _ hl).2 hb)
  ·intro l b h hlt
   rcases Bool.eq_false_or_eq_true (Lab.pool l) with hl|hl
   ·
    rw[gp l hl]at h
    exact M.old l b (some_p _ _ (M'.old _ _ h (Nat.lt_of_lt_of_le hlt M.grow))).2 hlt
   ·rw[gn l hl]at h;exact M.old l b h hlt
  ·obtain⟨k1,k2⟩:=M.objk l b hf h
   have hl:Lab.pool l=true:=by cases l<;>first|rfl|cases hf
   obtain⟨k3,k4⟩:=M'.objk l b hf (by show φp l=_;rw[fp _ hl];exact k1)
   exact⟨by rw[gp l hl];exact k3,k2.trans k4⟩
 ·have hge:w.heap.size≤b:=by
   rcases Nat.lt_or_ge b w.heap.size with h'|h'
   ·have:=(some_p _ _ (M'.old _ _ hb h')).1;cases this
   ·exact h'
  refine⟨fun l hl=> ?_,Nat.le_trans M.grow hge⟩
  rcases Bool.eq_false_or_eq_true (Lab.pool l) with hp|hp
  ·
   rw[gp l hp]at hl
   have:=M'.inj _ _ _ hb hl
   rw[←this]at hp;cases hp
  ·
   rw[gn l hp]at hl
   exact absurd (M.lt _ _ hl) (by omega)
theorem back_pool (M:Mem κ φ S H n w) {ts:List T} {ws:List (Lab×Obj)} {acc:List Lab} {xs:List AV} {vs:List Value} {g:FuncId} (hlen:vs.length=xs.length)
  (hx:∀(j:Nat) (x:AV) (u:Value),xs[j]?=some x→vs[j]?=some u→RepA φ H w S x u) (hr:(reifyE xs).run H=some ((ts,ws),acc)) (hP:Ret P g ts (poolH (writes H ws)) n rs h' n'):
  Calls P g vs.toArray w fun e w'=>∃v φ' S2 κ',e=.returned v∧Mem κ' φ' S2 (resH h' rs) n' w'∧RepA φ' (resH h' rs) w' S2 (rsA rs) v∧
   ∃φb,BackP κ φ S H w φb S2 (mixH h' (writes H ws)) n' φ' S2 rs w':=by
 obtain⟨S1,R,q2,q3⟩:=reifyE_sim xs vs M (Frz.refl _) hlen hx hr
 refine back_core M R (by simp[hlen,q2]) (fun j a u hj hu=> ?_) hP
 rw[List.getElem?_map,Option.map_eq_some_iff]at hj
 obtain⟨t,ht,rfl⟩:=hj
 exact⟨.t _ _ (q3 j t u ht hu),.inl ⟨t,rfl⟩⟩
theorem back_mut (M:Mem κ φ S H n w) {as:List AV} {ws:List (Lab×Obj)} {acc:List Lab} {xs:List AV} {vs:List Value} {g:FuncId} (hlen:vs.length=xs.length)
  (hx:∀(j:Nat) (x:AV) (u:Value),xs[j]?=some x→vs[j]?=some u→RepA φ H w S x u) (hr:(passE xs).run H=some ((as,ws),acc)) (hP:RetA P g as (poolH (writes H ws)) n rs h' n'):
  Calls P g vs.toArray w fun e w'=>∃v φ' S2 κ',e=.returned v∧Mem κ' φ' S2 (resH h' rs) n' w'∧RepA φ' (resH h' rs) w' S2 (rsA rs) v∧
   ∃φb,BackP κ φ S H w φb S2 (mixH h' (writes H ws)) n' φ' S2 rs w':=by
 obtain⟨S1,R,q2,q3⟩:=passE_sim xs vs M (Frz.refl _) hlen hx hr
 exact back_core M R (by omega) q3 hP
end
def Entry (P:Program) (g:FuncId):Prop:=∀(args:Array Value) (w:World),(callFunc g args).run P w=.ok (.enter g args) w
theorem Entry.mk {P:Program} {g:FuncId} {fn:Func} {c:Code} (hf:P.funcs[g]?=some fn) (hname:(fn.name== "runtime.NumGoroutine")=false) (hb:fn.body=some c):Entry P g:=by
 intro args w
 have h1:¬fn.name= "runtime.NumGoroutine" :=by simpa using hname
 have h2:¬fn.body=none:=by simp[hb]
 simp[callFunc,hf,h1,h2]
def isCall (f:Operand→AV) (o:Oper):Option (FuncId×List AV):=
 match o.op with
 |.call {callee:=.value (.func g),args:=xs,argTypes:=_}=>some (g,xs.toList.map f)
 | .call { callee := .value (.tmp t), args := xs, argTypes := _ } => match f (.tmp t) with
   |.t (.fn g cs)=>some (g,xs.toList.map f++cs.map .t)
   |_=>none
 |_=>none
theorem isCall_run {P : Program} {φ : Inj} {H : Heap} {S : Addr → Prop} {f : Operand → AV} {o : Oper} {g : FuncId} {xs : List AV} (h : isCall f o = some (g, xs)) (he : Entry P g) (a : Act) (w : World) (hf : ∀ x, RepA φ H w S (f x) (a.eval x)) :
  ∃us:List Value,(execOp a.eval o).run P w=.ok (.enter g us.toArray) w∧us.length=xs.length∧∀(j:Nat) (x:AV) (u:Value),xs[j]?=some x→us[j]?=some u→RepA φ H w S x u:=by
 have hm:∀(l:List Operand) (j:Nat) (x:AV) (u:Value),(l.map f)[j]?=some x→(l.map a.eval)[j]?=some u→RepA φ H w S x u:=fun l j x u h1 h2=>by
  rw[List.getElem?_map,Option.map_eq_some_iff]at h1 h2
  obtain⟨q,hq,rfl⟩:=h1
  obtain⟨q',hq',rfl⟩:=h2
  rw[hq]at hq'
  cases hq'
  exact hf q
 unfold isCall at h
 split at h
 ·rename_i g' xs' ts hop
  cases h
  refine⟨xs'.toList.map a.eval,?_,by simp,hm _⟩
  unfold execOp
  have h3:=he (Array.map a.eval xs') w
  simp[hop,resolve,Deferred.ofValue,invoke,Act.eval]
  have h4:(List.map a.eval xs'.toList).toArray=Array.map a.eval xs':=Array.ext' (by rw[Array.toList_map])
  rw[h4];exact h3
 ·rename_i t xs' ts hop
  split at h
  ·rename_i g' cs hx
   cases h
   have hr:=hf (.tmp t)
   rw[hx]at hr
   generalize hv:a.eval (.tmp t)=v at hr
   cases hr with
   | t _ _ hr =>
     cases hr with
     | fn _ _ vs hn hr =>
       refine⟨xs'.toList.map a.eval++vs.toList,?_,by simp[hn],fun j x u h1 h2=> ?_⟩
       ·unfold execOp
        have h3:=he (Array.map a.eval xs'++vs) w
        have h4:(List.map a.eval xs'.toList++vs.toList).toArray=Array.map a.eval xs'++vs:=Array.ext' (by simp)
        rw[h4]
        simp[hop,resolve,hv,Deferred.ofValue,invoke]
        exact h3
       ·by_cases hj:j<xs'.toList.length
        ·rw[List.getElem?_append_left (by simpa using hj)]at h1 h2
         exact hm _ j x u h1 h2
        ·rw[List.getElem?_append_right (by simpa using hj)]at h1 h2
         simp only[List.length_map]at h1 h2
         rw[List.getElem?_map,Option.map_eq_some_iff]at h1
         obtain⟨t',ht',rfl⟩:=h1
         exact .t _ _ (hr _ t' u ht' (by rw[←h2];simp))
  ·cases h
 ·cases h
def killF (f:Nat→AV):Nat→AV:=fun t=>killP (f t)
inductive Takes (P:Program) (g:FuncId) (xs:List AV) (ts:List T) (ws:List (Lab×Obj)) (d:Option Tmp) (s:St):St→Prop
 | pure (rs : List RC) (H' : Heap) (hP : Pure P g ts rs) (hn : ∀ t ∈ ts, noPtr t = true) (hH : H' = if rs.all flatRC = true then s.h else writes s.h ws) :
   Takes P g xs ts ws d s {(s.put d (retVal none rs)) with h:=H'}
 | pureAd (rs : List RC) (d' : Nat) (H' : Heap) (hP : Pure P g ts rs) (hn : ∀ t ∈ ts, noPtr t = true) (hH : H' = if rs.all flatRC = true then s.h else writes s.h ws)
   (hl:∀(j size:Nat) (es:List T),rs[j]?=some (.own size es)→H' (.loc d' j)=none):
   Takes P g xs ts ws d s {(s.put d (retVal (some d') rs)) with h:=adH d' rs H'}
 | pool (rs : List RC) (h' H' : Heap) (n' : Nat) (f' : Nat → AV) (hP : Ret P g ts (poolH (writes s.h ws)) s.nxt rs h' n') (hH : mixH h' (writes s.h ws) = H') (hf : killF s.f = f') :
   Takes P g xs ts ws d s (St.put ⟨f',H',n'⟩ d (retVal none rs))
 | poolAd (rs : List RC) (d' : Nat) (h' H' : Heap) (n' : Nat) (f' : Nat → AV) (hP : Ret P g ts (poolH (writes s.h ws)) s.nxt rs h' n') (hH : mixH h' (writes s.h ws) = H') (hf : killF s.f = f')
   (hl:∀(j size:Nat) (es:List T),rs[j]?=some (.own size es)→H' (.loc d' j)=none):
   Takes P g xs ts ws d s {(St.put ⟨f',H',n'⟩ d (retVal (some d') rs)) with h:=adH d' rs H'}
 | lend (as : List AV) (ws2 : List (Lab × Obj)) (acc : List Lab) (rs : List RC) (h' H' : Heap) (n' : Nat) (f' : Nat → AV) (hr : (passE xs).run s.h = some ((as, ws2), acc)) (hP : RetA P g as (poolH (writes s.h ws2)) s.nxt rs h' n') (hH : mixH h' (writes s.h ws2) = H') (hf : killF s.f = f') :
   Takes P g xs ts ws d s (St.put ⟨f',H',n'⟩ d (retVal none rs))
 | lendAd (as : List AV) (ws2 : List (Lab × Obj)) (acc : List Lab) (rs : List RC) (d' : Nat) (h' H' : Heap) (n' : Nat) (f' : Nat → AV) (hr : (passE xs).run s.h = some ((as, ws2), acc)) (hP : RetA P g as (poolH (writes s.h ws2)) s.nxt rs h' n') (hH : mixH h' (writes s.h ws2) = H') (hf : killF s.f = f')
   (hl:∀(j size:Nat) (es:List T),rs[j]?=some (.own size es)→H' (.loc d' j)=none):
   Takes P g xs ts ws d s {(St.put ⟨f',H',n'⟩ d (retVal (some d') rs)) with h:=adH d' rs H'}
section
variable {P:Program} {κ:Kap} {n:Nat} {a:Act} {w w':World} {s:St}
theorem Conc.set {φ':Inj} {S':Addr→Prop} {H':Heap} {nx':Nat} {y:AV} {v:Value} {d:Option Tmp} (hd:a.defers=[]) (hs:a.tmps.size=n) (hdst:∀d',d=some d'→d'<n)
  {f':Nat→AV} (M:Mem κ φ' S' H' nx' w') (hsl:Slots φ' H' w' S' a f') (hv:RepA φ' H' w' S' y v):Conc κ n {(St.put ⟨f',H',nx'⟩ d y) with h:=H'} (a.put d v) w':=by
 have e:∀t,(St.put ⟨f',H',nx'⟩ d y).f t=if d=some t then y else f' t:=fun t=>by
  cases d with
  |none=>simp[St.put]
  | some d =>
    simp only[St.put,upd,Option.some.injEq]
    by_cases h:t=d
    ·simp[h]
    ·simp[h,Ne.symm h]
 have en:(St.put ⟨f',H',nx'⟩ d y).nxt=nx':=by cases d<;>rfl
 refine⟨by rw[Act.defers_put];exact hd,by rw[Act.size_put];exact hs,φ',S',(by show Mem κ φ' S' H' (St.put _ d y).nxt w';rw[en];exact M),fun t=> ?_⟩
 show RepA φ' H' w' S' ((St.put ⟨f',H',nx'⟩ d y).f t) _
 rw[e,Act.getD_put]
 by_cases h:d=some t
 ·rw[if_pos h,if_pos ⟨h,by rw[hs];exact hdst t h⟩];exact hv
 ·rw[if_neg h,if_neg (fun e=>h e.1)];exact hsl t
theorem put_eta (s:St) (d:Option Tmp) (y:AV) (H':Heap):{(s.put d y) with h:=H'}=({(St.put ⟨s.f,H',s.nxt⟩ d y) with h:=H'}:St):=by
 cases d<;>rfl
theorem put_eta' (f':Nat→AV) (H':Heap) (n':Nat) (d:Option Tmp) (y:AV):(St.put ⟨f',H',n'⟩ d y)=({(St.put ⟨f',H',n'⟩ d y) with h:=H'}:St):=by
 cases d<;>rfl
theorem put_eta2 (f':Nat→AV) (H' H'':Heap) (n':Nat) (d:Option Tmp) (y:AV):({(St.put ⟨f',H',n'⟩ d y) with h:=H''}:St)=({(St.put ⟨f',H'',n'⟩ d y) with h:=H''}:St):=by
 cases d<;>rfl
theorem Slots.kill {φ φb:Inj} {S Sb:Addr→Prop} {H Hb:Heap} {f:Nat→AV} (hsl:Slots φ H w S a f) (h:∀y v,cleanA y=true→RepA φ H w S y v→RepA φb Hb w' Sb y v):Slots φb Hb w' Sb a (killF f):=by
 intro t
 unfold killF killP
 split
 ·rename_i hc;exact h _ _ hc (hsl t)
 ·exact .und _
theorem takes_sound {o:Oper} {g:FuncId} {xs:List AV} {ts:List T} {ws:List (Lab×Obj)} {acc:List Lab} {s':St} (hc:Conc κ n s a w) (hdst:∀d',o.dst=some d'→d'<n)
  (hcall:isCall (evA s.f) o=some (g,xs)) (he:Entry P g) (hr:(reifyE xs).run s.h=some ((ts,ws),acc)) (hT:Takes P g xs ts ws o.dst s s') {K:Act→World→Prop} {Q:Exit→Act→World→Prop}
  (hK:∀a w,Conc κ n s' a w→K a w):o.wp P a w K Q:=by
 unfold Oper.wp
 obtain⟨hd,hs,φ,S,M,hsl⟩:=hc
 obtain⟨us,hrun,hlen,hx⟩:=isCall_run hcall he a w (fun x=>evA_rep hsl x)
 rw[hrun,Oper.upon_enter]
 cases hT with
 | pure rs H' hP hn hH =>
   refine(back_pure M hlen hx hr hn hP).mono ?_
   rintro e w' ⟨v,φ',S2,κ',rfl,M',hv,Sb,B⟩
   rw[←hH]at B
   obtain⟨S3,C,hv'⟩:=B.plain M' hv
   refine hK _ _ ?_
   rw[put_eta]
   exact Conc.set hd hs hdst C.mem (fun t=>C.av _ _ (hsl t)) hv'
 | pureAd rs d' H' hP hn hH hl =>
   refine(back_pure M hlen hx hr hn hP).mono ?_
   rintro e w' ⟨v,φ',S2,κ',rfl,M',hv,Sb,B⟩
   rw[←hH]at B
   obtain⟨φ3,C,hv'⟩:=B.adopt M' hl hv
   refine hK _ _ ?_
   rw[put_eta]
   exact Conc.set hd hs hdst C.mem (fun t=>C.av _ _ (hsl t)) hv'
 | pool rs h' H' n' f' hP hH hf =>
   refine(back_pool M hlen hx hr hP).mono ?_
   rintro e w' ⟨v,φ',S2,κ',rfl,M',hv,φb,B⟩
   rw[hH]at B
   obtain⟨S3,C,hv'⟩:=B.back.plain M' hv
   refine hK _ _ ?_
   have hk:=hsl.kill B.av
   rw[hf]at hk
   rw[put_eta']
   exact Conc.set hd hs hdst C.mem (fun t=>C.av _ _ (hk t)) hv'
 | poolAd rs d' h' H' n' f' hP hH hf hl =>
   refine(back_pool M hlen hx hr hP).mono ?_
   rintro e w' ⟨v,φ',S2,κ',rfl,M',hv,φb,B⟩
   rw[hH]at B
   obtain⟨φ3,C,hv'⟩:=B.back.adopt M' hl hv
   refine hK _ _ ?_
   have hk:=hsl.kill B.av
   rw[hf]at hk
   rw[put_eta2]
   exact Conc.set hd hs hdst C.mem (fun t=>C.av _ _ (hk t)) hv'
 | lend as ws2 acc2 rs h' H' n' f' hr2 hP hH hf =>
   refine(back_mut M hlen hx hr2 hP).mono ?_
   rintro e w' ⟨v,φ',S2,κ',rfl,M',hv,φb,B⟩
   rw[hH]at B
   obtain⟨S3,C,hv'⟩:=B.back.plain M' hv
   refine hK _ _ ?_
   have hk:=hsl.kill B.av
   rw[hf]at hk
   rw[put_eta']
   exact Conc.set hd hs hdst C.mem (fun t=>C.av _ _ (hk t)) hv'
 | lendAd as ws2 acc2 rs d' h' H' n' f' hr2 hP hH hf hl =>
   refine(back_mut M hlen hx hr2 hP).mono ?_
   rintro e w' ⟨v,φ',S2,κ',rfl,M',hv,φb,B⟩
   rw[hH]at B
   obtain⟨φ3,C,hv'⟩:=B.back.adopt M' hl hv
   refine hK _ _ ?_
   have hk:=hsl.kill B.av
   rw[hf]at hk
   rw[put_eta2]
   exact Conc.set hd hs hdst C.mem (fun t=>C.av _ _ (hk t)) hv'
end
structure Env where
 P:Program
 n:Nat
 sites:Sites
inductive Kont where
 |code (c:Code)|blk (id:Nat)|ops (all:Array Oper) (l:List Oper)|back (J:St→Prop)|sc
def okO (n:Nat) (o:Oper):Bool:=match o.dst with|some d=>decide (d<n)|none=>true
def okC (n:Nat):Code→Bool
 |.region _ ops _=>ops.toList.all (okO n)
 |.seq a b=>okC n a&&okC n b
 |.cond _ a b=>okC n a&&okC n b
 |.block _ b=>okC n b
 |.loop b=>okC n b
 |.scope b=>okC n b
 |_=>true
def okK (n:Nat):List Kont→Bool
 |[]=>true
 |.code c::k=>okC n c&&okK n k
 |.ops _ l::k=>l.all (okO n)&&okK n k
 |.blk _::k=>okK n k
 |.back _::k=>okK n k
 |.sc::k=>okK n k
def semK (κ:Kap) (E:Env) (Q:Exit→Act→World→Prop):List Kont→Exit→Act→World→Prop
 |[]=>Q
 |.code c::k=>Exit.then (c.wp E.P (semK κ E Q k)) (semK κ E Q k)
 |.blk id::k=>Exit.inBlock id (semK κ E Q k)
 |.ops all l::k=>Exit.then (wpList E.P all (semK κ E Q k) l) (semK κ E Q k)
 |.back J::k=>Exit.then (fun a w=>∃s,J s∧Conc κ E.n s a w) (semK κ E Q k)
 |.sc::k=>Exit.noGoto (semK κ E Q k)
def endQ (κ:Kap) (n:Nat) (F:Exit→St→Prop):Exit→Act→World→Prop:=fun e a w=>∃s,F e s∧Conc κ n s a w
def Goes (E:Env) (F:Exit→St→Prop) (k:List Kont) (e:Exit) (s:St):Prop:=
 okK E.n k=true→∀κ a w,Conc κ E.n s a w→semK κ E (endQ κ E.n F) k e a w
def CallG (E:Env) (F:Exit→St→Prop) (g:FuncId) (xs:List AV) (ts:List T) (ws:List (Lab×Obj)) (d:Option Tmp) (k:List Kont) (s:St):Prop:=
 ∃s',Entry E.P g∧Takes E.P g xs ts ws d s s'∧Goes E F k .normal s'
inductive Out where
 |bad|call (g:FuncId) (xs:List AV) (ts:List T) (ws:List (Lab×Obj))|dl (y:Dl)
def opOut (E:Env) (o:Oper) (s:St):Out:=
 match isCall (evA s.f) o with
 | some (g, xs) => match (reifyE xs).run s.h with
   |some ((ts,ws),_)=>.call g xs ts ws
   |none=>.bad
 | none => match (stepR (tiOf E.P) E.sites s.nxt (evA s.f) o).run s.h with
   |some (y,_)=>.dl y
   |none=>.bad
inductive GOut where
 |free|bad|ask (d:Nat) (b want:Bool)|no (d:Nat)
def guardOut (all:Array Oper) (o:Oper) (s:St):GOut:=
 match o.guard with
 |none=>.free
 | some (g, want) => match (all[g]?).bind (·.dst) with
   | some d => match s.f d with
     |.t (.bool b)=>.ask d b want
     |.tup []=>.no d
     |_=>.bad
   |none=>.bad
def St.lit (s:St) (d:Nat) (b:Bool):St:={s with f:=upd s.f d (.t (.bool b))}
/- What follows stands in slots of instances: the simplifier does not look into them. -/
class HP where
 p:Prop
class HC where
 c:FuncId→List AV→List T→List (Lab×Obj)→Prop
class HD where
 d:Dl→Prop
class HA where
 a:Nat→Bool→Prop
class HN where
 n:Nat→Prop
def outK (x:Out) [kc:HC] [kd:HD]:Prop:=
 match x with
 |.bad=>False
 |.call g xs ts ws=>kc.c g xs ts ws
 |.dl y=>kd.d y
def selP (b:Bool) [p:HP] [q:HP]:Prop:=(b=true→p.p)∧(b=false→q.p)
def gK (x:GOut) [fr:HP] [at':HA] [af:HA] [no:HN]:Prop:=
 match x with
 |.bad=>False
 |.free=>fr.p
 |.no d=>no.n d
 |.ask d b true=>at'.a d b
 |.ask d b false=>af.a d b
def boolOf:AV→Option Bool
 |.t (.bool b)=>some b
 |_=>none
class HB where
 b:Bool→Prop
def bK (x:Option Bool) [k:HB]:Prop:=
 match x with
 |some b=>k.b b
 |none=>False
def run (E : Env) (F : Exit → St → Prop) : Nat → List Kont → Exit → St → Prop
 |0,k,e,s=>Goes E F k e s
 | m + 1, k, e, s => match k with
   |[]=>F e s
   | .code c :: k => match e with
     | .normal => match c with
       |.skip=>run E F m k .normal s
       |.label _=>run E F m k .normal s
       |.exit id=>run E F m k (.exit id) s
       |.ret=>run E F m k .ret s
       |.seq a b=>run E F m (.code a::.code b::k) .normal s
       |.block id b=>run E F m (.code b::.blk id::k) .normal s
       |.scope b=>run E F m (.code b::.sc::k) .normal s
       |.region _ ops false=>run E F m (.ops ops ops.toList::k) .normal s
       |.cond c x y=> @bK (boolOf (evA s.f c)) ⟨fun b=> @selP b ⟨run E F m (.code x::k) .normal s⟩ ⟨run E F m (.code y::k) .normal s⟩⟩
       |c=>Goes E F (.code c::k) .normal s
     |e=>run E F m k e s
   | .blk id :: k => match e with
     |.exit id'=>if id'=id then run E F m k .normal s else run E F m k (.exit id') s
     |e=>run E F m k e s
   | .ops all l :: k => match e with
     | .normal => match l with
       |[]=>run E F m k .normal s
       | o :: r => @gK (guardOut all o s)
         ⟨@outK (opOut E o s) ⟨fun g xs ts ws=>CallG E F g xs ts ws o.dst (.ops all r::k) s⟩ ⟨fun y=>run E F m (.ops all r::k) .normal (s.app o.dst y)⟩⟩
         ⟨fun d b=> @selP b ⟨@outK (opOut E o (s.lit d true)) ⟨fun g xs ts ws=>CallG E F g xs ts ws o.dst (.ops all r::k) (s.lit d true)⟩ ⟨fun y=>run E F m (.ops all r::k) .normal ((s.lit d true).app o.dst y)⟩⟩ ⟨run E F m (.ops all r::k) .normal ((s.lit d false).put o.dst (.tup []))⟩⟩
         ⟨fun d b=> @selP b ⟨run E F m (.ops all r::k) .normal ((s.lit d true).put o.dst (.tup []))⟩ ⟨@outK (opOut E o (s.lit d false)) ⟨fun g xs ts ws=>CallG E F g xs ts ws o.dst (.ops all r::k) (s.lit d false)⟩ ⟨fun y=>run E F m (.ops all r::k) .normal ((s.lit d false).app o.dst y)⟩⟩⟩
         ⟨fun _=>run E F m (.ops all r::k) .normal (s.put o.dst (.tup []))⟩
     |e=>run E F m k e s
   | .back J :: k => match e with
     |.normal=>J s
     |e=>run E F m k e s
   | .sc :: k => match e with
     |.goto _=>False
     |e=>run E F m k e s
section
variable {E:Env} {F:Exit→St→Prop}
theorem okK_code {n:Nat} {c:Code} {k:List Kont}:okK n (.code c::k)=true↔okC n c=true∧okK n k=true:=by simp[okK]
theorem okK_ops {n:Nat} {all:Array Oper} {l:List Oper} {k:List Kont}:okK n (.ops all l::k)=true↔(∀o∈l,okO n o=true)∧okK n k=true:=by simp[okK]
theorem okO_dst {n:Nat} {o:Oper} (h:okO n o=true):∀d',o.dst=some d'→d'<n:=by
 intro d' e
 simpa [okO,e] using h
theorem Conc.lit {κ:Kap} {n:Nat} {s:St} {a:Act} {w:World} {d:Nat} {b:Bool} (h:Conc κ n s a w) (hd:s.f d=.t (.bool b)):Conc κ n (s.lit d b) a w:=by
 have:s.lit d b=s:=by
  unfold St.lit
  have:upd s.f d (.t (.bool b))=s.f:=by
   funext t
   by_cases e:t=d
   ·subst e;rw[upd_same,hd]
   ·rw[upd_ne _ _ _ _ e]
  rw[this]
 rw[this];exact h
theorem Conc.bool {κ:Kap} {n:Nat} {s:St} {a:Act} {w:World} {x:Operand} {b:Bool} (h:Conc κ n s a w) (hx:evA s.f x=.t (.bool b)):a.eval x=.bool b:=by
 obtain⟨_,_,φ,S,M,hsl⟩:=h
 have:=evA_rep hsl x
 rw[hx]at this
 generalize a.eval x=v at this
 cases this with
 |t _ _ h=>cases h;rfl
theorem Conc.skip {κ:Kap} {n:Nat} {s:St} {a:Act} {w:World} {d:Option Tmp} (h:Conc κ n s a w) (hd:∀d',d=some d'→d'<n):Conc κ n (s.put d (.tup [])) (a.put d undef) w:=by
 obtain⟨h1,h2,φ,S,M,hsl⟩:=h
 have:=Conc.set (y:=.tup []) (v:=undef) h1 h2 hd M hsl (.tup _ _ rfl (fun j c v hj _=>by simp at hj))
 cases d<;>exact this
theorem guard_yield {κ:Kap} {n:Nat} {s:St} {a:Act} {w:World} {all:Array Oper} {o:Oper} {d:Nat} {b want:Bool} (h:Conc κ n s a w) (hg:guardOut all o s=.ask d b want):
  s.f d=.t (.bool b)∧Region.wanted o (yielded all a.tmps)=decide (b=want):=by
 unfold guardOut at hg
 split at hg
 ·cases hg
 ·rename_i g want' ho
  split at hg
  ·rename_i d' hd'
   split at hg
   ·rename_i b' hb'
    injection hg with e1 e2 e3
    subst e1;subst e2;subst e3
    refine⟨hb',?_⟩
    have h1:a.eval (.tmp d')=.bool b':=h.bool (x:=.tmp d') hb'
    have h2:a.tmps[d']?=some (.bool b'):=by
     simp only[Act.eval,Array.getD_eq_getD_getElem?]at h1
     cases h3:a.tmps[d']? with
     |none=>rw[h3]at h1;simp[undef]at h1
     |some v=>rw[h3]at h1;simp at h1;rw[h1]
    unfold Region.wanted yielded
    simp only[ho,hd',Option.bind_some,h2]
    cases b'<;>cases want'<;>rfl
   ·cases hg
   ·cases hg
  ·cases hg
theorem guard_no {κ:Kap} {n:Nat} {s:St} {a:Act} {w:World} {all:Array Oper} {o:Oper} {d:Nat} (h:Conc κ n s a w) (hg:guardOut all o s=.no d):s.f d=.tup []∧Region.wanted o (yielded all a.tmps)=false:=by
 unfold guardOut at hg
 split at hg
 ·cases hg
 ·rename_i g want' ho
  split at hg
  ·rename_i d' hd'
   split at hg
   ·cases hg
   ·rename_i hb'
    injection hg with e1
    subst e1
    refine⟨hb',?_⟩
    obtain⟨_,_,φ,S,M,hsl⟩:=h
    have h1:=hsl d'
    rw[hb']at h1
    have h2:a.tmps.getD d' undef=.tuple #[]:=by
     generalize a.tmps.getD d' undef=v at h1
     cases h1 with
     |tup cs vs hn hr=>rw[Array.eq_empty_of_size_eq_zero hn]
    unfold Region.wanted yielded
    rw[Array.getD_eq_getD_getElem?]at h2
    simp only[ho,hd',Option.bind_some]
    cases h3:a.tmps[d']? with
    |none=>rfl
    | some v =>
      rw[h3]at h2
      simp at h2
      subst h2
      rfl
   ·cases hg
  ·cases hg
theorem op_sound {o:Oper} {k:List Kont} {all:Array Oper} {r:List Oper} {s:St} (ho:okO E.n o=true) (hr:∀o∈r,okO E.n o=true) (hk:okK E.n k=true)
  (h:match opOut E o s with
    |.bad=>False
    |.call g xs ts ws=>CallG E F g xs ts ws o.dst (.ops all r::k) s
    |.dl y=>Goes E F (.ops all r::k) .normal (s.app o.dst y))
  {κ:Kap} {a:Act} {w:World} (hc:Conc κ E.n s a w):o.wp E.P a w (wpList E.P all (semK κ E (endQ κ E.n F) k) r) (semK κ E (endQ κ E.n F) k):=by
 unfold opOut at h
 split at h
 ·exact h.elim
 ·rename_i g ts ws he
  split at he
  ·rename_i g' xs hcall
   split at he
   ·rename_i ts' ws' acc hre
    cases he
    obtain⟨s',h1,h2,h3⟩:=h
    exact takes_sound hc (okO_dst ho) hcall h1 hre h2 fun a w hc'=>h3 (okK_ops.2 ⟨hr,hk⟩) κ a w hc'
   ·cases he
  ·split at he<;>cases he
 ·rename_i y he
  split at he
  ·split at he<;>cases he
  ·split at he
   ·rename_i y' acc hst
    cases he
    obtain⟨nx,v,w',h1,h2,h3⟩:=step_sound hc (okO_dst ho) hst
    have:=h (okK_ops.2 ⟨hr,hk⟩) κ _ _ h3
    unfold Oper.wp
    rw[h1]
    rcases h2 with rfl|⟨rfl,rfl⟩
    ·exact this
    ·exact this
   ·cases he
theorem then_ne {K:Act→World→Prop} {Q:Exit→Act→World→Prop} {e:Exit} (he:e≠.normal) {a:Act} {w:World} (h:Q e a w):Exit.then K Q e a w:=by
 cases e<;>first|exact absurd rfl he|exact h
theorem Goes.code_ne {c:Code} {k:List Kont} {e:Exit} {s:St} (he:e≠.normal) (h:Goes E F k e s):Goes E F (.code c::k) e s:=
 fun ok κ a w hc=>then_ne he (h (okK_code.1 ok).2 κ a w hc)
theorem Goes.ops_ne {all:Array Oper} {l:List Oper} {k:List Kont} {e:Exit} {s:St} (he:e≠.normal) (h:Goes E F k e s):Goes E F (.ops all l::k) e s:=
 fun ok κ a w hc=>then_ne he (h (okK_ops.1 ok).2 κ a w hc)
theorem Goes.back_ne {J:St→Prop} {k:List Kont} {e:Exit} {s:St} (he:e≠.normal) (h:Goes E F k e s):Goes E F (.back J::k) e s:=
 fun ok κ a w hc=>then_ne he (h ok κ a w hc)
theorem Goes.seq {x y:Code} {k:List Kont} {s:St} (h:Goes E F (.code x::.code y::k) .normal s):Goes E F (.code (.seq x y)::k) .normal s:=by
 intro ok κ a w hc
 have ok:=okK_code.1 ok
 have ok1:okC E.n x=true∧okC E.n y=true:=by simpa [okC] using ok.1
 exact wp_seq (h (okK_code.2 ⟨ok1.1,okK_code.2 ⟨ok1.2,ok.2⟩⟩) κ a w hc)
theorem Goes.block {id:Nat} {b:Code} {k:List Kont} {s:St} (h:Goes E F (.code b::.blk id::k) .normal s):Goes E F (.code (.block id b)::k) .normal s:=by
 intro ok κ a w hc
 have ok:=okK_code.1 ok
 exact wp_block (h (okK_code.2 ⟨ok.1,ok.2⟩) κ a w hc)
theorem Goes.scope {b:Code} {k:List Kont} {s:St} (h:Goes E F (.code b::.sc::k) .normal s):Goes E F (.code (.scope b)::k) .normal s:=by
 intro ok κ a w hc
 have ok:=okK_code.1 ok
 exact wp_scope_straight (h (okK_code.2 ⟨ok.1,ok.2⟩) κ a w hc)
theorem Goes.region {id:Nat} {ops:Array Oper} {k:List Kont} {s:St} (h:Goes E F (.ops ops ops.toList::k) .normal s):Goes E F (.code (.region id ops false)::k) .normal s:=by
 intro ok κ a w hc
 have ok:=okK_code.1 ok
 exact wp_region_list (h (okK_ops.2 ⟨fun o ho=>List.all_eq_true.1 ok.1 o ho,ok.2⟩) κ a w hc)
theorem Goes.cond {c:Operand} {x y:Code} {k:List Kont} {s:St} {b:Bool} (hb:evA s.f c=.t (.bool b)) (h1:b=true→Goes E F (.code x::k) .normal s) (h2:b=false→Goes E F (.code y::k) .normal s):
  Goes E F (.code (.cond c x y)::k) .normal s:=by
 intro ok κ a w hc
 have ok:=okK_code.1 ok
 have ok1:okC E.n x=true∧okC E.n y=true:=by simpa [okC] using ok.1
 exact wp_cond_split (hc.bool hb) (fun e=>h1 e (okK_code.2 ⟨ok1.1,ok.2⟩) κ a w hc) (fun e=>h2 e (okK_code.2 ⟨ok1.2,ok.2⟩) κ a w hc)
theorem run_sound : ∀ (m : Nat) (k : List Kont) (e : Exit) (s : St), run E F m k e s → Goes E F k e s := by
 intro m
 induction m with
 |zero=>intro k e s h;exact h
 | succ m ih =>
   intro k e s h
   unfold run at h
   split at h
   ·exact fun _ κ a w hc=>⟨s,h,hc⟩
   ·rename_i c k
    split at h
    ·split at h
     ·exact fun ok κ a w hc=>wp_skip (ih _ _ _ h (okK_code.1 ok).2 κ a w hc)
     ·exact fun ok κ a w hc=>wp_label (ih _ _ _ h (okK_code.1 ok).2 κ a w hc)
     ·exact fun ok κ a w hc=>wp_exit (ih _ _ _ h (okK_code.1 ok).2 κ a w hc)
     ·exact fun ok κ a w hc=>wp_ret (ih _ _ _ h (okK_code.1 ok).2 κ a w hc)
     ·exact(ih _ _ _ h).seq
     ·exact(ih _ _ _ h).block
     ·exact(ih _ _ _ h).scope
     ·exact(ih _ _ _ h).region
     ·rename_i cc x y
      cases hb:evA s.f cc with
      | t t => cases t with
        | bool b =>
          rw[hb]at h
          exact Goes.cond hb (fun e=>ih _ _ _ (h.1 e)) (fun e=>ih _ _ _ (h.2 e))
        |_=>rw[hb]at h;exact False.elim h
      |_=>rw[hb]at h;exact False.elim h
     ·exact h
    ·rename_i hne
     exact Goes.code_ne hne (ih _ _ _ h)
   ·rename_i id k
    split at h
    ·rename_i id'
     split at h
     ·rename_i e;subst e
      intro ok κ a w hc
      show Exit.inBlock id' _ (.exit id') a w
      simp only[Exit.inBlock,if_true]
      exact ih _ _ _ h ok κ a w hc
     ·rename_i hne
      intro ok κ a w hc
      show Exit.inBlock id _ (.exit id') a w
      simp only[Exit.inBlock,if_neg hne]
      exact ih _ _ _ h ok κ a w hc
    ·rename_i hne
     intro ok κ a w hc
     have:=ih _ _ _ h ok κ a w hc
     show Exit.inBlock id _ e a w
     cases e<;>first|exact this|exact absurd rfl (hne _)
   ·rename_i all l k
    split at h
    ·split at h
     ·exact fun ok κ a w hc=>ih _ _ _ h (okK_ops.1 ok).2 κ a w hc
     ·rename_i o r
      intro ok κ a w hc
      obtain⟨ok1,ok2⟩:=okK_ops.1 ok
      have oko:=ok1 o (by simp)
      have okr:∀o∈r,okO E.n o=true:=fun o h=>ok1 o (by simp[h])
      show wpList E.P all _ (o::r) a w
      refine wpList_step fun K hK=> ?_
      cases hg:guardOut all o s with
      |bad=>rw[hg]at h;exact False.elim h
      | free =>
        rw[hg]at h
        have h:@outK (opOut E o s) ⟨fun g xs ts ws=>CallG E F g xs ts ws o.dst (.ops all r::k) s⟩ ⟨fun y=>run E F m (.ops all r::k) .normal (s.app o.dst y)⟩:=h
        have hw:Region.wanted o (yielded all a.tmps)=true:=by
         unfold guardOut at hg
         split at hg
         ·rename_i ho;simp[Region.wanted,ho]
         ·split at hg
          ·split at hg<;>cases hg
          ·cases hg
        rw[if_pos hw]
        refine Oper.wp_mono hK (op_sound (F:=F) oko okr ok2 (s:=s) ?_ hc)
        cases ho:opOut E o s with
        |bad=>rw[ho]at h;exact False.elim h
        |call g ts ws=>rw[ho]at h;exact h
        |dl y=>rw[ho]at h;exact ih _ _ _ h
      | no d =>
        rw[hg]at h
        have h:run E F m (.ops all r::k) .normal (s.put o.dst (.tup [])):=h
        obtain⟨g1,g2⟩:=guard_no hc hg
        rw[if_neg (by rw[g2];simp)]
        exact hK _ _ (ih _ _ _ h (okK_ops.2 ⟨okr,ok2⟩) κ _ _ (hc.skip (okO_dst oko)))
      | ask d b want =>
        rw[hg]at h
        cases want with
        | true =>
         have h:@selP b ⟨@outK (opOut E o (s.lit d true)) ⟨fun g xs ts ws=>CallG E F g xs ts ws o.dst (.ops all r::k) (s.lit d true)⟩ ⟨fun y=>run E F m (.ops all r::k) .normal ((s.lit d true).app o.dst y)⟩⟩ ⟨run E F m (.ops all r::k) .normal ((s.lit d false).put o.dst (.tup []))⟩:=h
         obtain⟨g1,g2⟩:=guard_yield hc hg
         obtain⟨hA,hB⟩:=h
         cases b with
         |true=>
          rw[if_pos (by rw[g2];rfl)]
          have h:=hA rfl
          refine Oper.wp_mono hK (op_sound (F:=F) oko okr ok2 (s:=s.lit d true) ?_ (hc.lit g1))
          cases ho:opOut E o (s.lit d true) with
          |bad=>rw[ho]at h;exact False.elim h
          |call g ts ws=>rw[ho]at h;exact h
          |dl y=>rw[ho]at h;exact ih _ _ _ h
         |false=>
          rw[if_neg (by rw[g2];simp)]
          exact hK _ _ (ih _ _ _ (hB rfl) (okK_ops.2 ⟨okr,ok2⟩) κ _ _ ((hc.lit g1).skip (okO_dst oko)))
        | false =>
         have h:@selP b ⟨run E F m (.ops all r::k) .normal ((s.lit d true).put o.dst (.tup []))⟩ ⟨@outK (opOut E o (s.lit d false)) ⟨fun g xs ts ws=>CallG E F g xs ts ws o.dst (.ops all r::k) (s.lit d false)⟩ ⟨fun y=>run E F m (.ops all r::k) .normal ((s.lit d false).app o.dst y)⟩⟩:=h
         obtain⟨g1,g2⟩:=guard_yield hc hg
         obtain⟨hA,hB⟩:=h
         cases b with
         |false=>
          rw[if_pos (by rw[g2];rfl)]
          have h:=hB rfl
          refine Oper.wp_mono hK (op_sound (F:=F) oko okr ok2 (s:=s.lit d false) ?_ (hc.lit g1))
          cases ho:opOut E o (s.lit d false) with
          |bad=>rw[ho]at h;exact False.elim h
          |call g ts ws=>rw[ho]at h;exact h
          |dl y=>rw[ho]at h;exact ih _ _ _ h
         |true=>
          rw[if_neg (by rw[g2];simp)]
          exact hK _ _ (ih _ _ _ (hA rfl) (okK_ops.2 ⟨okr,ok2⟩) κ _ _ ((hc.lit g1).skip (okO_dst oko)))
    ·rename_i hne
     exact Goes.ops_ne hne (ih _ _ _ h)
   ·rename_i J k
    split at h
    ·exact fun ok κ a w hc=>⟨s,h,hc⟩
    ·rename_i hne
     exact Goes.back_ne hne (ih _ _ _ h)
   ·split at h
    ·exact h.elim
    ·rename_i hne
     intro ok κ a w hc
     have:=ih _ _ _ h ok κ a w hc
     show Exit.noGoto _ e a w
     cases e<;>first|exact this|exact absurd rfl (hne _)
end
def Wk (n:Nat) (s s':St):Prop:=∀κ a w,Conc κ n s a w→Conc κ n s' a w
theorem Wk.trans {n:Nat} {s s' s'':St} (h:Wk n s s') (k:Wk n s' s''):Wk n s s'':=fun κ a w hc=>k κ a w (h κ a w hc)
section
variable {E:Env} {F:Exit→St→Prop}
theorem Goes.wk {k:List Kont} {e:Exit} {s s':St} (hw:Wk E.n s s') (h:Goes E F k e s'):Goes E F k e s:=
 fun ok κ a w hc=>h ok κ a w (hw κ a w hc)
theorem Goes.loop {b:Code} {k:List Kont} {s:St} {X:Type} (st:X→St) (I:X→Prop) (μ:X→Nat) (x0:X) (h0:Wk E.n s (st x0)) (hI:I x0)
  (round:∀x,I x→∀J:St→Prop,(∀x' s',I x'→μ x'<μ x→Wk E.n s' (st x')→J s')→Goes E F (.code b::.back J::k) .normal (st x)):Goes E F (.code (.loop b)::k) .normal s:=by
 intro ok κ a w hc
 have ok:=okK_code.1 ok
 refine wp_loop_ghost (fun m a w=>∃x,I x∧μ x=m∧Conc κ E.n (st x) a w) (μ x0) ⟨x0,hI,rfl,h0 κ a w hc⟩ ?_
 rintro m a w ⟨x,hx,rfl,hc⟩
 refine wp_mono (round x hx (fun s'=>∃x',I x'∧μ x'<μ x∧Wk E.n s' (st x')) (fun x' s' h1 h2 h3=>⟨x',h1,h2,h3⟩) (okK_code.2 ⟨ok.1,ok.2⟩) κ a w hc) ?_
 intro e a w h
 cases e with
 | normal =>
   obtain⟨s',⟨x',h1,h2,h3⟩,h4⟩:=h
   exact⟨μ x',h2,x',h1,rfl,h3 κ a w h4⟩
 |_=>exact h
end
def ofL:List (Nat×AV)→Nat→AV
 |[]=>fun _=>.und
 |(d,v)::r=>upd (ofL r) d v
def ofH (base:Heap):List (Lab×Obj)→Heap
 |[]=>base
 |(l,o)::r=>upd (ofH base r) l (some o)
mutual
def refsIn (L:List Lab):AV→Bool
 |.sl l _ _ _=>l.pool||L.contains l
 |.ep l _ _ _=>l.pool||L.contains l
 |.bp l _=>l.pool||L.contains l
 |.mp l=>l.pool||L.contains l
 |.sb l _=>l.pool||L.contains l
 |.agg cs=>refsInL L cs
 |.tup cs=>refsInL L cs
 |_=>true
def refsInL (L:List Lab):List AV→Bool
 |[]=>true
 |x::r=>refsIn L x&&refsInL L r
end
theorem refsInL_iff (L:List Lab) (l:List AV):refsInL L l=true↔∀x∈l,refsIn L x=true:=by
 induction l with
 |nil=>simp[refsInL]
 |cons t r ih=>simp[refsInL,ih]
theorem RepA.refs {φ φb:Inj} {H Hb:Heap} {w:World} {S:Addr→Prop} {L:List Lab} {x:AV} {v:Value} (h:RepA φ H w S x v):refsIn L x=true→
  (∀l,(Lab.pool l=true∨l∈L)→φb l=φ l∧Hb l=H l)→RepA φb Hb w S x v:=by
 intro hc hl
 have tv:∀t v,RepT φ.objs w S t v→RepT φb.objs w S t v:=fun t v h=>h.mono (fun id b e=>by show φb (.obj id)=_;rw[(hl (.obj id) (.inl rfl)).1];exact e) (fun _ h=>h) fun _ _ _ h=>h
 induction h with
 |und v=>exact .und v
 |t t v h=>exact .t t v (tv t v h)
 |nil=>exact .nil
 | sl l ver off len v o hlo hv h =>
   obtain⟨e1,e2⟩:=hl l (by simpa [refsIn] using hc)
   refine .sl l ver off len v o (e2.trans hlo) hv fun size es v' frz e=>⟨(h size es v' frz e).1,fun e'=> ?_⟩
   have:=(h size es v' frz e).2 e'
   unfold Hdr at this⊢
   rw[e1];exact this
 | ep l ver i j v o hlo hv h =>
   obtain⟨e1,e2⟩:=hl l (by simpa [refsIn] using hc)
   refine .ep l ver i j v o (e2.trans hlo) hv fun size es v' frz e=>⟨(h size es v' frz e).1,fun e'=> ?_⟩
   rw[e1];exact(h size es v' frz e).2 e'
 |tp cs ad u ha hsc hcc=>exact .tp cs ad u ha hsc fun j c hj=>⟨(hcc j c hj).1,(hcc j c hj).2.1,tv _ _ (hcc j c hj).2.2⟩
 | bp l j b cs hlo hb =>
   obtain⟨e1,e2⟩:=hl l (by simpa [refsIn] using hc)
   exact .bp l j b cs (e2.trans hlo) (e1.trans hb)
 | sb l n b cap cs hlo hb hn =>
   obtain⟨e1,e2⟩:=hl l (by simpa [refsIn] using hc)
   exact .sb l n b cap cs (e2.trans hlo) (e1.trans hb) hn
 | mp l b kvs hlo hb =>
   obtain⟨e1,e2⟩:=hl l (by simpa [refsIn] using hc)
   exact .mp l b kvs (e2.trans hlo) (e1.trans hb)
 | agg cs vs hn hsc hr ih =>
   have hc:=(refsInL_iff L cs).1 (by simpa [refsIn] using hc)
   exact .agg cs vs hn hsc fun j c v hj hv=>ih j c v hj hv (hc c (List.mem_of_getElem? hj))
 | tup cs vs hn hr ih =>
   have hc:=(refsInL_iff L cs).1 (by simpa [refsIn] using hc)
   exact .tup cs vs hn fun j c v hj hv=>ih j c v hj hv (hc c (List.mem_of_getElem? hj))
theorem ofL_spec {f:Nat→AV}:∀{l:List (Nat×AV)},(∀p∈l,f p.1=p.2)→∀t,(ofL l t=f t∧∃p∈l,p.2=f t)∨ofL l t=.und
 |[],_,_=>.inr rfl
 | (d, v) :: r, h, t => by
   by_cases e:t=d
   ·subst e
    have:=h (t,v) (by simp)
    exact .inl ⟨by rw[ofL,upd_same];exact this.symm,(t,v),by simp,this.symm⟩
   ·rw[ofL,upd_ne _ _ _ _ e]
    rcases ofL_spec (l:=r) (fun p hp=>h p (List.mem_cons_of_mem _ hp)) t with ⟨h1,p,hp,h2⟩|h1
    ·exact .inl ⟨h1,p,by simp[hp],h2⟩
    ·exact .inr h1
theorem ofH_in {H base:Heap}:∀{hl:List (Lab×Obj)},(∀p∈hl,H p.1=some p.2)→∀l∈hl.map (·.1),ofH base hl l=H l
 |[],_,l,h=>by simp at h
 | (l0, o) :: r, h, l, hm => by
   by_cases e:l=l0
   ·subst e;rw[ofH,upd_same];exact(h (l,o) (by simp)).symm
   ·rw[ofH,upd_ne _ _ _ _ e]
    refine ofH_in (fun p hp=>h p (by simp[hp])) l ?_
    simp only[List.map_cons,List.mem_cons]at hm
    exact hm.resolve_left e
theorem ofH_out {base:Heap}:∀{hl:List (Lab×Obj)} {l:Lab},l∉hl.map (·.1)→ofH base hl l=base l
 |[],_,_=>rfl
 | (l0, o) :: r, l, h => by
   simp only[List.map_cons,List.mem_cons,not_or]at h
   rw[ofH,upd_ne _ _ _ _ h.1]
   exact ofH_out h.2
theorem ofH_mem {base:Heap}:∀{hl:List (Lab×Obj)} {l:Lab} {o:Obj},l∈hl.map (·.1)→ofH base hl l=some o→(l,o)∈hl
 |[],_,_,h,_=>by simp at h
 | (l0, o0) :: r, l, o, hm, h => by
   by_cases e:l=l0
   ·subst e;rw[ofH,upd_same]at h;cases h;simp
   ·rw[ofH,upd_ne _ _ _ _ e]at h
    simp only[List.map_cons,List.mem_cons]at hm
    have:=ofH_mem (hm.resolve_left e) h
    simp[this]
theorem Wk.mk {n:Nat} {s:St} {base:Heap} (l:List (Nat×AV)) (hl:List (Lab×Obj)) (hb:∀lab,Lab.pool lab=false→base lab=none) (h1:∀p∈l,s.f p.1=p.2) (h2:∀p∈hl,s.h p.1=some p.2)
  (h3:∀lab,Lab.pool lab=true→ofH base hl lab=s.h lab) (h4:∀p∈l,refsIn (hl.map (·.1)) p.2=true)
  (h5:∀p∈hl,Lab.pool p.1=false→∀cs,p.2=.box cs→∀c∈cs,refsIn (hl.map (·.1)) c=true):Wk n s ⟨ofL l,ofH base hl,s.nxt⟩:=by
 rintro κ a w ⟨hd,hs,φ,S,M,hsl⟩
 have hin:∀lab,(Lab.pool lab=true∨lab∈hl.map (·.1))→ofH base hl lab=s.h lab:=fun lab h=>by
  rcases h with h|h
  ·exact h3 lab h
  ·exact ofH_in h2 lab h
 let φ':Inj:=fun lab=>match ofH base hl lab with|none=>none|some _=>φ lab
 have c1:∀lab o,ofH base hl lab=some o→(Lab.pool lab=true∨lab∈hl.map (·.1)):=fun lab o h=>by
  by_cases hm:lab∈hl.map (·.1)
  ·exact .inr hm
  ·cases hp:Lab.pool lab with
   |true=>exact .inl rfl
   |false=>rw[ofH_out hm,hb lab hp]at h;cases h
 have p1:∀lab o,ofH base hl lab=some o→φ' lab=φ lab∧s.h lab=some o:=fun lab o h=>⟨by show(match ofH base hl lab with|none=>none|some _=>φ lab)=_;rw[h],by rw[←hin lab (c1 lab o h)];exact h⟩
 have p2:∀lab,(Lab.pool lab=true∨lab∈hl.map (·.1))→φ' lab=φ lab∧ofH base hl lab=s.h lab:=fun lab h=>by
  refine⟨?_,hin lab h⟩
  cases ho:ofH base hl lab with
  |some o=>exact(p1 lab o ho).1
  | none =>
    show(match ofH base hl lab with|none=>none|some _=>φ lab)=_
    rw[ho,M.dom lab (by rw[←hin lab h];exact ho)]
 have p3:∀lab b,φ' lab=some b→φ lab=some b∧∃o,ofH base hl lab=some o:=fun lab b h=>by
  cases ho:ofH base hl lab with
  |some o=>exact⟨(p1 lab o ho).1▸h,o,rfl⟩
  | none =>
    have h:(match ofH base hl lab with|none=>none|some _=>φ lab)=some b:=h
    rw[ho]at h;cases h
 have tv:∀t v,RepT φ.objs w S t v→RepT φ'.objs w S t v:=fun t v h=>h.mono (fun id b e=>by show φ' (.obj id)=_;rw[(p2 (.obj id) (.inl rfl)).1];exact e) (fun _ h=>h) fun _ _ _ h=>h
 refine⟨hd,hs,φ',S,?_,fun t=> ?_⟩
 ·refine { inj := fun l1 l2 b e1 e2 => M.inj _ _ _ (p3 _ _ e1).1 (p3 _ _ e2).1, dom := fun lab h => ?_, lt := fun lab b h => M.lt _ _ (p3 _ _ h).1, objs := fun lab o ho => ?_, stab := ?_, slt := M.slt, nx := fun id hid => (hin (.obj id) (.inl rfl)).trans (M.nx id hid),
           sub:=M.sub,sup:=M.sup,grow:=M.grow,os:=M.os,tape:=M.tape,output:=M.output,keep:=M.keep,keepS:=M.keepS,old:=fun lab b h hlt=>M.old _ _ (p3 _ _ h).1 hlt,loc0:=M.loc0,fldk:=M.fldk.same fun l hl=>⟨(p2 l (.inl (by cases l<;>first|rfl|cases hl))).2,(p2 l (.inl (by cases l<;>first|rfl|cases hl))).1⟩,objk:=fun lab b hf h=>by rw[(p2 lab (.inl (by cases lab<;>first|rfl|cases hf))).1];exact M.objk lab b hf h}
  ·show(match ofH base hl lab with|none=>none|some _=>φ lab)=_
   have h:ofH base hl lab=none:=h
   rw[h]
  ·obtain⟨q1,q2⟩:=p1 lab o ho
   have O:=M.objs lab o q2
   cases o with
   |dead=>exact q1.trans O
   | map kvs =>
     obtain⟨g0,b,es,c,g1,g2,g3⟩:=O
     exact⟨g0,b,es,c,q1.trans g1,g2,g3⟩
   | box cs =>
     obtain⟨b,vs,ty,g1,g2,g3,g4,g5,g6⟩:=O
     refine⟨b,vs,ty,q1.trans g1,g2,g3,g4,g5,fun j c v hj hv=> ?_⟩
     cases hp:Lab.pool lab with
     |true=>exact(g6 j c v hj hv).poolC (g5 hp c (List.mem_of_getElem? hj)) fun l' hl'=>p2 l' (.inl hl')
     | false =>
       have hm:=(c1 lab _ ho).resolve_left (by simp[hp])
       exact(g6 j c v hj hv).refs (h5 _ (ofH_mem hm ho) hp cs rfl c (List.mem_of_getElem? hj)) p2
   | arr size es v frz =>
     obtain⟨g1,g2,g3,g4,g5,g6⟩:=O
     refine⟨g1,g2,g3,g4,fun e=>g5 (q1▸e),fun b hb'=> ?_⟩
     obtain⟨cs,ty,k1,k2,k3,k4⟩:=g6 b (q1▸hb')
     exact⟨cs,ty,k1,k2,fun i j e c he hc=>let ⟨u,u1,u2⟩:=k3 i j e c he hc;⟨u,u1,tv _ _ u2⟩,k4⟩
  ·rintro ad ha ⟨lab,o,e1,e2,e3⟩
   exact M.stab ad ha ⟨lab,o,(p1 lab o e1).2,(p3 _ _ e2).1,e3⟩
 ·show RepA φ' (ofH base hl) w S (ofL l t) _
  rcases ofL_spec h1 t with ⟨e,p,hp,e2⟩|e
  ·rw[e]
   exact(hsl t).refs (by rw[←e2];exact h4 p hp) p2
  ·rw[e];exact .und _
theorem Wk.nilRow {n:Nat} {s:St} {d:Nat} {lab:Lab} {size:Nat} (hd:s.f d=.nil) (hl:s.h lab=none) (hp:Lab.pool lab=false) (hsz:size≠0):Wk n s ⟨upd s.f d (.sl lab 0 0 0),upd s.h lab (some (.arr size [] 0 0)),s.nxt⟩:=by
 rintro κ a w ⟨hdf,hs,φ,S,M,hsl⟩
 have hφ:=M.dom lab hl
 have hstep:∀l' o,s.h l'=some o→∃o',upd s.h lab (some (.arr size [] 0 0)) l'=some o'∧LStep φ φ w w l' o o':=by
  intro l' o ho
  by_cases e:l'=lab
  ·subst e;rw[hl]at ho;cases ho
  ·exact⟨o,by rw[upd_ne _ _ _ _ e];exact ho,LStep.refl o fun b cs ty fr _ h=>⟨cs,ty,fr,h,Nat.le_refl _⟩⟩
 have av:∀y v,RepA φ s.h w S y v→RepA φ (upd s.h lab (some (.arr size [] 0 0))) w S y v:=fun y v h=>h.mono (fun _ _ h=>h) (fun _ h=>h) (fun _ _ _ h=>h) hstep
 refine⟨hdf,hs,φ,S,?_,fun t=> ?_⟩
 ·refine{M with fldk:=M.fldk.step hstep,dom:=fun l' h=> ?_,objs:=fun l' o ho=> ?_,stab:= ?_,nx:=fun id hid=> ?_}
  ·by_cases e:l'=lab
   ·subst e;exact hφ
   ·have h:upd s.h lab (some (.arr size [] 0 0)) l'=none:=h
    rw[upd_ne _ _ _ _ e]at h;exact M.dom l' h
  ·have ho:upd s.h lab (some (.arr size [] 0 0)) l'=some o:=ho
   by_cases e:l'=lab
   ·subst e
    rw[upd_same]at ho;cases ho
    exact⟨hsz,fun _ h=>(by cases h),fun _ h=>(by cases h),Nat.le_refl _,fun _=>rfl,fun b h=>by rw[hφ]at h;cases h⟩
   ·rw[upd_ne _ _ _ _ e]at ho
    exact(M.objs l' o ho).mono (fun _ _ h=>h) (fun _ h=>h) (fun _ _ _ h=>h) hstep rfl fun _ _=>rfl
  ·rintro ad h ⟨l',o,h1,h2,h3⟩
   have h1:upd s.h lab (some (.arr size [] 0 0)) l'=some o:=h1
   by_cases e:l'=lab
   ·subst e;rw[hφ]at h2;cases h2
   ·rw[upd_ne _ _ _ _ e]at h1;exact M.stab ad h ⟨l',o,h1,h2,h3⟩
  ·show upd s.h lab _ (.obj id)=none
   rw[upd_ne _ _ _ _ (fun e=>by rw[←e]at hp;cases hp)];exact M.nx id hid
 ·show RepA φ _ w S (upd s.f d (.sl lab 0 0 0) t) _
  by_cases e:t=d
  ·subst e
   rw[upd_same]
   have:=hsl t
   rw[hd]at this
   generalize a.tmps.getD t undef=v at this⊢
   cases this
   refine .sl lab 0 0 0 _ (.arr size [] 0 0) (upd_same _ _ _) trivial fun size' es' v' frz' e=> ?_
   cases e
   exact⟨Nat.le_refl _,fun _=>⟨Nat.le_refl _,none,0,rfl,Nat.le_refl _,fun _=>⟨rfl,rfl⟩,fun b h=>by rw[hφ]at h;cases h⟩⟩
  ·rw[upd_ne _ _ _ _ e];exact av _ _ (hsl t)
def fin1:AV×Bool→Rd (RC×List (Lab×Obj)×Option Lab)
 |(x,false)=>(reify x).bind fun r=>.ret (.t r.1,r.2,none)
 | (.sl l v off len, true) => .ask l fun
   |some (.arr size es v' frz)=>if v=v'∧off=0∧len=es.length∧frz=0∧Lab.pool l=false then .ret (.own size es,[],some l) else .fail
   |_=>.fail
 |_=>.fail
def finL:List (AV×Bool)→Rd (List RC×List (Lab×Obj)×List (Option Lab))
 |[]=>.ret ([],[],[])
 |x::r=>(fin1 x).bind fun y=>(finL r).bind fun z=>.ret (y.1::z.1,y.2.1++z.2.1,y.2.2::z.2.2)
def okOwn:List (Option Lab)→List Lab→Bool
 |[],_=>true
 |none::r,fz=>okOwn r fz
 |some l::r,fz=> !fz.contains l&&okOwn r (l::fz)
theorem okOwn_spec : ∀ {os : List (Option Lab)} {fz : List Lab}, okOwn os fz = true → (∀ (j : Nat) (l : Lab), os[j]? = some (some l) → l ∉ fz) ∧ ∀ (i j : Nat) (l : Lab), os[i]? = some (some l) → os[j]? = some (some l) → i = j
 |[],fz,h=>⟨fun j l e=>by simp at e,fun i j l e=>by simp at e⟩
 | none :: r, fz, h => by
   obtain⟨h1,h2⟩:=okOwn_spec (os:=r) (fz:=fz) h
   refine⟨fun j l e=> ?_,fun i j l e1 e2=> ?_⟩
   ·cases j with
    |zero=>simp at e
    |succ j=>exact h1 j l (by simpa using e)
   ·cases i with
    |zero=>simp at e1
    | succ i => cases j with
      |zero=>simp at e2
      |succ j=>rw[h2 i j l (by simpa using e1) (by simpa using e2)]
 | some l0 :: r, fz, h => by
   simp only[okOwn,Bool.and_eq_true,Bool.not_eq_true',List.contains_eq_mem,decide_eq_false_iff_not]at h
   obtain⟨h0,h⟩:=h
   obtain⟨h1,h2⟩:=okOwn_spec (os:=r) (fz:=l0::fz) h
   refine⟨fun j l e=> ?_,fun i j l e1 e2=> ?_⟩
   ·cases j with
    |zero=>simp at e;subst e;exact h0
    |succ j=>exact fun hm=>h1 j l (by simpa using e) (by simp[hm])
   ·cases i with
    | zero => cases j with
      |zero=>rfl
      | succ j =>
        simp at e1;subst e1
        exact absurd (List.mem_cons_self) (h1 j l0 (by simpa using e2))
    | succ i => cases j with
      | zero =>
        simp at e2;subst e2
        exact absurd (List.mem_cons_self) (h1 i l0 (by simpa using e1))
      |succ j=>rw[h2 i j l (by simpa using e1) (by simpa using e2)]
theorem writes_ne:∀{ws:List (Lab×Obj)} {H:Heap} {l:Lab},l∉ws.map (·.1)→writes H ws l=H l
 |[],_,_,_=>rfl
 | (l0, o) :: r, H, l, h => by
   simp only[List.map_cons,List.mem_cons,not_or]at h
   show writes (upd H l0 (some o)) r l=_
   rw[writes_ne h.2,upd_ne _ _ _ _ h.1]
section
variable {P:Program} {κ:Kap} {n:Nat} {a:Act} {w:World} {s:St} {φ:Inj} {S:Addr→Prop} {H H1:Heap}
def FinRep (φ:Inj) (H H':Heap) (w:World) (S:Addr→Prop):RC→Option Lab→Value→Prop
 |.t t,none,u=>RepT φ.objs w S t u
 |.own size es,some l,u=>Lab.pool l=false∧∃v,H l=some (.arr size es v 0)∧RepA φ H' w S (.sl l v 0 es.length) u
 |_,_,_=>False
theorem FinRep.chg {n1:Nat} {S':Addr→Prop} {H':Heap} {r:RC} {o:Option Lab} {u:Value} (h:FinRep φ H H1 w S r o u) (C:Chg κ φ S H1 w φ S' H' n1 w):FinRep φ H H' w S' r o u:=by
 cases r<;>cases o<;>first|exact h.elim|skip
 ·exact C.tv _ _ h
 ·obtain⟨h1,v,h2,h3⟩:=h
  exact⟨h1,v,h2,C.av _ _ h3⟩
theorem finL_sim : ∀ (xs : List (AV × Bool)) (us : List Value) {S : Addr → Prop} {H1 : Heap} (_ : Mem κ φ S H1 n w) (_ : Frz H H1) (_ : us.length = xs.length) (_ : ∀ (j : Nat) (x : AV × Bool) (u : Value), xs[j]? = some x → us[j]? = some u → RepA φ H1 w S x.1 u)
  {rs:List RC} {ws:List (Lab×Obj)} {os:List (Option Lab)} {acc:List Lab} (_:(finL xs).run H=some ((rs,ws,os),acc)),
  ∃S',Rei κ φ H n w S H1 S' (writes H1 ws)∧rs.length=xs.length∧os.length=xs.length∧∀(j:Nat) (r:RC) (o:Option Lab) (u:Value),rs[j]?=some r→os[j]?=some o→us[j]?=some u→FinRep φ H (writes H1 ws) w S' r o u
 | [], us, S, H1, M, hF, hl, hx, rs, ws, os, acc, h => by
   obtain⟨e,_⟩:=Rd.run_ret_some h
   cases e
   exact⟨S,⟨Chg.refl M,hF,fun _ h=>h⟩,rfl,rfl,fun j t o u hj=>by simp at hj⟩
 |x::xs,[],S,H1,M,hF,hl,hx,rs,ws,os,acc,h=>by simp at hl
 | (x, b) :: xs, u :: us, S, H1, M, hF, hl, hx, rs, ws, os, acc, h => by
   obtain⟨⟨r0,ws1,o0⟩,a1,a2,h1,h2,_⟩:=Rd.run_bind_some h
   obtain⟨⟨rs',ws2,os'⟩,a3,a4,h3,h4,_⟩:=Rd.run_bind_some h2
   obtain⟨e,_⟩:=Rd.run_ret_some h4
   cases e
   have hx0:=hx 0 (x,b) u rfl rfl
   have key : ∃ S', Rei κ φ H n w S H1 S' (writes H1 ws1) ∧ FinRep φ H (writes H1 ws1) w S' r0 o0 u := by
    cases b with
    | false =>
      obtain⟨⟨t,ws3⟩,a5,a6,g1,g2,_⟩:=Rd.run_bind_some h1
      obtain⟨e,_⟩:=Rd.run_ret_some g2
      cases e
      obtain⟨S',r1,r2⟩:=reify_sim M hF hx0 g1
      exact⟨S',r1,r2⟩
    | true =>
      cases x with
      | sl l v off len =>
        obtain⟨acc',hr',_⟩:=Rd.run_ask_some h1
        split at hr'
        ·rename_i size es v' frz hl'
         split at hr'
         ·rename_i hver
          obtain⟨e,_⟩:=Rd.run_ret_some hr'
          cases e
          obtain⟨rfl,rfl,rfl,rfl,hp⟩:=hver
          exact⟨S,⟨Chg.refl M,hF,fun _ h=>h⟩,hp,v,hl',hx0⟩
         ·exact(Rd.run_fail_some hr').elim
        ·exact(Rd.run_fail_some hr').elim
      |_=>exact(Rd.run_fail_some h1).elim
   obtain⟨S',r1,r2⟩:=key
   obtain⟨S'',q1,q2,q3,q4⟩:=finL_sim xs us r1.chg.mem r1.frz (by simpa using hl) (fun j x' u' hj hu=>r1.chg.av _ _ (hx (j+1) x' u' (by simpa using hj) (by simpa using hu))) h3
   refine⟨S'',by rw[writes_append];exact r1.trans q1,by simp[q2],by simp[q3],fun j r o u' hj ho hu=> ?_⟩
   rw[writes_append]
   cases j with
   | zero =>
     simp at hj ho hu
     subst hj;subst ho;subst hu
     exact r2.chg q1.chg
   |succ j=>exact q4 j r o u' (by simpa using hj) (by simpa using ho) (by simpa using hu)
theorem fin_sim (M : Mem κ φ S H n w) (h0 : ∀ l, Lab.pool l = false → κ.φ0 l = none) {xs : List (AV × Bool)} {us : List Value} (hlen : us.length = xs.length) (hx : ∀ (j : Nat) (x : AV × Bool) (u : Value), xs[j]? = some x → us[j]? = some u → RepA φ H w S x.1 u)
  {rs:List RC} {ws:List (Lab×Obj)} {os:List (Option Lab)} {acc:List Lab} {h':Heap} (hr:(finL xs).run H=some ((rs,ws,os),acc)) (hown:okOwn os (ws.map (·.1))=true)
  (hh':∀l,Lab.pool l=true→h' l=writes H ws l) (hn':∀l,Lab.pool l=false→h' l=none):
  ∃φ' S',Mem κ φ' S' (resH h' rs) n w∧rs.length=xs.length∧∀(j:Nat) (r:RC) (u:Value),rs[j]?=some r→us[j]?=some u→RepA φ' (resH h' rs) w S' (rcA j r) u:=by
 obtain⟨S1,R,q2,q3,q4⟩:=finL_sim xs us M (Frz.refl _) hlen hx hr
 obtain⟨w1,w2⟩:=okOwn_spec hown
 have M1:=R.chg.mem
 let φ':Inj:=fun lab=>match lab with
  | .res j => match os[j]? with
    |some (some l)=>φ l
    |_=>none
  |lab=>if lab.pool then φ lab else none
 have fp:∀lab,Lab.pool lab=true→φ' lab=φ lab:=fun lab h=>by
  cases lab with
  |obj id=>exact if_pos rfl
  |fld id j=>exact if_pos rfl
  |arg i=>exact if_pos rfl
  |loc d j=>cases h
  |res j=>cases h
 have fr:∀(j:Nat) (l:Lab),os[j]?=some (some l)→φ' (.res j)=φ l:=fun j l h=>by
  show(match os[j]? with|some (some l)=>φ l|_=>none)=_
  rw[h]
 have rp:∀lab,Lab.pool lab=true→resH h' rs lab=writes H ws lab:=fun lab h=>by
  rw[←hh' lab h]
  cases lab<;>first|rfl|cases h
 have hus:∀j r,rs[j]?=some r→∃u,us[j]?=some u:=fun j r h=>by
  have:=(List.getElem?_eq_some_iff.1 h).1
  exact⟨_,List.getElem?_eq_getElem (by omega)⟩
 have hos:∀j r,rs[j]?=some r→∃o,os[j]?=some o:=fun j r h=>by
  have:=(List.getElem?_eq_some_iff.1 h).1
  exact⟨_,List.getElem?_eq_getElem (by omega)⟩
 have hrs:∀(j:Nat) (o:Option Lab),os[j]?=some o→∃r,rs[j]?=some r:=fun j r h=>by
  have:=(List.getElem?_eq_some_iff.1 h).1
  exact⟨_,List.getElem?_eq_getElem (by omega)⟩
 have own:∀(j size:Nat) (es:List T),rs[j]?=some (.own size es)→∃l v,os[j]?=some (some l)∧Lab.pool l=false∧writes H ws l=some (.arr size es v 0)∧H l=some (.arr size es v 0):=fun j size es h=>by
  obtain⟨u,hu⟩:=hus j _ h
  obtain⟨o,ho⟩:=hos j _ h
  have:=q4 j _ o u h ho hu
  cases o with
  |none=>exact this.elim
  | some l =>
    obtain⟨g1,v,g2,_⟩:=this
    exact⟨l,v,ho,g1,by rw[writes_ne (w1 j l ho)];exact g2,g2⟩
 have own':∀(j:Nat) (l:Lab),os[j]?=some (some l)→∃size es v,rs[j]?=some (.own size es)∧Lab.pool l=false∧writes H ws l=some (.arr size es v 0):=fun j l h=>by
  obtain⟨r,hr'⟩:=hrs j _ h
  obtain⟨u,hu⟩:=hus j _ hr'
  have:=q4 j _ _ u hr' h hu
  cases r with
  |t t=>exact this.elim
  | own size es =>
    obtain⟨g1,v,g2,_⟩:=this
    exact⟨size,es,v,hr',g1,by rw[writes_ne (w1 j l h)];exact g2⟩
 have some' : ∀ lab b, φ' lab = some b → (Lab.pool lab = true ∧ φ lab = some b) ∨ ∃ j l, lab = .res j ∧ os[j]? = some (some l) ∧ φ l = some b := fun lab b h => by
  cases hp:Lab.pool lab with
  |true=>exact .inl ⟨rfl,(fp lab hp)▸h⟩
  | false =>
    cases lab with
    | res j =>
      have h:(match os[j]? with|some (some l)=>φ l|_=>none)=some b:=h
      split at h
      ·rename_i l ho;exact .inr ⟨j,l,rfl,ho,h⟩
      ·cases h
    |obj id=>cases hp
    |fld id j=>cases hp
    |arg i=>cases hp
    |loc d j=>cases h
 have tv:∀t v,RepT φ.objs w S1 t v→RepT φ'.objs w S1 t v:=fun t v h=>h.mono (fun id b e=>by show φ' (.obj id)=_;rw[fp (.obj id) rfl];exact e) (fun _ h=>h) fun _ _ _ h=>h
 have objR:∀(j size:Nat) (es:List T),rs[j]?=some (.own size es)→ObjRep φ' (resH h' rs) w S1 (.res j) (.arr size es 0 0):=fun j size es h=>by
  obtain⟨l,v,g1,g2,g3,_⟩:=own j size es h
  obtain⟨o1,o2,o3,o4,o5,o6⟩:=M1.objs l _ g3
  refine⟨o1,o2,o3,Nat.zero_le _,fun e=>o5 (by rw[←fr j l g1];exact e),fun b hb=> ?_⟩
  rw[fr j l g1]at hb
  obtain⟨cs,ty,k1,k2,k3,k4⟩:=o6 b hb
  exact⟨cs,ty,k1,k2,fun i k e c he hc=>let ⟨u,u1,u2⟩:=k3 i k e c he hc;⟨u,u1,tv _ _ u2⟩,fun i k hi=>absurd hi (Nat.not_lt_zero _)⟩
 refine⟨φ',S1,?_,q2,fun j r u hj hu=> ?_⟩
 ·refine { inj := ?_, dom := ?_, lt := ?_, objs := ?_, stab := ?_, slt := M1.slt, nx := fun id hid => (rp (.obj id) rfl).trans (M1.nx id hid),
           sub:=M1.sub,sup:=M1.sup,grow:=M1.grow,os:=M1.os,tape:=M1.tape,output:=M1.output,keep:=M1.keep,keepS:=M1.keepS,old:= ?_,loc0:=M1.loc0,fldk:=M1.fldk.same fun l hl=>⟨rp l (by cases l<;>first|rfl|cases hl),fp l (by cases l<;>first|rfl|cases hl)⟩,objk:=fun lab b hf h=>by rw[fp lab (by cases lab<;>first|rfl|cases hf)];exact M1.objk lab b hf h}
  ·intro l1 l2 b e1 e2
   rcases some' _ _ e1 with ⟨p1,f1⟩|⟨j1,k1,rfl,g1,f1⟩<;>rcases some' _ _ e2 with ⟨p2,f2⟩|⟨j2,k2,rfl,g2,f2⟩
   ·exact M1.inj _ _ _ f1 f2
   ·have:=M1.inj _ _ _ f1 f2
    obtain⟨_,_,_,_,hp,_⟩:=own' j2 k2 g2
    rw[this,hp]at p1;cases p1
   ·have:=M1.inj _ _ _ f1 f2
    obtain⟨_,_,_,_,hp,_⟩:=own' j1 k1 g1
    rw[←this,hp]at p2;cases p2
   ·have:=M1.inj _ _ _ f1 f2
    subst this
    rw[w2 j1 j2 k1 g1 g2]
  ·intro lab h
   cases hp:Lab.pool lab with
   |true=>rw[fp lab hp];exact M1.dom lab (by rw[←rp lab hp];exact h)
   | false =>
     cases lab with
     | res j =>
       show(match os[j]? with|some (some l)=>φ l|_=>none)=none
       split
       ·rename_i l ho
        obtain⟨size,es,v,hr',_⟩:=own' j l ho
        rw[resH_own hr']at h;cases h
       ·rfl
     |obj id=>cases hp
     |fld id j=>cases hp
     |arg i=>cases hp
     |loc d j=>rfl
  ·intro lab b h
   rcases some' _ _ h with ⟨_,f1⟩|⟨j1,k1,rfl,g1,f1⟩
   ·exact M1.lt _ _ f1
   ·exact M1.lt _ _ f1
  ·intro lab o h
   cases hp:Lab.pool lab with
   | true =>
     rw[rp lab hp]at h
     exact(M1.objs lab o h).poolO hp fun l hl=>⟨fp l hl,rp l hl⟩
   | false =>
     cases lab with
     | res j =>
       simp only[resH]at h
       split at h
       ·rename_i size es hr'
        cases h
        exact objR j size es hr'
       ·cases h
     |obj=>cases hp
     |fld=>cases hp
     |arg=>cases hp
     |loc d j=>exact absurd ((hn' (.loc d j) rfl).symm.trans h) (by simp)
  ·rintro ad ha ⟨lab,o,e1,e2,e3⟩
   rcases some' _ _ e2 with ⟨p1,f1⟩|⟨j1,k1,rfl,g1,f1⟩
   ·rw[rp lab p1]at e1
    exact M1.stab ad ha ⟨lab,o,e1,f1,e3⟩
   ·obtain⟨size,es,v,hr',hp,hw⟩:=own' j1 k1 g1
    rw[resH_own hr']at e1
    cases e1
    exact M1.stab ad ha ⟨k1,_,hw,f1,e3⟩
  ·intro lab b h hlt
   rcases some' _ _ h with ⟨p1,f1⟩|⟨j1,k1,rfl,g1,f1⟩
   ·exact M1.old _ _ f1 hlt
   ·obtain⟨size,es,v,hr',hp,hw⟩:=own' j1 k1 g1
    have:=M1.old _ _ f1 hlt
    rw[h0 k1 hp]at this;cases this
 ·cases r with
  | t t =>
    obtain⟨o,ho⟩:=hos j _ hj
    have:=q4 j _ o u hj ho hu
    cases o with
    |none=>exact .t _ _ (tv _ _ this)
    |some l=>exact this.elim
  | own size es =>
    obtain⟨l,v,g1,g2,g3,g4⟩:=own j size es hj
    have:=q4 j _ _ u hj g1 hu
    obtain⟨_,v',e1,e2⟩:=this
    rw[g4]at e1
    cases e1
    cases e2 with
    | sl _ _ _ _ _ o ho hv hh =>
      rw[g3]at ho
      cases ho
      refine .sl _ _ _ _ _ (.arr size es 0 0) (resH_own hj) hv fun size' es' v'' frz' e=> ?_
      cases e
      refine⟨Nat.le_refl _,fun _=> ?_⟩
      have:=(hh _ _ _ _ rfl).2 rfl
      unfold Hdr at this⊢
      rw[fr j l g1];exact this
end
def argL (k:Nat):List T→List (Nat×AV)
 |[]=>[]
 |t::r=>(k,.t t)::argL (k+1) r
def FinOk (xs:List (AV×Bool)) (H:Heap) (rs:List RC) (h':Heap):Prop:=
 ∃ws os acc,(finL xs).run H=some ((rs,ws,os),acc)∧okOwn os (ws.map (·.1))=true∧∀l,Lab.pool l=true→h' l=writes H ws l
def endF (rt:List Nat) (rs:List RC) (h':Heap) (m':Nat):Exit→St→Prop:=fun e s=>
 (e=.normal∨e=.ret)∧(∃fl:List Bool,fl.length=rt.length∧FinOk ((rt.map s.f).zip fl) s.h rs h')∧s.nxt=m'
def resV:List Value→Value
 |[v]=>v
 |vs=>.tuple vs.toArray
theorem results_run (P:Program) {fn:Func} {rt:List Nat} (hres:fn.results=(rt.map ResultVar.tmp).toArray) (tmps:Array Value) (w:World):(results fn tmps).run P w=.ok (resV (rt.map fun t=>tmps.getD t undef)) w:=by
 have key:∀(f:ResultVar→Sem Value) (_:∀t,f (.tmp t)=pure (tmps.getD t undef)) (l:List Nat),((l.map ResultVar.tmp).mapM f).run P w=.ok (l.map fun t=>tmps.getD t undef) w:=by
  intro f hf l
  induction l with
  |nil=>simp
  |cons x r ih=>simp[hf]at ih;simp[hf,ih]
 unfold results
 rw[hres,List.mapM_toArray]
 simp only[map_eq_pure_bind,bind_assoc,pure_bind,Sem.run_bind]
 rw[key _ (fun t=>rfl) rt]
 match rt with
 |[]=>rfl
 |[x]=>rfl
 |x::y::r=>simp[resV]
section
variable {P:Program} {g:FuncId} {fn:Func} {c:Code} {ts:List T} {h h':Heap} {m m':Nat} {rs:List RC}
def argA (k:Nat):List AV→List (Nat×AV)
 |[]=>[]
 |a::r=>(k,a)::argA (k+1) r
theorem argA_map:∀(ts:List T) (k:Nat),argA k (ts.map .t)=argL k ts
 |[],_=>rfl
 |t::r,k=>by simp[argA,argL,argA_map r]
theorem argA_get:∀(as:List AV) (k i:Nat),ofL (argA k as) i=if k≤i then (as[i-k]?).getD .und else .und
 |[],k,i=>by simp[argA,ofL]
 | a :: r, k, i => by
   rw[argA,ofL]
   by_cases e:i=k
   ·subst e;rw[upd_same];simp
   ·rw[upd_ne _ _ _ _ e,argA_get r (k+1) i]
    by_cases h:k≤i
    ·rw[if_pos h,if_pos (by omega),show i-k=(i-(k+1))+1 by omega,List.getElem?_cons_succ]
    ·rw[if_neg h,if_neg (by omega)]
theorem RetA.intro {as:List AV} (hf:P.funcs[g]?=some fn) (hb:fn.body=some c) {rt:List Nat} (hres:fn.results=(rt.map ResultVar.tmp).toArray) (hts:as.length≤fn.ntmps) (hok:okC fn.ntmps c=true) {sites:Sites}
  (hn':∀l,Lab.pool l=false→h' l=none) (hbox:Keeps h h')
  (hg:Goes ⟨P,fn.ntmps,sites⟩ (endF rt rs h' m') [.code c] .normal ⟨ofL (argA 0 as),h,m⟩):RetA P g as h m rs h' m':=by
 refine⟨hn',hbox,fun φ0 S0 w0 vs hh M hlen hvs=> ?_⟩
 refine calls_of_wp hf hb ?_
 have hc:Conc ⟨w0,φ0,S0,h⟩ fn.ntmps ⟨ofL (argA 0 as),h,m⟩ {tmps:=vs.toArray++Array.replicate (fn.ntmps-vs.toArray.size) undef,defers:=[]} w0:=by
  refine⟨rfl,by simp;omega,φ0,S0,M,fun t=> ?_⟩
  show RepA φ0 h w0 S0 (ofL (argA 0 as) t) _
  rw[argA_get,if_pos (Nat.zero_le _),Nat.sub_zero]
  cases ht:as[t]? with
  |none=>exact .und _
  | some x =>
    have hlt:=(List.getElem?_eq_some_iff.1 ht).1
    have hv:vs[t]?=some (vs[t]'(by omega)):=List.getElem?_eq_getElem _
    have:((vs.toArray++Array.replicate (fn.ntmps-vs.toArray.size) undef).getD t undef)=vs[t]'(by omega):=by
     simp[Array.getElem?_append,hlt,hlen]
    rw[this]
    exact hvs t x _ ht hv
 refine wp_mono (hg (okK_code.2 ⟨hok,rfl⟩) _ _ _ hc) ?_
 rintro e a w ⟨s,⟨he,⟨fl,hfl,ws,os,acc,h1,h2,h3⟩,hnx⟩,hd,hs,φ,S,M',hsl⟩
 have hx:∀(j:Nat) (x:AV×Bool) (u:Value),((rt.map s.f).zip fl)[j]?=some x→(rt.map fun t=>a.tmps.getD t undef)[j]?=some u→RepA φ s.h w S x.1 u:=by
  intro j x u hj hu
  rw[List.getElem?_zip_eq_some]at hj
  obtain⟨hj,_⟩:=hj
  rw[List.getElem?_map,Option.map_eq_some_iff]at hj hu
  obtain⟨t,ht,e1⟩:=hj
  obtain⟨t',ht',rfl⟩:=hu
  rw[ht]at ht'
  cases ht'
  rw[←e1]
  exact hsl t
 obtain⟨φ',S',M2,q1,q2⟩:=fin_sim (κ:=⟨w0,φ0,S0,h⟩) M' (fun l hl=>M.dom l (hh l hl)) (us:=rt.map fun t=>a.tmps.getD t undef) (by simp[hfl]) hx h1 h2 h3 hn'
 rw[hnx]at M2
 have q1:rs.length=rt.length:=by rw[q1];simp[hfl]
 have hv:RepA φ' (resH h' rs) w S' (rsA rs) (resV (rt.map fun t=>a.tmps.getD t undef)):=by
  have tup:RepA φ' (resH h' rs) w S' (.tup (rsAs 0 rs)) (.tuple (rt.map fun t=>a.tmps.getD t undef).toArray):=by
   refine .tup _ _ (by simp[rsAs_length,q1]) fun j x v hj hv=> ?_
   rw[rsAs_get,Option.map_eq_some_iff]at hj
   obtain⟨r,hr,rfl⟩:=hj
   rw[Nat.zero_add]
   exact q2 j r v hr (by simpa using hv)
  match rs,rt,q1,q2,tup with
  |[],[],_,_,tup=>exact tup
  |[r],[t],_,q2,_=>exact q2 0 r _ rfl rfl
  |r::r'::rs',t::t'::rt',_,_,tup=>exact tup
 have main:bodyPost P fn (fun e w'=>∃v φ' S',e=.returned v∧Mem ⟨w0,φ0,S0,h⟩ φ' S' (resH h' rs) m' w'∧RepA φ' (resH h' rs) w' S' (rsA rs) v) .normal a w:=
  ⟨hd,_,results_run P hres a.tmps w,_,φ',S',rfl,M2,hv⟩
 rcases he with rfl|rfl
 ·exact main
 ·exact main
theorem Ret.intro (hf:P.funcs[g]?=some fn) (hb:fn.body=some c) {rt:List Nat} (hres:fn.results=(rt.map ResultVar.tmp).toArray) (hts:ts.length≤fn.ntmps) (hok:okC fn.ntmps c=true) {sites:Sites}
  (hn':∀l,Lab.pool l=false→h' l=none) (hbox:Keeps h h')
  (hg:Goes ⟨P,fn.ntmps,sites⟩ (endF rt rs h' m') [.code c] .normal ⟨ofL (argL 0 ts),h,m⟩):Ret P g ts h m rs h' m':=
 RetA.intro hf hb hres (by simpa using hts) hok hn' hbox (by rw[argA_map];exact hg)
theorem Pure.intro (hf:P.funcs[g]?=some fn) (hb:fn.body=some c) {rt:List Nat} (hres:fn.results=(rt.map ResultVar.tmp).toArray) (hts:ts.length≤fn.ntmps) (hok:okC fn.ntmps c=true) {sites:Sites}
  (hg:Goes ⟨P,fn.ntmps,sites⟩ (endF rt rs (fun _=>none) 0) [.code c] .normal ⟨ofL (argL 0 ts),fun _=>none,0⟩):Pure P g ts rs:=
 Ret.intro hf hb hres hts hok (fun _ _=>rfl) (Keeps.none _) hg
end
def T.isAgg:T→Bool|.agg _=>true|_=>false
@[congr] theorem Goes_congr {E:Env} {F:Exit→St→Prop} {k:List Kont} {e:Exit} {s s':St} (h:s=s'):Goes E F k e s=Goes E F k e s':=by rw[h]
@[congr] theorem run_congr {E:Env} {F:Exit→St→Prop} {m:Nat} {k:List Kont} {e:Exit} {s s':St} (h:s=s'):run E F m k e s=run E F m k e s':=by rw[h]
section
variable {E:Env} {F:Exit→St→Prop} {m:Nat} {k:List Kont} {s:St}
theorem selP_true {p q:HP}:@selP true p q=p.p:=by simp[selP]
theorem selP_false {p q:HP}:@selP false p q=q.p:=by simp[selP]
theorem selP_dec {c:Prop} [Decidable c] {p q:HP} (h1:c→p.p) (h2:¬c→q.p):@selP (decide c) p q:=⟨fun h=>h1 (by simpa using h),fun h=>h2 (by simpa using h)⟩
theorem selP_bool {b:Bool} {p q:HP} (h1:b=true→p.p) (h2:b=false→q.p):@selP b p q:=⟨h1,h2⟩
theorem gK_free {p:HP} {a1 a2:HA} {no:HN}:@gK .free p a1 a2 no=p.p:=rfl
theorem gK_no {p:HP} {a1 a2:HA} {no:HN} {d:Nat}:@gK (.no d) p a1 a2 no=no.n d:=rfl
theorem gK_t {p:HP} {a1 a2:HA} {no:HN} {d:Nat} {b:Bool}:@gK (.ask d b true) p a1 a2 no=a1.a d b:=rfl
theorem gK_f {p:HP} {a1 a2:HA} {no:HN} {d:Nat} {b:Bool}:@gK (.ask d b false) p a1 a2 no=a2.a d b:=rfl
theorem bK_some {k:HB} {b:Bool}:@bK (some b) k=k.b b:=rfl
theorem outK_call {kc:HC} {kd:HD} {g:FuncId} {xs:List AV} {ts:List T} {ws:List (Lab×Obj)}:@outK (.call g xs ts ws) kc kd=kc.c g xs ts ws:=rfl
theorem outK_dl {kc:HC} {kd:HD} {y:Dl}:@outK (.dl y) kc kd=kd.d y:=rfl
theorem run_seq {a b:Code}:run E F (m+1) (.code (.seq a b)::k) .normal s=run E F m (.code a::.code b::k) .normal s:=rfl
theorem run_region {id:Nat} {ops:Array Oper}:run E F (m+1) (.code (.region id ops false)::k) .normal s=run E F m (.ops ops ops.toList::k) .normal s:=rfl
theorem run_block {id:Nat} {b:Code}:run E F (m+1) (.code (.block id b)::k) .normal s=run E F m (.code b::.blk id::k) .normal s:=rfl
theorem run_scope {b:Code}:run E F (m+1) (.code (.scope b)::k) .normal s=run E F m (.code b::.sc::k) .normal s:=rfl
theorem run_skip:run E F (m+1) (.code .skip::k) .normal s=run E F m k .normal s:=rfl
theorem run_label {l:Nat}:run E F (m+1) (.code (.label l)::k) .normal s=run E F m k .normal s:=rfl
theorem run_ret:run E F (m+1) (.code .ret::k) .normal s=run E F m k .ret s:=rfl
theorem run_exit {id:Nat}:run E F (m+1) (.code (.exit id)::k) .normal s=run E F m k (.exit id) s:=rfl
theorem run_loop {b:Code}:run E F (m+1) (.code (.loop b)::k) .normal s=Goes E F (.code (.loop b)::k) .normal s:=rfl
theorem run_draw {id:Nat} {ops:Array Oper}:run E F (m+1) (.code (.region id ops true)::k) .normal s=Goes E F (.code (.region id ops true)::k) .normal s:=rfl
theorem run_cond {c:Operand} {x y:Code}:run E F (m+1) (.code (.cond c x y)::k) .normal s=@bK (boolOf (evA s.f c)) ⟨fun b=> @selP b ⟨run E F m (.code x::k) .normal s⟩ ⟨run E F m (.code y::k) .normal s⟩⟩:=rfl
theorem run_nil {e:Exit}:run E F (m+1) [] e s=F e s:=rfl
theorem run_ops {all:Array Oper}:run E F (m+1) (.ops all []::k) .normal s=run E F m k .normal s:=rfl
theorem run_op {all:Array Oper} {o:Oper} {r:List Oper}:run E F (m+1) (.ops all (o::r)::k) .normal s=@gK (guardOut all o s)
     ⟨@outK (opOut E o s) ⟨fun g xs ts ws=>CallG E F g xs ts ws o.dst (.ops all r::k) s⟩ ⟨fun y=>run E F m (.ops all r::k) .normal (s.app o.dst y)⟩⟩
     ⟨fun d b=> @selP b ⟨@outK (opOut E o (s.lit d true)) ⟨fun g xs ts ws=>CallG E F g xs ts ws o.dst (.ops all r::k) (s.lit d true)⟩ ⟨fun y=>run E F m (.ops all r::k) .normal ((s.lit d true).app o.dst y)⟩⟩ ⟨run E F m (.ops all r::k) .normal ((s.lit d false).put o.dst (.tup []))⟩⟩
     ⟨fun d b=> @selP b ⟨run E F m (.ops all r::k) .normal ((s.lit d true).put o.dst (.tup []))⟩ ⟨@outK (opOut E o (s.lit d false)) ⟨fun g xs ts ws=>CallG E F g xs ts ws o.dst (.ops all r::k) (s.lit d false)⟩ ⟨fun y=>run E F m (.ops all r::k) .normal ((s.lit d false).app o.dst y)⟩⟩⟩
     ⟨fun _=>run E F m (.ops all r::k) .normal (s.put o.dst (.tup []))⟩:=rfl
theorem run_back {J:St→Prop}:run E F (m+1) (.back J::k) .normal s=J s:=rfl
theorem run_blk_n {id:Nat}:run E F (m+1) (.blk id::k) .normal s=run E F m k .normal s:=rfl
theorem run_blk_e {id id':Nat}:run E F (m+1) (.blk id::k) (.exit id') s=if id'=id then run E F m k .normal s else run E F m k (.exit id') s:=rfl
theorem run_blk_r {id:Nat}:run E F (m+1) (.blk id::k) .ret s=run E F m k .ret s:=rfl
theorem run_sc_e {id:Nat}:run E F (m+1) (.sc::k) (.exit id) s=run E F m k (.exit id) s:=rfl
theorem run_sc_r:run E F (m+1) (.sc::k) .ret s=run E F m k .ret s:=rfl
theorem run_code_e {c:Code} {id:Nat}:run E F (m+1) (.code c::k) (.exit id) s=run E F m k (.exit id) s:=rfl
theorem run_code_r {c:Code}:run E F (m+1) (.code c::k) .ret s=run E F m k .ret s:=rfl
theorem run_back_e {J:St→Prop} {id:Nat}:run E F (m+1) (.back J::k) (.exit id) s=run E F m k (.exit id) s:=rfl
theorem run_back_r {J:St→Prop}:run E F (m+1) (.back J::k) .ret s=run E F m k .ret s:=rfl
end
theorem endF.mk {rt:List Nat} {rs:List RC} {h':Heap} {m':Nat} {e:Exit} {s:St} {ws:List (Lab×Obj)} {os:List (Option Lab)} {acc:List Lab} (fl:List Bool) (he:e=.normal∨e=.ret) (hfl:fl.length=rt.length)
  (hrun:(finL ((rt.map s.f).zip fl)).run s.h=some ((rs,ws,os),acc)) (hown:okOwn os (ws.map (·.1))=true) (hh:∀l,Lab.pool l=true→h' l=writes s.h ws l) (hn:s.nxt=m'):endF rt rs h' m' e s:=
 ⟨he,⟨fl,hfl,ws,os,acc,hrun,hown,hh⟩,hn⟩
theorem endF.one {t:Nat} {x:T} {m':Nat} {e:Exit} {s:St} (he:e=.normal∨e=.ret) (hx:s.f t=.t x) (hs:x.isAgg=false) (hh:∀l,Lab.pool l=true→s.h l=none) (hn:s.nxt=m'):endF [t] [.t x] (fun _=>none) m' e s:=by
 refine endF.mk (ws:=[]) (os:=[none]) (acc:=[]) [false] he rfl ?_ rfl (fun l hl=>(hh l hl).symm) hn
 have:finL (([t].map s.f).zip [false])=finL [(.t x,false)]:=by rw[List.map_cons,hx];rfl
 rw[this]
 cases x<;>first|rfl|cases hs
theorem cells_int (k:IntKind) (n:Int):T.cells (.int k n)=[.int k n]:=rfl
theorem cells_bool (b:Bool):T.cells (.bool b)=[.bool b]:=rfl
theorem cells_slice (es:List T):T.cells (.slice es)=[.slice es]:=rfl
theorem cells_agg (cs:List T):T.cells (.agg cs)=cs:=rfl
theorem natLt0 (n:Nat):((n:Int)<0)=False:=by simp
theorem le0nat (n:Nat):((0:Int)≤n)=True:=by simp
attribute [go_sem] List.getElem?_toArray Option.bind_some Option.bind_none gK_free gK_no gK_t gK_f bK_some boolOf outK_call outK_dl List.getElem?_cons_zero List.getElem?_cons_succ List.getElem?_nil refsIn refsInL finL fin1 okOwn selP_true selP_false run_seq run_region run_block run_scope run_skip run_label run_ret run_exit run_loop run_draw run_cond run_nil run_ops run_op run_back run_blk_n run_blk_e run_blk_r run_sc_e run_sc_r run_code_e run_code_r run_back_e run_back_r guardOut opOut isCall capA capL stepR evA constAV const1 argL ofL ofH Rd.run Rd.bind Rd.ofOpt St.app St.put St.lit upd writes lenA binB aggB intsK binA intBin shiftA strBin nilBin valR selA indexAddrA intOf cutT cutA loadA TI.isAgg cells_int cells_bool cells_slice cells_agg toCell plainL true_or false_or storeA fresh freshB siteB zeroT zerosT zero1 elemsOf appendA sliceA sliceT boxA buildA fillA convA i64T reify1 reifyL reify reifyE cellsA okPart isAggA isTupA setCells scalB natLt0 le0nat Int.toNat_natCast Int.ofNat_lt Int.ofNat_le List.getElem?_map Option.map_some List.toList_toArray List.length_map reduceIte
def tmpsOf (o:Oper):List Nat:=o.op.operands.toList.filterMap fun|.tmp t=>some t|_=>none
theorem stepR_congr {ty:TypeId→TI} {pool:Sites} {n:Nat} {ρ ρ':Operand→AV} (o:Oper) (h:∀x∈o.op.operands,ρ x=ρ' x):stepR ty pool n ρ o=stepR ty pool n ρ' o:=by
 obtain⟨dst,op,type,pos,after,guard⟩:=o
 cases op<;>simp only[Op.operands]at h<;>try simp only[stepR]
 case move x=>rw[h x (by simp)]
 case assign x=>rw[h x (by simp)]
 case pick c a b=>rw[h c (by simp),h a (by simp),h b (by simp)]
 case binOp op t x y yt=>rw[h x (by simp),h y (by simp)]
 case unOp u t x=>cases u<;>simp only[h x (by simp)]
 case nilCheck x=>rw[h x (by simp)]
 case fieldAddr st x i=>simp only[h x (by simp)]
 case field st x i=>simp only[h x (by simp)]
 case indexAddr t x i=>simp only[h x (by simp),h i (by simp)]
 case index t x i=>simp only[h x (by simp),h i (by simp)]
 case load t x=>rw[h x (by simp)]
 case store t p x=>rw[h p (by simp),h x (by simp)]
 case slice t x lo hi mx=>
  have e1:lo.map ρ=lo.map ρ':=by cases lo with|none=>rfl|some v=>simp[h v (by simp)]
  have e2:hi.map ρ=hi.map ρ':=by cases hi with|none=>rfl|some v=>simp[h v (by simp)]
  have e3:mx.map ρ=mx.map ρ':=by cases mx with|none=>rfl|some v=>simp[h v (by simp)]
  rw[h x (by simp),e1,e2,e3]
 case makeSlice t n c=>simp only[h n (by simp),h c (by simp)]
 case buildSlice t n ps=>
  have e:(ps.toList.map fun p=>ρ p.2)=ps.toList.map fun p=>ρ' p.2:=List.map_congr_left fun p hp=>h p.2 (by simp;exact⟨p.1,by simpa using hp⟩)
  rw[e]
 case build t ps=>
  have e:(ps.toList.map fun p=>(p.1,ρ p.2))=ps.toList.map fun p=>(p.1,ρ' p.2):=List.map_congr_left fun p hp=>by rw[h p.2 (by simp;exact⟨p.1,by simpa using hp⟩)]
  rw[e]
 case box t x=>rw[h x (by simp)]
 case convert s d x=>rw[h x (by simp)]
 case makeFunc fn first caps=>
  cases fn with
  | func g =>
    have e:caps.toList.map ρ=caps.toList.map ρ':=List.map_congr_left fun x hx=>h x (by simp;exact .inr (by simpa using hx))
    simp only[e]
  |_=>rfl
 case makeMap t r=>cases r<;>rfl
 case mapUpdate t m k x=>simp only[stepR,h m (by simp),h k (by simp),h x (by simp)]
 case lookup t m k c=>cases c<;>simp only[stepR,h m (by simp),h k (by simp)]
 case extract x i=>rw[h x (by simp)]
 case call c=>
  obtain⟨callee,xs,ts⟩:=c
  cases callee with
  | builtin b =>
    have hx:∀x∈xs.toList,ρ x=ρ' x:=fun x hx=>h x (by simp[Call.operands];simpa using hx)
    have e:xs.toList.map ρ=xs.toList.map ρ':=List.map_congr_left hx
    cases b<;>simp only[e]
    all_goals
     generalize xs.toList=l at hx⊢
     generalize ts.toList=q
     rcases l with _|⟨x,_|⟨y,_|⟨z,r⟩⟩⟩<;>rcases q with _|⟨t,_|⟨t',_|⟨u,v⟩⟩⟩<;>first|rfl|simp only[hx x (by simp),hx y (by simp)]|simp only[hx x (by simp)]
  |_=>rfl
structure Foot where
 d:Option Nat
 T:List Nat
 L:List Lab
 W:List Lab
 pool:Bool
 cl:Bool
 deriving Inhabited
structure It where
 o:Oper
 e:Dl
 f:Foot
def notBox:Obj→Bool
 |.box cs=>cleanL cs
 |_=>true
theorem notBox_kill {o:Obj} (h:notBox o=true):killO o=o:=by
 cases o with
 | box cs =>
   have h:=(cleanL_iff cs).1 h
   show Obj.box (cs.map killP)=.box cs
   refine congrArg Obj.box ?_
   refine(List.map_congr_left fun c hc=> ?_).trans (List.map_id cs)
   unfold killP
   rw[if_pos (h c hc)];rfl
 |_=>rfl
def Calm (s:St):Prop:=(∀t,cleanA (s.f t)=true)∧∀l o,s.h l=some o→Lab.pool l=true∨notBox o=true
def calmD (y:Dl):Bool:=cleanA y.v&&y.w.all fun q=>Lab.pool q.1||notBox q.2
def StepOk (E:Env) (all:Array Oper) (o:Oper) (s:St) (e:Dl):Prop:=
 ∀κ a w,Conc κ E.n s a w→∀(K:Act→World→Prop) (Q:Exit→Act→World→Prop),(∀a' w',Conc κ E.n (s.app o.dst e) a' w'→K a' w')→
  if Region.wanted o (yielded all a.tmps)=true then o.wp E.P a w K Q else K (a.put o.dst undef) w
def Loc (E:Env) (all:Array Oper) (it:It) (s:St):Prop:=
 ∀s':St,(∀t∈it.f.T,s'.f t=s.f t)→(∀l∈it.f.L,s'.h l=s.h l)→(it.f.pool=true→∀l,Lab.pool l=true→s'.h l=s.h l)→(it.f.pool=true→s'.nxt=s.nxt)→(it.f.pool=true→Calm s')→StepOk E all it.o s' it.e
structure It.Ok (n:Nat) (it:It):Prop where
 d:it.f.d=it.o.dst
 nx:it.e.nx=0∨it.f.pool=true∧∃l∈it.f.W,Lab.pool l=true
 w:∀q∈it.e.w,q.1∈it.f.W
 dst:okO n it.o=true
 cl:it.f.cl=true→calmD it.e=true
def foldSt (s:St) (xs:List It):St:=xs.foldl (fun s it=>s.app it.o.dst it.e) s
def gv {α:Type} (g:It→α→α):List It→α→α
 |[],v=>v
 |it::r,v=>gv g r (g it v)
def selL (L:Nat→Bool):Nat→List It→List It
 |_,[]=>[]
 |b,it::r=>if L b=true then it::selL L (b+1) r else selL L (b+1) r
theorem gv_sel {α:Type} (g:It→α→α) (touch:It→Prop) (hg:∀it v,¬touch it→g it v=v):∀(its:List It) (L L':Nat→Bool) (b:Nat) (v:α),
  (∀(k:Nat) (it:It),its[k]?=some it→touch it→L (b+k)=L' (b+k))→gv g (selL L b its) v=gv g (selL L' b its) v
 |[],_,_,_,_,_=>rfl
 | it :: r, L, L', b, v, h => by
   have ih:∀v,gv g (selL L (b+1) r) v=gv g (selL L' (b+1) r) v:=fun v=>gv_sel g touch hg r L L' (b+1) v fun k it hk ht=>by
    have:=h (k+1) it (by simpa using hk) ht
    rwa [show b+(k+1)=b+1+k by omega]at this
   by_cases ht:touch it
   ·have:=h 0 it rfl ht
    rw[Nat.add_zero]at this
    simp only[selL,this]
    by_cases e:L' b=true
    ·rw[if_pos e,if_pos e];exact ih _
    ·rw[if_neg e,if_neg e];exact ih _
   ·have hv:=hg it v ht
    simp only[selL]
    by_cases e:L b=true<;>by_cases e':L' b=true
    ·rw[if_pos e,if_pos e'];exact ih _
    ·rw[if_pos e,if_neg e'];simp only[gv,hv];exact ih _
    ·rw[if_neg e,if_pos e'];simp only[gv,hv];exact ih _
    ·rw[if_neg e,if_neg e'];exact ih _
theorem gv_last {α:Type} (g:It→α→α) (touch:It→Prop) (hg:∀it v,¬touch it→g it v=v):∀(its:List It) (L L':Nat→Bool) (b i:Nat) (v:α) (it:It),its[i]?=some it→L (b+i)=true→L' (b+i)=false→
  (∀k,k≠b+i→L k=L' k)→(∀(k:Nat) (it':It),i<k→its[k]?=some it'→touch it'→L (b+k)=false)→gv g (selL L b its) v=g it (gv g (selL L' b its) v)
 |[],_,_,_,_,_,_,h,_,_,_,_=>by simp at h
 | x :: r, L, L', b, 0, v, it, h, h1, h2, h3, h4 => by
   simp at h
   subst h
   simp only[Nat.add_zero]at h1 h2
   simp only[selL,h1,h2,if_true,Bool.false_eq_true,if_false,gv]
   have e1:∀v,gv g (selL L (b+1) r) v=v:=fun v=>by
    rw[gv_sel g touch hg r L (fun _=>false) (b+1) v fun k it hk ht=>by
      have:=h4 (k+1) it (by omega) (by simpa using hk) ht
      rwa [show b+(k+1)=b+1+k by omega]at this]
    have:∀(r:List It) (b:Nat),selL (fun _=>false) b r=[]:=fun r=>by
     induction r with
     |nil=>intro b;rfl
     |cons y r ih=>intro b;simp only[selL,Bool.false_eq_true,if_false];exact ih _
    rw[this];rfl
   have e2:gv g (selL L' (b+1) r) v=v:=by
    exact(gv_sel g touch hg r L' L (b+1) v fun k it _ _=>(h3 _ (by omega)).symm).trans (e1 v)
   rw[e1,e2]
 | x :: r, L, L', b, i + 1, v, it, h, h1, h2, h3, h4 => by
   have hb:L b=L' b:=h3 b (by omega)
   have ih:=fun v=>gv_last g touch hg r L L' (b+1) i v it (by simpa using h) (by rw[show b+1+i=b+(i+1) by omega];exact h1) (by rw[show b+1+i=b+(i+1) by omega];exact h2)
    (fun k hk=>h3 k (by omega)) (fun k it' hk hit ht=>by rw[show b+1+k=b+(k+1) by omega];exact h4 (k+1) it' (by omega) (by simpa using hit) ht)
   simp only[selL,hb]
   by_cases e:L' b=true
   ·rw[if_pos e,if_pos e];exact ih _
   ·rw[if_neg e,if_neg e];exact ih _
def wr (l:Lab):List (Lab×Obj)→Option Obj→Option Obj
 |[],o=>o
 |(l',x)::r,o=>wr l r (if l=l' then some x else o)
theorem writes_wr:∀(ws:List (Lab×Obj)) (h:Heap) (l:Lab),writes h ws l=wr l ws (h l)
 |[],_,_=>rfl
 | (l', x) :: r, h, l => by
   show writes (upd h l' (some x)) r l=_
   rw[writes_wr r]
   simp only[wr,upd]
theorem wr_not:∀(ws:List (Lab×Obj)) (l:Lab) (o:Option Obj),(∀q∈ws,q.1≠l)→wr l ws o=o
 |[],_,_,_=>rfl
 | (l', x) :: r, l, o, h => by
   simp only[wr]
   rw[if_neg (fun e=>h (l',x) (by simp) e.symm)]
   exact wr_not r l o fun q hq=>h q (by simp[hq])
def gF (t:Nat) (it:It) (v:AV):AV:=if it.o.dst=some t then it.e.v else v
def gH (l:Lab) (it:It) (o:Option Obj):Option Obj:=wr l it.e.w o
theorem foldSt_f (t:Nat):∀(xs:List It) (s:St),(foldSt s xs).f t=gv (gF t) xs (s.f t)
 |[],_=>rfl
 | it :: r, s => by
   show(foldSt (s.app it.o.dst it.e) r).f t=_
   rw[foldSt_f t r,St.app_f];rfl
theorem foldSt_h (l:Lab):∀(xs:List It) (s:St),(foldSt s xs).h l=gv (gH l) xs (s.h l)
 |[],_=>rfl
 | it :: r, s => by
   show(foldSt (s.app it.o.dst it.e) r).h l=_
   rw[foldSt_h l r,St.app_h,writes_wr];rfl
def gN (it:It) (v:Nat):Nat:=v+it.e.nx
theorem foldSt_nxt:∀(xs:List It) (s:St),(foldSt s xs).nxt=gv gN xs s.nxt
 |[],_=>rfl
 | it :: r, s => by
   show(foldSt (s.app it.o.dst it.e) r).nxt=_
   rw[foldSt_nxt r,St.app_nxt];rfl
theorem selL_take:∀(its:List It) (i b:Nat),selL (fun k=>decide (k<b+i)) b its=its.take i
 |[],_,_=>by simp[selL]
 | x :: r, 0, b => by
   have:∀(r:List It) (c:Nat),b≤c→selL (fun k=>decide (k<b+0)) c r=[]:=fun r=>by
    induction r with
    |nil=>intro c _;rfl
    |cons y r ih=>intro c hc;simp only[selL];rw[if_neg (by simp;omega)];exact ih _ (by omega)
   rw[this _ _ (Nat.le_refl _)];rfl
 | x :: r, i + 1, b => by
   simp only[selL]
   rw[if_pos (by simp),List.take_succ_cons,←selL_take r i (b+1)]
   rw[show b+(i+1)=b+1+i by omega]
theorem selL_all (its:List It) (L:Nat→Bool):∀b,(∀k,k<its.length→L (b+k)=true)→selL L b its=its:=by
 induction its with
 |nil=>intro b _;rfl
 | cons x r ih =>
   intro b h
   simp only[selL]
   rw[if_pos (by simpa using h 0 (by simp)),ih (b+1) fun k hk=>by rw[show b+1+k=b+(k+1) by omega];exact h (k+1) (by simp;omega)]
theorem selL_mem:∀(its:List It) (L:Nat→Bool) (b:Nat) (it:It),it∈selL L b its→it∈its
 |[],_,_,_,h=>by simp[selL]at h
 | x :: r, L, b, it, h => by
   simp only[selL]at h
   split at h
   ·rcases List.mem_cons.1 h with rfl|h
    ·simp
    ·simp[selL_mem r L (b+1) it h]
   ·simp[selL_mem r L (b+1) it h]
def maskOf (acc:List Nat) (l:List Nat):Nat:=l.foldl (fun m j=>m|||1<<<j|||acc.getD j 0) 0
def edgesOf (o:Oper):List Nat:=(o.after.toList.filter (Region.binds .any)).map (·.on)
def ancGo (acc:List Nat):List Oper→Option (List Nat)
 |[]=>some acc
 |o::r=>if (edgesOf o).all (fun j=>decide (j<acc.length)) then ancGo (acc++[maskOf acc (edgesOf o)]) r else none
theorem mask_bit (acc:List Nat) (k:Nat):∀(l:List Nat) (m:Nat),(l.foldl (fun m j=>m|||1<<<j|||acc.getD j 0) m).testBit k=true→m.testBit k=true∨∃j∈l,k=j∨(acc.getD j 0).testBit k=true
 |[],m,h=>.inl h
 | j :: r, m, h => by
   rcases mask_bit acc k r _ h with h|⟨j',hj,h⟩
   ·simp only[Nat.testBit_or,Bool.or_eq_true]at h
    rcases h with (h|h)|h
    ·exact .inl h
    ·rw[Nat.one_shiftLeft,Nat.testBit_two_pow]at h
     exact .inr ⟨j,by simp,.inl (by simpa using h:j=k).symm⟩
    ·exact .inr ⟨j,by simp,.inr h⟩
   ·exact .inr ⟨j',by simp[hj],h⟩
theorem ancGo_spec:∀(r:List Oper) (acc A:List Nat),ancGo acc r=some A→
  acc<+:A∧∀(i:Nat) (o:Oper),r[i]?=some o→(∀j∈edgesOf o,j<acc.length+i)∧∀k,(A.getD (acc.length+i) 0).testBit k=true→∃j∈edgesOf o,k=j∨(A.getD j 0).testBit k=true
 | [], acc, A, h => by
   simp only[ancGo,Option.some.injEq]at h
   subst h
   exact⟨List.prefix_refl _,fun i o hi=>by simp at hi⟩
 | o :: r, acc, A, h => by
   simp only[ancGo]at h
   split at h
   ·rename_i hall
    have hall:∀j∈edgesOf o,j<acc.length:=by simpa using hall
    obtain⟨h1,h2⟩:=ancGo_spec r _ A h
    have hp:acc<+:A:=(List.prefix_append _ _).trans h1
    refine⟨hp,fun i o' hi=> ?_⟩
    cases i with
    | zero =>
      simp at hi
      subst hi
      refine⟨fun j hj=>hall j hj,fun k hk=> ?_⟩
      have e:A.getD (acc.length+0) 0=maskOf acc (edgesOf o):=by
       obtain⟨t,rfl⟩:=h1
       simp[List.getElem?_append]
      rw[e]at hk
      rcases mask_bit acc k _ _ hk with h|⟨j,hj,h⟩
      ·simp at h
      ·refine⟨j,hj,h.imp id fun hb=> ?_⟩
       obtain⟨t,rfl⟩:=hp
       have:=hall j hj
       simpa [List.getElem?_append,this] using hb
    | succ i =>
      have:=h2 i o' (by simpa using hi)
      rw[List.length_append,List.length_singleton,show acc.length+1+i=acc.length+(i+1) by omega]at this
      exact this
   ·cases h
def free2 (x y:Foot):Bool:=
 (match y.d with|some d=> !x.T.contains d&&(match x.d with|some d'=> !(Nat.beq d' d)|none=>true)|none=>true)&&y.W.all fun l=> !x.L.contains l&& !x.W.contains l&& !(x.pool&&l.pool)
def indepOk (all:Array Oper) (fs:List Foot):Bool:=
 match ancGo [] all.toList with
 |none=>false
 | some A => Nat.beq fs.length all.size && (List.range all.size).all fun i => (List.range all.size).all fun k =>
   Nat.beq i k||(A.getD i 0).testBit k||(A.getD k 0).testBit i||(free2 (fs.getD i default) (fs.getD k default)&&free2 (fs.getD k default) (fs.getD i default))
section
variable {E:Env} {ops:Array Oper} {its:List It} {s0:St}
theorem free2_d {x y:Foot} (h:free2 x y=true) {d:Nat} (hy:y.d=some d):d∉x.T∧x.d≠some d:=by
 simp only[free2,hy,Bool.and_eq_true,Bool.not_eq_true',List.contains_eq_mem,decide_eq_false_iff_not]at h
 obtain⟨⟨h1,h2⟩,_⟩:=h
 refine⟨h1,fun e=> ?_⟩
 rw[e]at h2
 simp at h2
theorem free2_l {x y:Foot} (h:free2 x y=true) {l:Lab} (hl:l∈y.W):l∉x.L∧l∉x.W∧¬(x.pool=true∧Lab.pool l=true):=by
 simp only[free2,Bool.and_eq_true,List.all_eq_true,Bool.not_eq_true',List.contains_eq_mem,decide_eq_false_iff_not]at h
 have:=h.2 l hl
 refine⟨this.1.1,this.1.2,fun e=> ?_⟩
 have h3:=this.2
 rw[e.1,e.2]at h3
 cases h3
theorem Calm.app {s:St} (h:Calm s) {y:Dl} (hy:calmD y=true) (d:Option Tmp):Calm (s.app d y):=by
 simp only[calmD,Bool.and_eq_true,List.all_eq_true,Bool.or_eq_true]at hy
 refine⟨fun t=> ?_,fun l o ho=> ?_⟩
 ·rw[St.app_f]
  split
  ·exact hy.1
  ·exact h.1 t
 ·rw [St.app_h] at ho
  have:∀(ws:List (Lab×Obj)) (H:Heap),(∀l o,H l=some o→Lab.pool l=true∨notBox o=true)→(∀q∈ws,Lab.pool q.1=true∨notBox q.2=true)→∀l o,writes H ws l=some o→Lab.pool l=true∨notBox o=true:=by
   intro ws
   induction ws with
   |nil=>exact fun H hH _=>hH
   | cons q r ih =>
     intro H hH hq
     refine ih (upd H q.1 (some q.2)) (fun l o ho=> ?_) fun x hx=>hq x (by simp[hx])
     by_cases e:l=q.1
     ·subst e;rw[upd_same]at ho;cases ho;exact hq q (by simp)
     ·rw[upd_ne _ _ _ _ e]at ho;exact hH l o ho
  exact this y.w s.h h.2 hy.2 l o ho
theorem Calm.fold:∀(xs:List It) (s:St),Calm s→(∀it∈xs,calmD it.e=true)→Calm (foldSt s xs)
 |[],_,h,_=>h
 |it::r,s,h,h'=>Calm.fold r (s.app it.o.dst it.e) (h.app (h' it (by simp)) _) fun x hx=>h' x (by simp[hx])
theorem St.ext' {s s':St} (h1:∀t,s.f t=s'.f t) (h2:∀l,s.h l=s'.h l) (h3:s.nxt=s'.nxt):s=s':=by
 obtain⟨f,h,n⟩:=s
 obtain⟨f',h',n'⟩:=s'
 have e1:f=f':=funext h1
 have e2:h=h':=funext h2
 subst e1;subst e2;subst h3;rfl
structure Good (E:Env) (ops:Array Oper) (s0:St) (its:List It):Prop where
 same:its.map (·.o)=ops.toList
 ok:∀it∈its,it.Ok E.n
 loc:∀(i:Nat) (it:It),its[i]?=some it→Loc E ops it (foldSt s0 (its.take i))
 ind:indepOk ops (its.map (·.f))=true
 clean:(∃it∈its,it.f.pool=true)→Calm s0∧∀it∈its,it.f.cl=true
theorem any_go (G : Good E ops s0 its) {κ : Kap} {Q : Exit → Act → World → Prop} (hQ : ∀ a w, Conc κ E.n (foldSt s0 its) a w → Q .normal a w) :
  ∀(fuel:Nat) (listed:Array Bool),listed.size=ops.size→listed.toList.count false=fuel→(∀(i:Nat) (o:Oper),ops[i]?=some o→listed.getD i false=true→∀j∈edgesOf o,listed.getD j false=true)→
   ∀a w,Conc κ E.n (foldSt s0 (selL (fun k=>listed.getD k false) 0 its)) a w→wpAny E.P .any ops Q fuel listed a w:=by
 have hops:∀(i:Nat) (it:It),its[i]?=some it→ops[i]?=some it.o:=fun i it h=>by
  have:ops.toList[i]?=some it.o:=by rw[←G.same,List.getElem?_map,h];rfl
  simpa using this
 have hlen:its.length=ops.size:=by
  have:=congrArg List.length G.same
  simpa using this
 have hind:=G.ind
 unfold indepOk at hind
 split at hind
 ·cases hind
 rename_i A hA
 simp only[Bool.and_eq_true,List.all_eq_true,List.mem_range]at hind
 obtain⟨_,hind⟩:=hind
 obtain⟨_,hanc⟩:=ancGo_spec _ _ _ hA
 simp only[List.length_nil,Nat.zero_add]at hanc
 have hanc:∀(i:Nat) (o:Oper),ops[i]?=some o→(∀j∈edgesOf o,j<i)∧∀k,(A.getD i 0).testBit k=true→∃j∈edgesOf o,k=j∨(A.getD j 0).testBit k=true:=fun i o h=>hanc i o (by simpa using h)
 have opAt:∀(i:Nat),i<ops.size→∃it:It,its[i]?=some it∧ops[i]?=some it.o:=fun i h=>by
  have e:its[i]?=some (its[i]'(by omega)):=List.getElem?_eq_getElem _
  exact⟨_,e,hops _ _ e⟩
 have lt_of:∀{listed:Array Bool},listed.size=ops.size→∀i,listed.getD i false=true→i<ops.size:=fun{listed} hs i h=>by
  rcases Nat.lt_or_ge i ops.size with g|g
  ·exact g
  ·rw[Array.getD_eq_getD_getElem?,Array.getElem?_eq_none (by omega)]at h;cases h
 -- what is waited for is listed
 have anc_closed:∀(listed:Array Bool),listed.size=ops.size→(∀(i:Nat) (o:Oper),ops[i]?=some o→listed.getD i false=true→∀j∈edgesOf o,listed.getD j false=true)→
   ∀i k,listed.getD i false=true→(A.getD i 0).testBit k=true→listed.getD k false=true∧k<i:=by
  intro listed hs hcl i
  induction i using Nat.strongRecOn with
  | _ i ih =>
    intro k hi hk
    obtain⟨it,_,ho⟩:=opAt i (lt_of hs i hi)
    obtain⟨h1,h2⟩:=hanc i _ ho
    obtain⟨j,hj,h⟩:=h2 k hk
    have hjl:=hcl i _ ho hi j hj
    rcases h with rfl|h
    ·exact⟨hjl,h1 _ hj⟩
    ·have:=ih j (h1 j hj) k hjl h
     exact⟨this.1,Nat.lt_trans this.2 (h1 j hj)⟩
 have foot:∀(i:Nat) (it:It),its[i]?=some it→(its.map (·.f)).getD i default=it.f:=fun i it h=>by simp[h]
 intro fuel
 induction fuel with
 | zero =>
   intro listed hs hcnt hcl a w hc
   have hall:∀k,k<ops.size→listed.getD k false=true:=fun k hk=>by
    have hk':k<listed.toList.length:=by simp;omega
    have:listed.toList[k]'hk'≠false:=fun e=>List.count_eq_zero.1 hcnt (e▸List.getElem_mem hk')
    simp at this
    simp[Array.getElem?_eq_getElem (show k<listed.size by omega),this]
   refine⟨?_,hQ a w ?_⟩
   ·apply List.eq_nil_iff_forall_not_mem.2
    intro j hj
    obtain⟨h1,o,ho,_⟩:=mem_ready.1 hj
    have hj':j<ops.size:=(Array.getElem?_eq_some_iff.1 ho).1
    have:=hall j hj'
    rw[Array.getD_eq_getD_getElem?,Array.getElem?_eq_getElem (show j<listed.size by omega)]at h1 this
    simp at h1 this
    rw[h1]at this;cases this
   ·rw[selL_all its _ 0 fun k hk=>by rw[Nat.zero_add];exact hall k (by omega)]at hc
    exact hc
 | succ fuel ih =>
   intro listed hs hcnt hcl a w hc
   refine⟨fun hnil=> ?_,fun i hi=> ?_⟩
   ·-- there is always one that may come next
    exfalso
    have hex:∃k,k<ops.size∧listed.getD k true=false:=by
     have:false∈listed.toList:=List.count_pos_iff.1 (by omega)
     obtain⟨k,hk⟩:=List.mem_iff_getElem?.1 this
     have hlt:=(List.getElem?_eq_some_iff.1 hk).1
     refine⟨k,by simp at hlt;omega,?_⟩
     have hk:listed[k]?=some false:=by simpa using hk
     simp[hk]
    have least:∀n,(∃k,k<ops.size∧listed.getD k true=false∧k≤n)→∃k,k∈Region.ready .any ops listed:=by
     intro n
     induction n using Nat.strongRecOn with
     | _ n ihn =>
       rintro ⟨k,h1,h2,h3⟩
       obtain⟨it,_,ho⟩:=opAt k h1
       by_cases hr:∀e∈it.o.after,Region.binds .any e=true→listed.getD e.on false=true
       ·exact⟨k,mem_ready.2 ⟨h2,_,ho,hr⟩⟩
       ·simp only[Classical.not_forall]at hr
        obtain⟨e,he,hb,hn⟩:=hr
        have hlt:e.on<k:=(hanc k _ ho).1 e.on (by
          simp only[edgesOf,List.mem_map,List.mem_filter]
          exact⟨e,⟨by simpa using he,hb⟩,rfl⟩)
        refine ihn e.on (by omega) ⟨e.on,by omega,?_,Nat.le_refl _⟩
        rw[Array.getD_eq_getD_getElem?,Array.getElem?_eq_getElem (show e.on<listed.size by omega)]at hn⊢
        simpa using hn
    obtain⟨k,h1,h2⟩:=hex
    obtain⟨k',hk'⟩:=least k ⟨k,h1,h2,Nat.le_refl _⟩
    rw[hnil]at hk';cases hk'
   ·obtain ⟨hun, o, ho, hrdy⟩ := mem_ready.1 hi
    have hil:i<ops.size:=(Array.getElem?_eq_some_iff.1 ho).1
    obtain⟨it,hit,ho'⟩:=opAt i hil
    rw[ho]at ho'
    cases ho'
    have hun':listed.getD i false=false:=by
     rw[Array.getD_eq_getD_getElem?,Array.getElem?_eq_getElem (show i<listed.size by omega)]at hun⊢
     simpa using hun
    have hunl:listed[i]?=some false:=by
     rw[Array.getElem?_eq_getElem (show i<listed.size by omega)]
     rw[Array.getD_eq_getD_getElem?,Array.getElem?_eq_getElem (show i<listed.size by omega)]at hun
     simpa using hun
    have hedge:∀j∈edgesOf it.o,listed.getD j false=true:=fun j hj=>by
     simp only[edgesOf,List.mem_map,List.mem_filter]at hj
     obtain⟨e,⟨he,hb⟩,rfl⟩:=hj
     exact hrdy e (by simpa using he) hb
    have key : ∀ (k : Nat) (itk : It), its[k]? = some itk → (k ≠ i → ¬ (free2 it.f itk.f = true ∧ free2 itk.f it.f = true)) → listed.getD k false = decide (k < i) := by
     intro k itk hk hnf
     by_cases e:k=i
     ·subst e;rw[hun'];simp
     ·have hkl:k<ops.size:=by
       have:=(List.getElem?_eq_some_iff.1 hk).1
       omega
      have:=hind i hil k hkl
      rw[foot i it hit,foot k itk hk]at this
      simp only[Bool.or_eq_true,Bool.and_eq_true,Nat.beq_eq_true_eq]at this
      rcases this with ((h|h)|h)|h
      ·exact absurd (Nat.eq_of_beq_eq_true h).symm e
      ·obtain⟨h1,h2⟩:=hanc i _ ho
       obtain⟨j,hj,h⟩:=h2 k h
       rcases h with rfl|h
       ·rw[hedge _ hj];simp[h1 _ hj]
       ·obtain⟨g1,g2⟩:=anc_closed listed hs hcl j k (hedge j hj) h
        have:=h1 j hj
        rw[g1];simp;omega
      ·obtain⟨itk',hitk',hok⟩:=opAt k hkl
       cases hc':listed.getD k false with
       | true =>
         have:=(anc_closed listed hs hcl k i hc' h).1
         rw[hun']at this;cases this
       | false =>
         have:i<k:=by
          have hcl2:=anc_closed (Array.replicate ops.size true) (by simp) (fun i' o' ho'' hi' j hj=>by
            have hj':=(hanc i' o' ho'').1 j hj
            have hi'':=lt_of (listed:=Array.replicate ops.size true) (by simp) i' hi'
            simp[Array.getElem?_replicate,show j<ops.size by omega]) k i (by simp[Array.getElem?_replicate,hkl]) h
          exact hcl2.2
         simp;omega
      ·exact absurd h (hnf e)
    have OK:=G.ok it (List.mem_of_getElem? hit)
    have keyT:∀(t:Nat),(t∈it.f.T∨it.o.dst=some t)→∀(k:Nat) (itk:It),its[k]?=some itk→itk.o.dst=some t→listed.getD k false=decide (k<i):=by
     intro t ht k itk hk hd
     have hd':itk.f.d=some t:=(G.ok itk (List.mem_of_getElem? hk)).d.trans hd
     refine key k itk hk fun _ hf=> ?_
     have:=free2_d hf.1 hd'
     rcases ht with ht|ht
     ·exact this.1 ht
     ·exact this.2 (OK.d.trans ht)
    have keyL:∀(l:Lab),(l∈it.f.L∨(it.f.pool=true∧Lab.pool l=true)∨l∈it.f.W)→∀(k:Nat) (itk:It),its[k]?=some itk→l∈itk.f.W→listed.getD k false=decide (k<i):=by
     intro l hl k itk hk hw
     refine key k itk hk fun _ hf=> ?_
     have:=free2_l hf.1 hw
     rcases hl with hl|hl|hl
     ·exact this.1 hl
     ·exact this.2.2 hl
     ·exact this.2.1 hl
    have gFn:∀(t:Nat) (it:It) (v:AV),¬it.o.dst=some t→gF t it v=v:=fun t it v h=>by unfold gF;rw[if_neg h]
    -- the heap's rows: what an item does not name among its writings it does not write
    have gHn:∀(l:Lab),∀(xs:List It),(∀x∈xs,x∈its)→∀it∈xs,∀v,¬l∈it.f.W→gH l it v=v:=fun l xs hxs it hx v h=>by
     unfold gH
     exact wr_not _ _ _ fun q hq e=>h (e▸(G.ok it (hxs it hx)).w q hq)
    let gH':Lab→It→Option Obj→Option Obj:=fun l it v=>if l∈it.f.W then gH l it v else v
    have gHn':∀l (it:It) v,¬l∈it.f.W→gH' l it v=v:=fun l it v h=>if_neg h
    have gvH:∀l (xs:List It),(∀x∈xs,x∈its)→∀v,gv (gH l) xs v=gv (gH' l) xs v:=by
     intro l xs
     induction xs with
     |nil=>intro _ v;rfl
     | cons x r ihx =>
       intro hxs v
       simp only[gv]
       have:gH l x v=gH' l x v:=by
        show _=if l∈x.f.W then gH l x v else v
        split
        ·rfl
        ·rename_i h;exact gHn l (x::r) hxs x (by simp) v h
       rw[this]
       exact ihx (fun y hy=>hxs y (by simp[hy])) _
    have selM:∀L b,∀x∈selL L b its,x∈its:=fun L b x hx=>selL_mem its L b x hx
    have agrT:∀t∈it.f.T,(foldSt s0 (selL (fun k=>listed.getD k false) 0 its)).f t=(foldSt s0 (its.take i)).f t:=fun t ht=>by
     rw[foldSt_f,foldSt_f,←selL_take its i 0]
     refine gv_sel (gF t) (fun it=>it.o.dst=some t) (fun it v h=>gFn t it v h) its _ _ 0 _ fun k itk hk hd=> ?_
     simp only[Nat.zero_add]
     exact keyT t (.inl ht) k itk hk hd
    have agrL:∀l,(l∈it.f.L∨(it.f.pool=true∧Lab.pool l=true))→(foldSt s0 (selL (fun k=>listed.getD k false) 0 its)).h l=(foldSt s0 (its.take i)).h l:=fun l hl=>by
     rw[foldSt_h,foldSt_h,←selL_take its i 0,gvH l _ (selM _ _),gvH l _ (selM _ _)]
     refine gv_sel (gH' l) (fun it=>l∈it.f.W) (fun it v h=>gHn' l it v h) its _ _ 0 _ fun k itk hk hd=> ?_
     simp only[Nat.zero_add]
     exact keyL l (hl.elim .inl fun h=>.inr (.inl h)) k itk hk hd
    have gNn:∀(it:It) (v:Nat),¬it.e.nx≠0→gN it v=v:=fun it v h=>by
     have h:it.e.nx=0:=by omega
     unfold gN;rw[h];rfl
    have keyN:it.f.pool=true→∀(k:Nat) (itk:It),its[k]?=some itk→itk.e.nx≠0→listed.getD k false=decide (k<i):=by
     intro hp k itk hk hnz
     obtain⟨_,l,hl,hlp⟩:=((G.ok itk (List.mem_of_getElem? hk)).nx).resolve_left hnz
     exact key k itk hk fun _ hf=>(free2_l hf.1 hl).2.2 ⟨hp,hlp⟩
    have agrN:it.f.pool=true→(foldSt s0 (selL (fun k=>listed.getD k false) 0 its)).nxt=(foldSt s0 (its.take i)).nxt:=fun hp=>by
     rw[foldSt_nxt,foldSt_nxt,←selL_take its i 0]
     refine gv_sel gN (fun it=>it.e.nx≠0) gNn its _ _ 0 _ fun k itk hk hd=> ?_
     simp only[Nat.zero_add]
     exact keyN hp k itk hk hd
    have step:=G.loc i it hit (foldSt s0 (selL (fun k=>listed.getD k false) 0 its)) agrT (fun l hl=>agrL l (.inl hl)) (fun hp l hl=>agrL l (.inr ⟨hp,hl⟩))
     agrN (fun hp=>by
       obtain⟨c1,c2⟩:=G.clean ⟨it,List.mem_of_getElem? hit,hp⟩
       exact Calm.fold _ _ c1 fun x hx=>(G.ok x (selM _ _ x hx)).cl (c2 x (selM _ _ x hx)))
    have hs':(listed.setIfInBounds i true).size=ops.size:=by simp[hs]
    have hget:∀k,(listed.setIfInBounds i true).getD k false=if k=i then true else listed.getD k false:=fun k=>by
     by_cases e:k=i
     ·subst e;simp[show k<listed.size by omega]
     ·rw[if_neg e,getD_set_ne false (Ne.symm e)]
    have same : (foldSt s0 (selL (fun k => listed.getD k false) 0 its)).app it.o.dst it.e = foldSt s0 (selL (fun k => (listed.setIfInBounds i true).getD k false) 0 its) := by
     refine St.ext' (fun t=> ?_) (fun l=> ?_) ?_
     ·rw [St.app_f, foldSt_f, foldSt_f]
      by_cases ht:it.o.dst=some t
      ·rw[if_pos ht,gv_last (gF t) (fun it=>it.o.dst=some t) (fun it v h=>gFn t it v h) its _ (fun k=>listed.getD k false) 0 i _ it hit (by simp only[Nat.zero_add];rw[hget,if_pos rfl]) (by simp only[Nat.zero_add];exact hun')
         (fun k hk=>by simp only[Nat.zero_add]at hk;rw[hget,if_neg hk]) (fun k itk hk hik hd=>by
           simp only[Nat.zero_add]
           rw[hget,if_neg (by omega),keyT t (.inr ht) k itk hik hd];simp;omega)]
       unfold gF;rw[if_pos ht]
      ·rw[if_neg ht]
       refine gv_sel (gF t) (fun it=>it.o.dst=some t) (fun it v h=>gFn t it v h) its _ _ 0 _ fun k itk hk hd=> ?_
       simp only[Nat.zero_add]
       rw[hget,if_neg]
       rintro rfl
       rw[hit]at hk;cases hk;exact ht hd
     ·rw [St.app_h, writes_wr, foldSt_h, foldSt_h, gvH l _ (selM _ _), gvH l _ (selM _ _)]
      by_cases ht:l∈it.f.W
      ·rw[gv_last (gH' l) (fun it=>l∈it.f.W) (fun it v h=>gHn' l it v h) its (fun k=>(listed.setIfInBounds i true).getD k false) (fun k=>listed.getD k false) 0 i _ it hit (by simp only[Nat.zero_add];rw[hget,if_pos rfl]) (by simp only[Nat.zero_add];exact hun')
         (fun k hk=>by simp only[Nat.zero_add]at hk;rw[hget,if_neg hk]) (fun k itk hk hik hd=>by
           simp only[Nat.zero_add]
           rw[hget,if_neg (by omega),keyL l (.inr (.inr ht)) k itk hik hd];simp;omega)]
       show _=if l∈it.f.W then gH l it _ else _
       rw[if_pos ht];rfl
      ·have:=gHn l its (fun x h=>h) it (List.mem_of_getElem? hit) (gv (gH' l) (selL (fun k=>listed.getD k false) 0 its) (s0.h l)) ht
       unfold gH at this
       rw[this]
       refine gv_sel (gH' l) (fun it=>l∈it.f.W) (fun it v h=>gHn' l it v h) its _ _ 0 _ fun k itk hk hd=> ?_
       simp only[Nat.zero_add]
       rw[hget,if_neg]
       rintro rfl
       rw[hit]at hk;cases hk;exact ht hd
     ·rw [St.app_nxt, foldSt_nxt, foldSt_nxt]
      by_cases hz:it.e.nx=0
      ·rw[hz,Nat.add_zero]
       refine gv_sel gN (fun it=>it.e.nx≠0) gNn its _ _ 0 _ fun k itk hk hd=> ?_
       simp only[Nat.zero_add]
       rw[hget,if_neg]
       rintro rfl
       rw[hit]at hk;cases hk;exact hd hz
      ·have hp:=(OK.nx.resolve_left hz).1
       rw[gv_last gN (fun it=>it.e.nx≠0) gNn its (fun k=>(listed.setIfInBounds i true).getD k false) (fun k=>listed.getD k false) 0 i _ it hit (by simp only[Nat.zero_add];rw[hget,if_pos rfl]) (by simp only[Nat.zero_add];exact hun')
         (fun k hk=>by simp only[Nat.zero_add]at hk;rw[hget,if_neg hk]) (fun k itk hk hik hd=>by
           simp only[Nat.zero_add]
           rw[hget,if_neg (by omega),keyN hp k itk hik hd];simp;omega)]
       rfl
    have st:=step κ a w hc (wpAny E.P .any ops Q fuel (listed.setIfInBounds i true)) Q fun a' w' hc'=>by
     refine ih _ hs' ?_ ?_ a' w' (same▸hc')
     ·have hl:(listed.setIfInBounds i true).toList=listed.toList.set i true:=by simp
      have hi':i<listed.toList.length:=by rw[Array.length_toList];omega
      have hf:listed.toList[i]'hi'=false:=by
       have:=(Array.getElem?_eq_some_iff.1 hunl).2
       simpa using this
      rw[hl,List.count_set hi',hf,hcnt]
      simp
     ·intro j oj hoj hjl e he
      rw[hget]at hjl⊢
      by_cases e1:e=i
      ·rw[if_pos e1]
      ·rw[if_neg e1]
       by_cases e2:j=i
       ·subst e2
        rw[ho]at hoj;cases hoj
        exact hedge e he
       ·rw[if_neg e2]at hjl
        exact hcl j oj hoj hjl e he
    unfold wpOp
    simp only[ho]
    by_cases hw:Region.wanted it.o (yielded ops a.tmps)=true
    ·rw[if_pos hw]at st⊢
     exact .inl st
    ·rw[if_neg hw]at st⊢
     exact st
theorem Goes.draw {F:Exit→St→Prop} {id:Nat} {k:List Kont} (hm:E.P.follows .mixedOrders=true) (G:Good E ops s0 its) (h:Goes E F k .normal (foldSt s0 its)):Goes E F (.code (.region id ops true)::k) .normal s0:=by
 intro ok κ a w hc
 have ok:=okK_code.1 ok
 have key:wpAny E.P .any ops (semK κ E (endQ κ E.n F) k) ops.size (Array.replicate ops.size false) a {w with drawn:=w.drawn+1}:=by
  refine any_go G (fun a w hc=>h ok.2 κ a w hc) _ _ (by simp) (by simp) (fun i o ho hi=>by simp[Array.getElem?_replicate]at hi;split at hi<;>simp at hi) _ _ ?_
  have:∀(r:List It) (b:Nat),selL (fun k=>(Array.replicate ops.size false).getD k false) b r=[]:=fun r=>by
   induction r with
   |nil=>intro b;rfl
   | cons x r ih =>
     intro b
     simp only[selL]
     rw[if_neg (by simp[Array.getElem?_replicate];split<;>simp),ih]
  rw[this]
  obtain⟨h1,h2,φ,S,M,hsl⟩:=hc
  have C:Chg κ φ S s0.h w φ S s0.h s0.nxt {w with drawn:=w.drawn+1}:=M.after (Nat.le_refl _) (fun _ _ _=>rfl) (fun _ _ _ h=>h) (fun _ _ _=>rfl) rfl rfl rfl (fun _ h=>h) M.stab M.slt M.sup
  exact⟨h1,h2,φ,S,C.mem,fun t=>C.av _ _ (hsl t)⟩
 exact wp_region_any hm key
end
def poolOk (pl:Bool) (fs:List Foot):Bool:=match pl with
 |true=>fs.all fun f=>f.cl
 |false=>fs.all fun f=> !f.pool
def GoesD (E:Env) (F:Exit→St→Prop) (pm:Bool) (all:Array Oper) (r:List Oper) (fs:List Foot) (s:St) (k:List Kont):Prop:=
 (∀o∈r,okO E.n o=true)→∃its:List It,its.map (·.o)=r∧(∀it∈its,it.Ok E.n)∧(∀(i:Nat) (it:It),its[i]?=some it→Loc E all it (foldSt s (its.take i)))∧
  (indepOk all (fs++its.map (·.f))&&poolOk pm (fs++its.map (·.f)))=true∧Goes E F k .normal (foldSt s its)
inductive OutD where
 |bad|call (g:FuncId) (xs:List AV) (ts:List T) (ws:List (Lab×Obj)) (acc:List Lab)|dl (y:Dl) (acc:List Lab)
def outD (E:Env) (o:Oper) (s:St):OutD:=
 match isCall (evA s.f) o with
 | some (g, xs) => match (reifyE xs).run s.h with
   |some ((ts,ws),acc)=>.call g xs ts ws acc
   |none=>.bad
 | none => match (stepR (tiOf E.P) E.sites s.nxt (evA s.f) o).run s.h with
   |some (y,acc)=>if Nat.beq y.nx 0 then .dl y acc else .bad
   |none=>.bad
inductive TakesD (P:Program) (g:FuncId) (xs:List AV) (ts:List T) (ws:List (Lab×Obj)) (s:St):Dl→List Lab→Bool→Prop
 |pure (rs:List RC) (y:Dl) (hP:Pure P g ts rs) (hn:∀t∈ts,noPtr t=true) (hy:y={v:=retVal none rs,w:=if rs.all flatRC=true then [] else ws}):TakesD P g xs ts ws s y [] false
 | pureAd (rs : List RC) (d' : Nat) (y : Dl) (L : List Lab) (hP : Pure P g ts rs) (hn : ∀ t ∈ ts, noPtr t = true) (hf : rs.all flatRC = true) (hy : y = { v := retVal (some d') rs, w := retW d' 0 rs })
   (hl:∀(j size:Nat) (es:List T),rs[j]?=some (.own size es)→Lab.loc d' j∈L∧s.h (.loc d' j)=none):TakesD P g xs ts ws s y L false
 |look (rs:List RC) (y:Dl) (hP:Ret P g ts (poolH s.h) s.nxt rs (poolH s.h) s.nxt) (hw:ws=[]) (hy:y={v:=retVal none rs}):TakesD P g xs ts ws s y [] true
 |pool (rs:List RC) (y:Dl) (h':Heap) (W:List (Lab×Obj)) (hP:Ret P g ts (poolH s.h) s.nxt rs h' s.nxt) (hw:ws=[]) (hW:∀l,Lab.pool l=true→h' l=writes s.h W l) (hWp:∀q∈W,Lab.pool q.1=true) (hy:y={v:=retVal none rs,w:=W}):TakesD P g xs ts ws s y [] true
 |make (rs:List RC) (y:Dl) (h':Heap) (W:List (Lab×Obj)) (n':Nat) (hP:Ret P g ts (poolH s.h) s.nxt rs h' n') (hle:s.nxt≤n') (hws:(ws.all fun q=> !q.1.pool&&(match q.2 with|.arr ..=>true|_=>false))=true) (hW:∀l,Lab.pool l=true→h' l=writes s.h W l) (hWp:∀q∈W,Lab.pool q.1=true) (hne:W≠[]∨n'=s.nxt) (hy:y={v:=retVal none rs,w:=ws++W,nx:=n'-s.nxt}):TakesD P g xs ts ws s y [] true
 |lookA (as:List AV) (acc2:List Lab) (rs:List RC) (y:Dl) (hr:(passE xs).run s.h=some ((as,[]),acc2)) (hP:RetA P g as (poolH s.h) s.nxt rs (poolH s.h) s.nxt) (hy:y={v:=retVal none rs}):TakesD P g xs ts ws s y acc2 true
def CallD (E:Env) (F:Exit→St→Prop) (pm:Bool) (all:Array Oper) (o:Oper) (gT:List Nat) (r:List Oper) (fs:List Foot) (g:FuncId) (xs:List AV) (ts:List T) (ws:List (Lab×Obj)) (acc:List Lab) (s:St) (k:List Kont):Prop:=
 ∃y L pl,Entry E.P g∧TakesD E.P g xs ts ws s y L pl∧GoesD E F pm all r (fs++[⟨o.dst,gT++tmpsOf o,acc++L,y.w.map (·.1),pl,calmD y⟩]) (s.app o.dst y) k
class HCD where
 c:FuncId→List AV→List T→List (Lab×Obj)→List Lab→Prop
class HDD where
 d:Dl→List Lab→Prop
def outKD (x:OutD) [kc:HCD] [kd:HDD]:Prop:=
 match x with
 |.bad=>False
 |.call g xs ts ws acc=>kc.c g xs ts ws acc
 |.dl y acc=>kd.d y acc
def runD (E:Env) (F:Exit→St→Prop) (pm:Bool) (all:Array Oper) (k:List Kont):List Oper→List Foot→St→Prop
 |[],fs,s=>(indepOk all fs&&poolOk pm fs)=true∧Goes E F k .normal s
 | o :: r, fs, s => @gK (guardOut all o s)
   ⟨@outKD (outD E o s) ⟨fun g xs ts ws acc=>CallD E F pm all o [] r fs g xs ts ws acc s k⟩ ⟨fun y acc=>runD E F pm all k r (fs++[⟨o.dst,tmpsOf o,acc,y.w.map (·.1),false,calmD y⟩]) (s.app o.dst y)⟩⟩
   ⟨fun d b=> @selP b ⟨@outKD (outD E o (s.lit d true)) ⟨fun g xs ts ws acc=>CallD E F pm all o [d] r fs g xs ts ws acc (s.lit d true) k⟩ ⟨fun y acc=>runD E F pm all k r (fs++[⟨o.dst,d::tmpsOf o,acc,y.w.map (·.1),false,calmD y⟩]) ((s.lit d true).app o.dst y)⟩⟩
     ⟨runD E F pm all k r (fs++[⟨o.dst,[d],[],[],false,true⟩]) ((s.lit d false).app o.dst {v:=.tup []})⟩⟩
   ⟨fun d b=> @selP b ⟨runD E F pm all k r (fs++[⟨o.dst,[d],[],[],false,true⟩]) ((s.lit d true).app o.dst {v:=.tup []})⟩ ⟨@outKD (outD E o (s.lit d false)) ⟨fun g xs ts ws acc=>CallD E F pm all o [d] r fs g xs ts ws acc (s.lit d false) k⟩
     ⟨fun y acc=>runD E F pm all k r (fs++[⟨o.dst,d::tmpsOf o,acc,y.w.map (·.1),false,calmD y⟩]) ((s.lit d false).app o.dst y)⟩⟩⟩
   ⟨fun d=>runD E F pm all k r (fs++[⟨o.dst,[d],[],[],false,true⟩]) (s.app o.dst {v:=.tup []})⟩
section
variable {E:Env} {F:Exit→St→Prop} {pm:Bool} {all:Array Oper} {k:List Kont}
theorem GoesD.nil {fs:List Foot} {s:St} (h:(indepOk all fs&&poolOk pm fs)=true) (hk:Goes E F k .normal s):GoesD E F pm all [] fs s k:=
 fun _=>⟨[],rfl,fun _ h=>(by cases h),fun i it h=>(by simp at h),by simpa using h,hk⟩
theorem GoesD.cons {o:Oper} {r:List Oper} {fs:List Foot} {s:St} {it:It} (ho:it.o=o) (hok:okO E.n o=true→it.Ok E.n) (hl:Loc E all it s) (h:GoesD E F pm all r (fs++[it.f]) (s.app o.dst it.e) k):GoesD E F pm all (o::r) fs s k:=by
 intro hr
 obtain⟨its,h1,h2,h3,h4,h5⟩:=h fun o' ho'=>hr o' (by simp[ho'])
 refine⟨it::its,by simp[ho,h1],fun x hx=> ?_,fun i x hx=> ?_,by simpa using h4,?_⟩
 ·rcases List.mem_cons.1 hx with rfl|hx
  ·exact hok (hr o (by simp))
  ·exact h2 x hx
 ·cases i with
  |zero=>simp at hx;subst hx;exact hl
  | succ i =>
    rw[List.take_succ_cons]
    show Loc E all x (foldSt (s.app it.o.dst it.e) (its.take i))
    rw[ho]
    exact h3 i x (by simpa using hx)
 ·show Goes E F k .normal (foldSt (s.app it.o.dst it.e) its)
  rw[ho];exact h5
theorem lit_self {s:St} {d:Nat} {b:Bool} (h:s.f d=.t (.bool b)):s.lit d b=s:=by
 unfold St.lit
 have:upd s.f d (.t (.bool b))=s.f:=by
  funext t
  by_cases e:t=d
  ·subst e;rw[upd_same,h]
  ·rw[upd_ne _ _ _ _ e]
 rw[this]
theorem evA_agree {o:Oper} {s s':St} {gT:List Nat} (h:∀t∈gT++tmpsOf o,s'.f t=s.f t):∀x∈o.op.operands,evA s'.f x=evA s.f x:=by
 intro x hx
 cases x with
 | tmp t =>
   refine h t (List.mem_append_right _ ?_)
   exact List.mem_filterMap.2 ⟨.tmp t,by simpa using hx,rfl⟩
 |_=>rfl
theorem guard_free {o:Oper} {s:St} (h:guardOut all o s=.free):o.guard=none:=by
 unfold guardOut at h
 split at h
 ·rename_i ho;exact ho
 ·split at h
  ·split at h<;>cases h
  ·cases h
theorem guard_noG {o:Oper} {s s':St} {d:Nat} (h:guardOut all o s=.no d) (hs:s'.f d=s.f d):guardOut all o s'=.no d:=by
 unfold guardOut at h⊢
 split at h
 ·cases h
 ·rename_i g w' ho
  split at h
  ·rename_i d' hd'
   split at h
   ·cases h
   ·rename_i hb'
    injection h with e1
    subst e1
    rw[hs,hb']
   ·cases h
  ·cases h
theorem guard_ask {o:Oper} {s s':St} {d:Nat} {b want:Bool} (h:guardOut all o s=.ask d b want) (hs:s'.f d=s.f d):guardOut all o s'=.ask d b want:=by
 unfold guardOut at h⊢
 split at h
 ·cases h
 ·rename_i g w' ho
  split at h
  ·rename_i d' hd'
   split at h
   ·rename_i b' hb'
    injection h with e1 e2 e3
    subst e1
    rw[hs,hb']
    show GOut.ask d' b' w'=_
    rw[e2,e3]
   ·cases h
   ·cases h
  ·cases h
theorem boxA_nxt {pool:Sites} {n n':Nat} {d:Option Tmp} {cs:List AV} {h:Heap} {y:Dl} {acc:List Lab} (hst:(boxA pool n d cs).run h=some (y,acc)) (hn:y.nx=0):(boxA pool n' d cs).run h=some (y,acc):=by
 unfold boxA at hst⊢
 cases d with
 |none=>exact hst
 | some d =>
   simp only at hst⊢
   split at hst
   ·exfalso
    simp only[Rd.run]at hst
    split at hst
    ·split at hst
     ·simp only[Rd.run,Option.map_some,Option.some.injEq,Prod.mk.injEq]at hst
      obtain⟨h1,_⟩:=hst
      subst h1
      cases hn
     ·simp[Rd.run]at hst
    ·simp[Rd.run]at hst
   ·rename_i hp
    rw[if_neg hp];exact hst
theorem stepR_nxt {ty:TypeId→TI} {pool:Sites} {n:Nat} {ρ:Operand→AV} {o:Oper} {h:Heap} {y:Dl} {acc:List Lab} (hst:(stepR ty pool n ρ o).run h=some (y,acc)) (hn:y.nx=0) (n':Nat):(stepR ty pool n' ρ o).run h=some (y,acc):=by
 unfold stepR at hst
 split at hst
 all_goals first
  |(exfalso;simp only[Rd.run]at hst;cases hst;done)
  | (rename_i heq
     unfold stepR
     rw[heq]
     first
       |exact hst
       | (simp only at hst ⊢
          split at hst
          ·rename_i hk;rw[if_pos hk];exact boxA_nxt hst hn
          ·simp[Rd.run]at hst))
theorem step_agree {o:Oper} {s s':St} {gT:List Nat} {y:Dl} {acc:List Lab} (ho:okO E.n o=true) (hst:(stepR (tiOf E.P) E.sites s.nxt (evA s.f) o).run s.h=some (y,acc))
  (hT:∀t∈gT++tmpsOf o,s'.f t=s.f t) (hL:∀l∈acc,s'.h l=s.h l) (hn:y.nx=0) {κ:Kap} {a:Act} {w:World} (hC:Conc κ E.n s' a w) {K:Act→World→Prop} {Q:Exit→Act→World→Prop}
  (hK:∀a' w',Conc κ E.n (s'.app o.dst y) a' w'→K a' w'):o.wp E.P a w K Q:=by
 have e:(stepR (tiOf E.P) E.sites s'.nxt (evA s'.f) o).run s'.h=some (y,acc):=by
  rw[stepR_congr o (evA_agree hT)]
  exact stepR_nxt (Rd.run_local hst hL) hn _
 obtain⟨nx,v,w',h1,h2,h3⟩:=step_sound hC (okO_dst ho) e
 unfold Oper.wp
 rw[h1]
 rcases h2 with rfl|⟨rfl,rfl⟩
 ·exact hK _ _ h3
 ·exact hK _ _ h3
theorem put_app {s:St} {d:Option Tmp} {y:Dl} (hn:y.nx=0):{(s.put d y.v) with h:=writes s.h y.w}=s.app d y:=by
 unfold St.app
 rw[hn];cases d<;>rfl
theorem call_agree {o : Oper} {s s' : St} {gT : List Nat} {g : FuncId} {xs : List AV} {ts : List T} {ws : List (Lab × Obj)} {acc L : List Lab} {y : Dl} {pl : Bool} (ho : okO E.n o = true) (hc : isCall (evA s.f) o = some (g, xs)) (he : Entry E.P g)
  (hr:(reifyE xs).run s.h=some ((ts,ws),acc)) (hT:TakesD E.P g xs ts ws s y L pl)
  (hTt:∀t∈gT++tmpsOf o,s'.f t=s.f t) (hL:∀l∈acc++L,s'.h l=s.h l) (hp:pl=true→∀l,Lab.pool l=true→s'.h l=s.h l) (hn:pl=true→s'.nxt=s.nxt) (hcalm:pl=true→Calm s') {κ:Kap} {a:Act} {w:World} (hC:Conc κ E.n s' a w)
  {K:Act→World→Prop} {Q:Exit→Act→World→Prop} (hK:∀a' w',Conc κ E.n (s'.app o.dst y) a' w'→K a' w'):o.wp E.P a w K Q:=by
 have hc:isCall (evA s'.f) o=some (g,xs):=by
  have hev:∀x∈o.op.operands,evA s'.f x=evA s.f x:=fun x hx=>evA_agree hTt x hx
  unfold isCall at hc⊢
  split at hc
  ·rename_i g' xs' ts' hop
   rw[hop]at hev
   cases hc
   have:xs'.toList.map (evA s'.f)=xs'.toList.map (evA s.f):=List.map_congr_left fun x hx=>hev x (by
     simp only[Op.operands,Call.operands]
     exact Array.mem_append_right _ (by simpa using hx))
   simp only[this]
  ·rename_i t xs' ts' hop
   rw[hop]at hev
   have e0:evA s'.f (.tmp t)=evA s.f (.tmp t):=hev _ (by
     simp only[Op.operands,Call.operands]
     exact Array.mem_append_left _ (by simp))
   have:xs'.toList.map (evA s'.f)=xs'.toList.map (evA s.f):=List.map_congr_left fun x hx=>hev x (by
     simp only[Op.operands,Call.operands]
     exact Array.mem_append_right _ (by simpa using hx))
   simp only[this,e0]
   exact hc
  ·cases hc
 have hr':(reifyE xs).run s'.h=some ((ts,ws),acc):=Rd.run_local hr fun l hl=>hL l (by simp[hl])
 cases hT with
 | pure rs y hP hnp hy =>
   subst hy
   have:=Takes.pure (xs:=xs) (d:=o.dst) (s:=s') (ws:=ws) rs _ hP hnp rfl
   refine takes_sound hC (okO_dst ho) hc he hr' this fun a w hc'=>hK a w ?_
   rw[←put_app rfl]
   by_cases h:rs.all flatRC=true
   ·simp only[h,if_true]at hc'⊢;exact hc'
   ·simp only[h,if_false]at hc'⊢;exact hc'
 | pureAd rs d' y L hP hnp hf hy hl =>
   subst hy
   have:=Takes.pureAd (xs:=xs) (d:=o.dst) (s:=s') (ws:=ws) rs d' _ hP hnp rfl (fun j size es h=>by
     rw[if_pos hf,hL _ (List.mem_append_right _ (hl j size es h).1)]
     exact(hl j size es h).2)
   refine takes_sound hC (okO_dst ho) hc he hr' this fun a w hc'=>hK a w ?_
   rw[←put_app rfl]
   simp only[hf,if_true]at hc'
   rw[writes_retW0];exact hc'
 | look rs y hP hw hy =>
   subst hw
   subst hy
   have hpool:poolH s'.h=poolH s.h:=by
    funext l
    unfold poolH
    split
    ·rename_i h;exact hp rfl l h
    ·rfl
   have hf:killF s'.f=s'.f:=by
    funext t
    unfold killF killP
    rw[if_pos ((hcalm rfl).1 t)]
   have hm:mixH (poolH s'.h) s'.h=s'.h:=by
    funext l
    unfold mixH poolH
    split
    ·rfl
    ·rename_i h
     cases ho:s'.h l with
     |none=>rfl
     | some ob =>
       rcases(hcalm rfl).2 l ob ho with h'|h'
       ·exact absurd h' h
       ·exact congrArg some (notBox_kill h')
   have:=Takes.pool (xs:=xs) (d:=o.dst) (s:=s') (ws:=[]) rs _ _ s'.nxt _ (by rw[writes_nil,hpool,hn rfl];exact hP) rfl rfl
   refine takes_sound hC (okO_dst ho) hc he hr' this fun a w hc'=>hK a w ?_
   rw[←put_app rfl]
   rw[writes_nil,←hpool,hm,hf]at hc'
   cases hd:o.dst<;>rw[hd]at hc'<;>exact hc'
 | pool rs y h' W hP hw hW hWp hy =>
   subst hw
   subst hy
   have hpool:poolH s'.h=poolH s.h:=by
    funext l
    unfold poolH
    split
    ·rename_i h;exact hp rfl l h
    ·rfl
   have hf:killF s'.f=s'.f:=by
    funext t
    unfold killF killP
    rw[if_pos ((hcalm rfl).1 t)]
   have hm:mixH h' s'.h=writes s'.h W:=by
    funext l
    unfold mixH
    split
    ·rename_i h
     rw[hW l h,writes_wr,writes_wr,hp rfl l h]
    ·rename_i h
     rw[writes_wr,wr_not W l _ fun q hq e=>h (e▸hWp q hq)]
     cases ho:s'.h l with
     |none=>rfl
     | some ob =>
       rcases(hcalm rfl).2 l ob ho with h'|h'
       ·exact absurd h' h
       ·exact congrArg some (notBox_kill h')
   have:=Takes.pool (xs:=xs) (d:=o.dst) (s:=s') (ws:=[]) rs _ _ s'.nxt _ (by rw[writes_nil,hpool,hn rfl];exact hP) rfl rfl
   refine takes_sound hC (okO_dst ho) hc he hr' this fun a w hc'=>hK a w ?_
   rw[←put_app rfl]
   rw[writes_nil,hm,hf]at hc'
   cases hd:o.dst<;>rw[hd]at hc'<;>exact hc'
 | make rs y h' W n' hP hle hws hW hWp hne hy =>
   subst hy
   have hws:∀q∈ws,Lab.pool q.1=false∧notBox q.2=true∧killO q.2=q.2:=fun q hq=>by
    have:=List.all_eq_true.1 hws q hq
    simp only[Bool.and_eq_true,Bool.not_eq_true']at this
    obtain⟨h1,h2⟩:=this
    refine⟨h1,?_⟩
    cases hq2:q.2 with
    |arr=>exact⟨rfl,rfl⟩
    |_=>rw[hq2]at h2;cases h2
   have hpw:∀(H:Heap) l,Lab.pool l=true→writes H ws l=H l:=fun H l hl=>by
    rw[writes_wr,wr_not ws l _ fun q hq e=>by
      have:=(hws q hq).1
      rw[e,hl]at this;cases this]
   have hpool:poolH (writes s'.h ws)=poolH s.h:=by
    funext l
    unfold poolH
    split
    ·rename_i h;rw[hpw _ l h];exact hp rfl l h
    ·rfl
   have hf:killF s'.f=s'.f:=by
    funext t
    unfold killF killP
    rw[if_pos ((hcalm rfl).1 t)]
   have wapp:∀(a b:List (Lab×Obj)) (H:Heap),writes H (a++b)=writes (writes H a) b:=by
    intro a
    induction a with
    |nil=>intro b H;rfl
    |cons q r ih=>intro b H;exact ih b _
   have hm : mixH h' (writes s'.h ws) = writes s'.h (ws ++ W) := by
    funext l
    rw[wapp]
    unfold mixH
    split
    ·rename_i h
     rw[hW l h,writes_wr,writes_wr,hpw _ l h,hp rfl l h]
    ·rename_i h
     rw[writes_wr W,wr_not W l _ fun q hq e=>h (e▸hWp q hq)]
     cases ho:writes s'.h ws l with
     |none=>rfl
     | some ob =>
       have key:∀(a:List (Lab×Obj)) (H:Heap),(∀q∈a,killO q.2=q.2)→(∀ob,H l=some ob→killO ob=ob)→∀ob,writes H a l=some ob→killO ob=ob:=by
        intro a
        induction a with
        |nil=>intro H _ hH;exact hH
        | cons q r ih =>
          intro H hq hH
          refine ih (upd H q.1 (some q.2)) (fun x hx=>hq x (by simp[hx])) fun ob hob=> ?_
          by_cases e:l=q.1
          ·subst e;rw[upd_same]at hob;cases hob;exact hq q (by simp)
          ·rw[upd_ne _ _ _ _ e]at hob;exact hH ob hob
       refine congrArg some (key ws s'.h (fun q hq=>(hws q hq).2.2) (fun ob hob=> ?_) ob ho)
       rcases(hcalm rfl).2 l ob hob with h'|h'
       ·exact absurd h' h
       ·exact notBox_kill h'
   have:=Takes.pool (xs:=xs) (d:=o.dst) (s:=s') (ws:=ws) rs _ _ n' _ (by rw[hpool,hn rfl];exact hP) rfl rfl
   refine takes_sound hC (okO_dst ho) hc he hr' this fun a w hc'=>hK a w ?_
   rw[hm,hf]at hc'
   have e:s'.app o.dst {v:=retVal none rs,w:=ws++W,nx:=n'-s.nxt}=(St.put ⟨s'.f,writes s'.h (ws++W),n'⟩ o.dst (retVal none rs)):=by
    unfold St.app
    rw[hn rfl,show s.nxt+(n'-s.nxt)=n' by omega]
    cases o.dst<;>rfl
   rw[e];exact hc'
 | lookA as acc2 rs y hr2 hP hy =>
   subst hy
   have hr3:(passE xs).run s'.h=some ((as,[]),L):=Rd.run_local hr2 fun l hl=>hL l (by simp[hl])
   have hpool:poolH s'.h=poolH s.h:=by
    funext l
    unfold poolH
    split
    ·rename_i h;exact hp rfl l h
    ·rfl
   have hf:killF s'.f=s'.f:=by
    funext t
    unfold killF killP
    rw[if_pos ((hcalm rfl).1 t)]
   have hm:mixH (poolH s'.h) s'.h=s'.h:=by
    funext l
    unfold mixH poolH
    split
    ·rfl
    ·rename_i h
     cases ho:s'.h l with
     |none=>rfl
     | some ob =>
       rcases(hcalm rfl).2 l ob ho with h'|h'
       ·exact absurd h' h
       ·exact congrArg some (notBox_kill h')
   have:=Takes.lend (xs:=xs) (ts:=ts) (ws:=ws) (d:=o.dst) (s:=s') as [] L rs _ _ s'.nxt _ hr3 (by rw[writes_nil,hpool,hn rfl];exact hP) rfl rfl
   refine takes_sound hC (okO_dst ho) hc he hr' this fun a w hc'=>hK a w ?_
   rw[←put_app rfl]
   rw[writes_nil,←hpool,hm,hf]at hc'
   cases hd:o.dst<;>rw[hd]at hc'<;>exact hc'
theorem skip_loc {o:Oper} {s:St} {d:Nat} {want:Bool} (ho:okO E.n o=true) (hg:guardOut all o s=.ask d (!want) want):Loc E all ⟨o,{v:=.tup []},⟨o.dst,[d],[],[],false,true⟩⟩ s:=by
 intro s' hT _ _ _ _ κ a w hC K Q hK
 have hg':=guard_ask hg (hT d (by simp))
 obtain⟨g1,g2⟩:=guard_yield hC hg'
 rw[if_neg (by rw[g2];cases want<;>simp)]
 refine hK _ _ ?_
 have:=hC.skip (d:=o.dst) (okO_dst ho)
 have e:s'.app o.dst {v:=.tup []}=s'.put o.dst (.tup []):=by cases o.dst<;>rfl
 show Conc κ E.n (s'.app o.dst {v:=.tup []}) _ _
 rw[e];exact this
theorem no_loc {o:Oper} {s:St} {d:Nat} (ho:okO E.n o=true) (hg:guardOut all o s=.no d):Loc E all ⟨o,{v:=.tup []},⟨o.dst,[d],[],[],false,true⟩⟩ s:=by
 intro s' hT _ _ _ _ κ a w hC K Q hK
 have hg':=guard_noG hg (hT d (by simp))
 obtain⟨g1,g2⟩:=guard_no hC hg'
 rw[if_neg (by rw[g2];simp)]
 refine hK _ _ ?_
 have:=hC.skip (d:=o.dst) (okO_dst ho)
 have e:s'.app o.dst {v:=.tup []}=s'.put o.dst (.tup []):=by cases o.dst<;>rfl
 show Conc κ E.n (s'.app o.dst {v:=.tup []}) _ _
 rw[e];exact this
theorem ok_foot {o:Oper} {y:Dl} {T:List Nat} {L:List Lab} {pl:Bool} (hn:y.nx=0∨pl=true∧∃l∈y.w.map (·.1),Lab.pool l=true) (ho:okO E.n o=true):It.Ok E.n ⟨o,y,⟨o.dst,T,L,y.w.map (·.1),pl,calmD y⟩⟩:=
 ⟨rfl,hn,fun q hq=>List.mem_map_of_mem hq,ho,fun h=>h⟩
theorem calmD_nx {P:Program} {g:FuncId} {xs:List AV} {ts:List T} {ws:List (Lab×Obj)} {s:St} {y:Dl} {L:List Lab} {pl:Bool} (h:TakesD P g xs ts ws s y L pl):y.nx=0∨pl=true∧∃l∈y.w.map (·.1),Lab.pool l=true:=by
 cases h with
 |pure rs y hP hn hy=>subst hy;exact .inl rfl
 |pureAd rs d' y L hP hn hf hy hl=>subst hy;exact .inl rfl
 |look rs y hP hw hy=>subst hy;exact .inl rfl
 |pool rs y h' W hP hw hW hWp hy=>subst hy;exact .inl rfl
 |lookA as acc2 rs y hr hP hy=>subst hy;exact .inl rfl
 | make rs y h' W n' hP hle hws hW hWp hne hy =>
   subst hy
   rcases hne with hne|hne
   ·refine .inr ⟨rfl,?_⟩
    match W,hne with
    |q::r,_=>exact⟨q.1,by simp,hWp q (by simp)⟩
   ·exact .inl (by show n'-s.nxt=0;omega)
theorem one_op {o:Oper} {r:List Oper} {fs:List Foot} {s:St} {gT:List Nat} (hw:∀{s':St} {κ:Kap} {a:Act} {w:World},(∀t∈gT,s'.f t=s.f t)→Conc κ E.n s' a w→Region.wanted o (yielded all a.tmps)=true)
  (h:match outD E o s with
    |.bad=>False
    |.call g xs ts ws acc=>CallD E F pm all o gT r fs g xs ts ws acc s k
    |.dl y acc=>GoesD E F pm all r (fs++[⟨o.dst,gT++tmpsOf o,acc,y.w.map (·.1),false,calmD y⟩]) (s.app o.dst y) k):GoesD E F pm all (o::r) fs s k:=by
 intro hall
 have ho:okO E.n o=true:=hall o (by simp)
 revert hall
 unfold outD at h
 split at h
 ·exact h.elim
 ·rename_i g xs0 ts ws acc he
  split at he
  ·rename_i g' xs hcall
   split at he
   ·rename_i ts' ws' acc' hre
    cases he
    obtain⟨y,L,pl,h1,h2,h3⟩:=h
    refine GoesD.cons (it:=⟨o,y,⟨o.dst,gT++tmpsOf o,acc++L,y.w.map (·.1),pl,calmD y⟩⟩) rfl (fun ho=>ok_foot (calmD_nx h2) ho) ?_ h3
    intro s' hT hL hp hn hcalm κ a w hC K Q hK
    rw[if_pos (hw (fun t ht=>hT t (List.mem_append_left _ ht)) hC)]
    exact call_agree ho hcall h1 hre h2 hT hL hp hn hcalm hC hK
   ·cases he
  ·split at he
   ·split at he<;>cases he
   ·cases he
 ·rename_i y acc he
  split at he
  ·split at he<;>cases he
  ·split at he
   ·rename_i y' acc' hst
    split at he
    ·rename_i hnx
     cases he
     refine GoesD.cons (it:=⟨o,y,⟨o.dst,gT++tmpsOf o,acc,y.w.map (·.1),false,calmD y⟩⟩) rfl (fun ho=>ok_foot (.inl (Nat.eq_of_beq_eq_true hnx)) ho) ?_ h
     intro s' hT hL hp hn hcalm κ a w hC K Q hK
     rw[if_pos (hw (fun t ht=>hT t (List.mem_append_left _ ht)) hC)]
     exact step_agree ho hst hT hL (Nat.eq_of_beq_eq_true hnx) hC hK
    ·cases he
   ·cases he
theorem runD_sound:∀(r:List Oper) (fs:List Foot) (s:St),runD E F pm all k r fs s→GoesD E F pm all r fs s k
 |[],fs,s,h=>GoesD.nil h.1 h.2
 | o :: r, fs, s, h => by
   have lift:∀{gT:List Nat} {s:St},@outKD (outD E o s) ⟨fun g xs ts ws acc=>CallD E F pm all o gT r fs g xs ts ws acc s k⟩ ⟨fun y acc=>runD E F pm all k r (fs++[⟨o.dst,gT++tmpsOf o,acc,y.w.map (·.1),false,calmD y⟩]) (s.app o.dst y)⟩→
    (match outD E o s with
    |.bad=>False
    |.call g xs ts ws acc=>CallD E F pm all o gT r fs g xs ts ws acc s k
    |.dl y acc=>GoesD E F pm all r (fs++[⟨o.dst,gT++tmpsOf o,acc,y.w.map (·.1),false,calmD y⟩]) (s.app o.dst y) k):=by
    intro gT s h
    cases hO:outD E o s with
    |bad=>rw[hO]at h;exact h
    |call=>rw[hO]at h;exact h
    |dl y acc=>rw[hO]at h;exact runD_sound r _ _ h
   have lit':∀{d:Nat} {b want:Bool},guardOut all o s=.ask d b want→s.f d=.t (.bool b):=by
    intro d b want hg
    unfold guardOut at hg
    split at hg
    ·cases hg
    ·split at hg
     ·split at hg
      ·rename_i hb;injection hg with e1 e2 e3;subst e1;rw[hb,e2]
      ·cases hg
      ·cases hg
     ·cases hg
   have skip:∀{d:Nat} {want:Bool},guardOut all o s=.ask d (!want) want→runD E F pm all k r (fs++[⟨o.dst,[d],[],[],false,true⟩]) (s.app o.dst {v:=.tup []})→GoesD E F pm all (o::r) fs s k:=by
    intro d want hg h hall
    have ho:okO E.n o=true:=hall o (by simp)
    exact GoesD.cons (it:=⟨o,{v:=.tup []},⟨o.dst,[d],[],[],false,true⟩⟩) rfl (fun ho=>⟨rfl,.inl rfl,fun q hq=>(by cases hq),ho,fun _=>rfl⟩) (skip_loc ho hg) (runD_sound r _ _ h) hall
   unfold runD at h
   cases hg:guardOut all o s with
   |bad=>rw[hg]at h;exact False.elim h
   | free =>
     rw[hg]at h
     have hg:=guard_free hg
     exact one_op (gT:=[]) (fun _ _=>by simp[Region.wanted,hg]) (lift h)
   | no d =>
     rw[hg]at h
     have h:runD E F pm all k r (fs++[⟨o.dst,[d],[],[],false,true⟩]) (s.app o.dst {v:=.tup []}):=h
     intro hall
     exact GoesD.cons (it:=⟨o,{v:=.tup []},⟨o.dst,[d],[],[],false,true⟩⟩) rfl (fun ho=>⟨rfl,.inl rfl,fun q hq=>(by cases hq),ho,fun _=>rfl⟩) (no_loc (hall o (by simp)) hg) (runD_sound r _ _ h) hall
   | ask d b want =>
     rw[hg]at h
     have hb:=lit' hg
     cases want with
     | true =>
       cases b with
       | true =>
         have h:=h.1 rfl
         rw[lit_self hb]at h
         refine one_op (gT:=[d]) (fun hT hC=> ?_) (lift (gT:=[d]) h)
         have:=(guard_yield hC (guard_ask hg (hT d (by simp)))).2
         rw[this];rfl
       | false =>
         have h:=h.2 rfl
         rw[lit_self hb]at h
         exact skip (want:=true) hg h
     | false =>
       cases b with
       | false =>
         have h:=h.2 rfl
         rw[lit_self hb]at h
         refine one_op (gT:=[d]) (fun hT hC=> ?_) (lift (gT:=[d]) h)
         have:=(guard_yield hC (guard_ask hg (hT d (by simp)))).2
         rw[this];rfl
       | true =>
         have h:=h.1 rfl
         rw[lit_self hb]at h
         exact skip (want:=false) hg h
theorem Goes.drawn {id:Nat} {s:St} (hm:E.P.follows .mixedOrders=true) (hp:pm=true→Calm s) (h:GoesD E F pm all all.toList [] s k):Goes E F (.code (.region id all true)::k) .normal s:=by
 intro ok
 have ok1:=(okK_code.1 ok).1
 obtain⟨its,h1,h2,h3,h4,h5⟩:=h fun o ho=>List.all_eq_true.1 (show all.toList.all (okO E.n)=true from ok1) o ho
 simp only[List.nil_append,Bool.and_eq_true]at h4
 obtain⟨h4,h6⟩:=h4
 refine Goes.draw hm (G:=⟨h1,h2,h3,h4,fun⟨it,hi,hpl⟩=> ?_⟩) h5 ok
 cases pm with
 | true =>
   refine⟨hp rfl,fun x hx=> ?_⟩
   simp only[poolOk,List.all_eq_true,List.mem_map,forall_exists_index,and_imp,forall_apply_eq_imp_iff₂]at h6
   exact h6 x hx
 | false =>
   simp only[poolOk,List.all_eq_true,List.mem_map,forall_exists_index,and_imp,forall_apply_eq_imp_iff₂,Bool.not_eq_true']at h6
   rw[h6 it hi]at hpl;cases hpl
theorem Goes.drawN {id:Nat} {s:St} (hm:E.P.follows .mixedOrders=true) (h:runD E F false all k all.toList [] s):Goes E F (.code (.region id all true)::k) .normal s:=
 Goes.drawn hm (fun h=>by cases h) (runD_sound _ _ _ h)
theorem Goes.drawP {id:Nat} {s:St} (hm:E.P.follows .mixedOrders=true) (hp:Calm s) (h:runD E F true all k all.toList [] s):Goes E F (.code (.region id all true)::k) .normal s:=
 Goes.drawn hm (fun _=>hp) (runD_sound _ _ _ h)
end
theorem Goes.dP {E:Env} {F:Exit→St→Prop} {k:List Kont} {all:Array Oper} {id:Nat} {s:St} (h:runD E F true all k all.toList [] s) (hm:E.P.follows .mixedOrders=true:=by exact mixed)
 (hp:Calm s:=by exact Calm.of (by repeat first|exact Clean.und|refine Clean.upd ?_ rfl|refine Clean.upd ?_ (by simp only[cleanA,cleanL])) (by repeat first|exact HCalm.none|exact HCalm.hb hb|exact HCalm.hb (bank_hb hb)|refine HCalm.row ?_|refine HCalm.box ?_ (by first|rfl|(simp only[cleanA,cleanL];done)|assumption))):Goes E F (.code (.region id all true)::k) .normal s:=Goes.drawP hm hp h
@[congr] theorem runD_congr {E:Env} {F:Exit→St→Prop} {pm:Bool} {all:Array Oper} {k:List Kont} {r:List Oper} {fs:List Foot} {s s':St} (h:s=s'):runD E F pm all k r fs s=runD E F pm all k r fs s':=by rw[h]
def lookOk (pm:Bool) (all:Array Oper) (fs:List Foot):Prop:=(indepOk all fs&&poolOk pm fs)=true
section
variable {E:Env} {F:Exit→St→Prop} {pm:Bool} {all:Array Oper} {k:List Kont} {fs:List Foot} {s:St}
theorem runD_nil:runD E F pm all k [] fs s=(lookOk pm all fs∧Goes E F k .normal s):=rfl
theorem runD_op {o:Oper} {r:List Oper}:runD E F pm all k (o::r) fs s=@gK (guardOut all o s)
   ⟨@outKD (outD E o s) ⟨fun g xs ts ws acc=>CallD E F pm all o [] r fs g xs ts ws acc s k⟩ ⟨fun y acc=>runD E F pm all k r (fs++[⟨o.dst,tmpsOf o,acc,y.w.map (·.1),false,calmD y⟩]) (s.app o.dst y)⟩⟩
   ⟨fun d b=> @selP b ⟨@outKD (outD E o (s.lit d true)) ⟨fun g xs ts ws acc=>CallD E F pm all o [d] r fs g xs ts ws acc (s.lit d true) k⟩ ⟨fun y acc=>runD E F pm all k r (fs++[⟨o.dst,d::tmpsOf o,acc,y.w.map (·.1),false,calmD y⟩]) ((s.lit d true).app o.dst y)⟩⟩
     ⟨runD E F pm all k r (fs++[⟨o.dst,[d],[],[],false,true⟩]) ((s.lit d false).app o.dst {v:=.tup []})⟩⟩
   ⟨fun d b=> @selP b ⟨runD E F pm all k r (fs++[⟨o.dst,[d],[],[],false,true⟩]) ((s.lit d true).app o.dst {v:=.tup []})⟩ ⟨@outKD (outD E o (s.lit d false)) ⟨fun g xs ts ws acc=>CallD E F pm all o [d] r fs g xs ts ws acc (s.lit d false) k⟩
     ⟨fun y acc=>runD E F pm all k r (fs++[⟨o.dst,d::tmpsOf o,acc,y.w.map (·.1),false,calmD y⟩]) ((s.lit d false).app o.dst y)⟩⟩⟩
   ⟨fun d=>runD E F pm all k r (fs++[⟨o.dst,[d],[],[],false,true⟩]) (s.app o.dst {v:=.tup []})⟩:=rfl
theorem outKD_call {kc:HCD} {kd:HDD} {g:FuncId} {xs:List AV} {ts:List T} {ws:List (Lab×Obj)} {acc:List Lab}:@outKD (.call g xs ts ws acc) kc kd=kc.c g xs ts ws acc:=rfl
theorem outKD_dl {kc:HCD} {kd:HDD} {y:Dl} {acc:List Lab}:@outKD (.dl y acc) kc kd=kd.d y acc:=rfl
end
theorem nat0:((0:Nat):Int)=0:=rfl
theorem nat1:((1:Nat):Int)=1:=rfl
theorem lookOk.mk {pm:Bool} {all:Array Oper} {fs:List Foot} (h:(indepOk all fs&&poolOk pm fs)=true):lookOk pm all fs:=h
attribute [go_sem] nat0 nat1
theorem beq00:Nat.beq 0 0=true:=rfl
attribute [go_sem] outKD_call outKD_dl runD_nil runD_op outD beq00
theorem Wk.slots {n:Nat} {s:St} {m:Nat} (l:List (Nat×AV)) (hh:s.h=fun _=>none) (hn:s.nxt=m) (h1:∀p∈l,s.f p.1=p.2) (h4:∀p∈l,refsIn [] p.2=true):Wk n s ⟨ofL l,fun _=>none,m⟩:=by
 subst hn
 exact Wk.mk (base:=fun _=>none) l [] (fun _ _=>rfl) h1 (fun _ h=>by cases h) (fun lab _=>by rw[hh];rfl) h4 (fun _ h=>by cases h)
theorem endF.oneH {t:Nat} {x:T} {h':Heap} {m':Nat} {e:Exit} {s:St} (he:e=.normal∨e=.ret) (hx:s.f t=.t x) (hs:x.isAgg=false) (hh:∀l,Lab.pool l=true→h' l=s.h l) (hn:s.nxt=m'):endF [t] [.t x] h' m' e s:=by
 refine endF.mk (ws:=[]) (os:=[none]) (acc:=[]) [false] he rfl ?_ rfl hh hn
 have:finL (([t].map s.f).zip [false])=finL [(.t x,false)]:=by rw[List.map_cons,hx];rfl
 rw[this]
 cases x<;>first|rfl|cases hs
theorem endF.two {t u:Nat} {x y:T} {h':Heap} {m':Nat} {e:Exit} {s:St} (he:e=.normal∨e=.ret) (hx:s.f t=.t x) (hs:x.isAgg=false) (hy:s.f u=.t y) (hs':y.isAgg=false) (hh:∀l,Lab.pool l=true→h' l=s.h l) (hn:s.nxt=m'):
  endF [t,u] [.t x,.t y] h' m' e s:=by
 refine endF.mk (ws:=[]) (os:=[none,none]) (acc:=[]) [false,false] he rfl ?_ rfl hh hn
 have:finL (([t,u].map s.f).zip [false,false])=finL [(.t x,false),(.t y,false)]:=by rw[List.map_cons,List.map_cons,hx,hy];rfl
 rw[this]
 cases x<;>cases y<;>first|rfl|(cases hs;done)|(cases hs';done)
theorem endF.row {t:Nat} {lab:Lab} {v off len size frz:Nat} {es:List T} {h':Heap} {m':Nat} {e:Exit} {s:St} (he:e=.normal∨e=.ret) (hx:s.f t=.sl lab v off len) (hl:s.h lab=some (.arr size es v frz)) (hp:Lab.pool lab=false)
  (hh:∀l,Lab.pool l=true→h' l=s.h l) (hn:s.nxt=m'):endF [t] [.t (.slice ((es.drop off).take len))] h' m' e s:=by
 refine endF.mk (ws:=[(lab,.arr size es v es.length)]) (os:=[none]) (acc:=[lab]) [false] he rfl ?_ rfl (fun l hl'=> ?_) hn
 ·have:finL (([t].map s.f).zip [false])=finL [(.sl lab v off len,false)]:=by rw[List.map_cons,hx];rfl
  rw[this]
  simp[finL,fin1,reify,reify1,Rd.bind,Rd.run,hl]
 ·show _=upd s.h lab _ l
  rw[upd_ne _ _ _ _ (fun e=>by subst e;rw[hp]at hl';cases hl')]
  exact hh l hl'
theorem endF.whole {t:Nat} {lab:Lab} {v len size frz:Nat} {es:List T} {h':Heap} {m':Nat} {e:Exit} {s:St} (he:e=.normal∨e=.ret) (hx:s.f t=.sl lab v 0 len) (hl:s.h lab=some (.arr size es v frz)) (hlen:len=es.length) (hp:Lab.pool lab=false)
  (hh:∀l,Lab.pool l=true→h' l=s.h l) (hn:s.nxt=m'):endF [t] [.t (.slice es)] h' m' e s:=by
 have:=endF.row he hx hl hp hh hn
 rwa [List.drop_zero,List.take_of_length_le (by omega)]at this
theorem endF.nil {t:Nat} {h':Heap} {m':Nat} {e:Exit} {s:St} (he:e=.normal∨e=.ret) (hx:s.f t=.nil) (hh:∀l,Lab.pool l=true→h' l=s.h l) (hn:s.nxt=m'):endF [t] [.t (.slice [])] h' m' e s:=by
 refine endF.mk (ws:=[]) (os:=[none]) (acc:=[]) [false] he rfl ?_ rfl hh hn
 have:finL (([t].map s.f).zip [false])=finL [(.nil,false)]:=by rw[List.map_cons,hx];rfl
 rw[this];rfl
theorem endF.ptr {t:Nat} {id:Nat} {h':Heap} {m':Nat} {e:Exit} {s:St} (he:e=.normal∨e=.ret) (hx:s.f t=.bp (.obj id) 0) (hh:∀l,Lab.pool l=true→h' l=s.h l) (hn:s.nxt=m'):endF [t] [.t (.ptr id)] h' m' e s:=by
 refine endF.mk (ws:=[]) (os:=[none]) (acc:=[]) [false] he rfl ?_ rfl hh hn
 have:finL (([t].map s.f).zip [false])=finL [(.bp (.obj id) 0,false)]:=by rw[List.map_cons,hx];rfl
 rw[this];rfl
theorem mixH_obj (h' H:Heap) (i:Nat):mixH h' H (.obj i)=h' (.obj i):=rfl
theorem mixH_fld (h' H:Heap) (i j:Nat):mixH h' H (.fld i j)=h' (.fld i j):=rfl
theorem mixH_loc (h' H:Heap) (d j:Nat):mixH h' H (.loc d j)=(H (.loc d j)).map killO:=rfl
theorem killF_upd (f:Nat→AV) (d:Nat) (v:AV):killF (upd f d v)=upd (killF f) d (killP v):=by
 funext t
 by_cases h:t=d
 ·subst h;simp[killF,upd_same]
 ·simp[killF,upd_ne _ _ _ _ h]
theorem killF_und:killF (fun _=>.und)=fun _=>.und:=rfl
theorem killP_t (t:T):killP (.t t)=.t t:=rfl
theorem killP_nil:killP .nil=.nil:=rfl
theorem killP_tup0:killP (.tup [])=.tup []:=rfl
attribute [go_sem] killP_tup0
theorem killP_loc (d j v o n:Nat):killP (.sl (.loc d j) v o n)=.sl (.loc d j) v o n:=rfl
theorem killP_bp (i j:Nat):killP (.bp (.obj i) j)=.bp (.obj i) j:=rfl
theorem killO_arr (size:Nat) (es:List T) (v frz:Nat):killO (.arr size es v frz)=.arr size es v frz:=rfl
attribute [go_sem] Nat.zero_le List.nil_append List.cons_append List.append_nil decide_true decide_false Nat.add_zero List.map_cons List.map_nil List.length_cons List.length_nil List.length_append List.map_append Option.map_some List.foldl_cons List.foldl_nil mixH_obj mixH_fld mixH_loc killF_upd killF_und killP_t killP_nil killP_loc killP_bp killO_arr Option.map_none
theorem lab_ne_loc_arg (d1 j1 i2:Nat):(Lab.loc d1 j1=Lab.arg i2)=False:=by simp
theorem lab_ne_loc_obj (d1 j1 n2:Nat):(Lab.loc d1 j1=Lab.obj n2)=False:=by simp
theorem lab_ne_loc_fld (d1 j1 p2 q2:Nat):(Lab.loc d1 j1=Lab.fld p2 q2)=False:=by simp
theorem lab_ne_arg_loc (i1 d2 j2:Nat):(Lab.arg i1=Lab.loc d2 j2)=False:=by simp
theorem lab_ne_arg_obj (i1 n2:Nat):(Lab.arg i1=Lab.obj n2)=False:=by simp
theorem lab_ne_arg_fld (i1 p2 q2:Nat):(Lab.arg i1=Lab.fld p2 q2)=False:=by simp
theorem lab_ne_obj_loc (n1 d2 j2:Nat):(Lab.obj n1=Lab.loc d2 j2)=False:=by simp
theorem lab_ne_obj_fld (n1 p2 q2:Nat):(Lab.obj n1=Lab.fld p2 q2)=False:=by simp
theorem lab_ne_fld_loc (p1 q1 d2 j2:Nat):(Lab.fld p1 q1=Lab.loc d2 j2)=False:=by simp
theorem lab_ne_fld_obj (p1 q1 n2:Nat):(Lab.fld p1 q1=Lab.obj n2)=False:=by simp
attribute [go_sem] lab_ne_loc_arg lab_ne_loc_obj lab_ne_loc_fld lab_ne_arg_loc lab_ne_arg_obj lab_ne_arg_fld lab_ne_obj_loc lab_ne_obj_fld lab_ne_fld_loc lab_ne_fld_obj Lab.loc.injEq Lab.arg.injEq Lab.obj.injEq Lab.fld.injEq Lab.res.injEq
theorem intsAll (k:IntKind) (l:List Int):((l.map (T.int k)).all fun e=>e.cells.length==1)=true:=by simp[T.cells]
attribute [go_sem] intsAll Nat.zero_add Nat.le_refl
theorem takeMapLen {α β:Type} (f:α→β) (l:List α):(l.map f).take l.length=l.map f:=List.take_of_length_le (by simp)
attribute [go_sem] List.set_cons_zero List.set_cons_succ List.take_succ_cons List.take_zero List.drop_succ_cons Lab.isObj takeMapLen List.take_length List.drop_zero List.all_cons List.all_nil Bool.and_true Bool.true_and Bool.and_false Bool.false_and
theorem all_nil {α:Type} {p:α→Prop}:(∀x∈([]:List α),p x)=True:=by simp
theorem all_cons {α:Type} {p:α→Prop} {a:α} {l:List α}:(∀x∈a::l,p x)=(p a∧∀x∈l,p x):=by simp
attribute [go_sem] all_nil all_cons and_true true_and
theorem w64 {n:Int} (h1: -9223372036854775808≤n) (h2:n≤9223372036854775807):IntKind.wrap .i64 n=n:=by
 have e:IntKind.wrap .i64 n=if n%18446744073709551616≥9223372036854775808 then n%18446744073709551616-18446744073709551616 else n%18446744073709551616:=by
  simp[IntKind.wrap,IntKind.bits,IntKind.signed]
 rw[e]
 split<;>omega
theorem wS {i:Nat} (h:i<1000000000000):IntKind.wrap .i64 ((i:Int)+1)=((i+1:Nat):Int):=by rw[w64]<;>omega
theorem wSub {a b:Nat} (h:b≤a) (h':a<1000000000000):IntKind.wrap .i64 ((a:Int)-b)=((a-b:Nat):Int):=by rw[w64]<;>omega
open Go.Deep Go.ChangeShapes Go.RowKit
def layOK (P:Program) (tot:Nat):Nat→List Field→Bool
 |o,[]=>o==tot
 |o,f::r=>f.offset==o&&layOK P tot (o+P.cellsOf f.type) r
def okT (P:Program):Nat→TypeId→Bool
 |0,_=>false
 | n + 1, t => match P.underlying t with
   |some .bool|some (.int _)|some .string=>true
   |some (.slice e)=>P.cellsOf e !=0&&okT P n e
   |some (.struct fs)=>layOK P (P.cellsOf t) 0 fs.toList&&fs.toList.all fun f=>okT P n f.type
   |_=>false
def mkT (P:Program) (t:TypeId) (ts:List T):T:=match P.underlying t with
 |some (.struct _)=>.agg ts
 |_=>ts.headD .nilp
def Typed (P:Program):Nat→TypeId→List T→Prop
 |0,_,_=>False
 | n + 1, t, ts => match P.underlying t with
   |some .bool=>∃b,ts=[.bool b]
   |some (.int k)=>∃x,ts=[.int k x]∧(Lit.int k x).wf=true
   |some .string=>∃s,ts=[.str s]∧s.length≤reachBytes
   |some (.slice e)=>∃es:List T,ts=[.slice es]∧es.length*P.bytesOf e≤reachBytes∧∀x∈es,x=mkT P e x.cells∧Typed P n e x.cells
   |some (.struct fs)=>ts.length=P.cellsOf t∧∀f∈fs.toList,Typed P n f.type ((ts.drop f.offset).take (P.cellsOf f.type))
   |_=>False
def seen (w:World):Addr→Prop:=fun a=>∃v,w.cell? a=some v
theorem seen_lt {w:World} {a:Addr} (h:seen w a):a.block<w.heap.size∧a.spot=none:=by
 obtain⟨v,h⟩:=h
 refine⟨?_,World.cell?_spot h⟩
 have:(w.heap[a.block]?).isSome=true:=by
  unfold World.cell? at h
  split at h
  ·rename_i he;simp[he]
  ·cases h
 simpa using this
theorem lay_concat {P:Program} {tot:Nat} {R:Field→List T→Prop} {Q:Nat→T→Prop}:∀(fs:List Field) (o:Nat),layOK P tot o fs=true→
  (∀f∈fs,∃l:List T,l.length=P.cellsOf f.type∧R f l∧∀j c,l[j]?=some c→Q (f.offset+j) c)→
  ∃ts:List T,o+ts.length=tot∧(∀f∈fs,o≤f.offset∧R f ((ts.drop (f.offset-o)).take (P.cellsOf f.type)))∧∀j c,ts[j]?=some c→Q (o+j) c
 |[],o,h,_=>⟨[],by simpa [layOK] using h,by simp,by simp⟩
 | f :: r, o, h, hR => by
   simp only[layOK,Bool.and_eq_true,beq_iff_eq]at h
   obtain⟨l,hl,hlR,hlQ⟩:=hR f (by simp)
   obtain⟨ts,h1,h2,h3⟩:=lay_concat r _ h.2 fun f hf=>hR f (by simp[hf])
   refine⟨l++ts,by simp;omega,fun f' hf'=> ?_,fun j c hj=> ?_⟩
   ·rcases List.mem_cons.1 hf' with rfl|hf'
    ·refine⟨by omega,?_⟩
     rw[show f'.offset-o=0 by omega,List.drop_zero,←hl,List.take_left]
     exact hlR
    ·obtain⟨g1,g2⟩:=h2 f' hf'
     refine⟨by omega,?_⟩
     rw[show f'.offset-o=l.length+(f'.offset-(o+P.cellsOf f.type)) by omega,List.drop_append,List.drop_eq_nil_of_le (by omega),List.nil_append,Nat.add_sub_cancel_left]
     exact g2
   ·by_cases hlt:j<l.length
    ·rw[List.getElem?_append_left hlt]at hj
     have:=hlQ j c hj
     rwa [h.1]at this
    ·rw[List.getElem?_append_right (by omega)]at hj
     have:=h3 _ c hj
     rwa [show o+P.cellsOf f.type+(j-l.length)=o+j by omega]at this
theorem lay_mem {P:Program} {tot:Nat}:∀(fs:List Field) (o:Nat),layOK P tot o fs=true→o≤tot∧∀f∈fs,f.offset+P.cellsOf f.type≤tot
 |[],o,h=>⟨by simp[layOK]at h;omega,by simp⟩
 | f :: r, o, h => by
   simp only[layOK,Bool.and_eq_true,beq_iff_eq]at h
   obtain⟨h1,h2⟩:=lay_mem r _ h.2
   refine⟨by omega,fun g hg=> ?_⟩
   rcases List.mem_cons.1 hg with rfl|hg
   ·omega
   ·exact h2 g hg
theorem weightsAll_mem {H:Type} {P:Program} {e:TypeId}:∀(l:List (DataW H)) (d:DataW H),d∈l→∀n∈d.weights P e,n∈DataW.weightsAll P e l
 |[],_,h,_,_=>by cases h
 | x :: r, d, h, n, hn => by
   simp only[DataW.weightsAll,List.mem_append]
   rcases List.mem_cons.1 h with rfl|h
   ·exact .inl hn
   ·exact .inr (weightsAll_mem r d h n hn)
theorem mkT_cells {P:Program} {t:TypeId} {ts:List T} {n:Nat} (h:Typed P n t ts) (hsc:∀c∈ts,c.scal) (hl:ts.length=P.cellsOf t):(mkT P t ts).cells=ts:=by
 cases n with
 |zero=>exact h.elim
 | succ n =>
   unfold Typed at h
   unfold mkT
   cases hu:P.underlying t with
   |none=>rw[hu]at h;exact h.elim
   | some d =>
     rw[hu]at h
     cases d with
     |struct fs=>rfl
     |bool=>obtain⟨b,rfl⟩:=h;rfl
     |int k=>obtain⟨b,rfl,_⟩:=h;rfl
     |string=>obtain⟨b,rfl,_⟩:=h;rfl
     |slice e=>obtain⟨b,rfl,_⟩:=h;rfl
     |_=>exact h.elim
section
variable {H:Type} {enc:TypeId×Value→H} {P:Program} {w:World} {base:Nat} {spare:Nat→Bool} {held:Bool}
theorem read_typed : ∀ (m : Nat) {t : TypeId} {fuel : Nat} {cs : List Value} {x : DataW H × List MemPlace}, okT P m t = true → DataW.trod enc P w base spare held fuel t cs = some x → (∀ n ∈ x.1.weights P t, n ≤ reachBytes) →
  ∃ts:List T,Typed P m t ts∧ts.length=cs.length∧(∀c∈ts,c.scal)∧∀(O:Nat→Option Nat) (j:Nat) (c:T) (v:Value),ts[j]?=some c→cs[j]?=some v→RepT O w (seen w) c v
 |0,_,_,_,_,h,_,_=>by simp[okT]at h
 | m + 1, t, fuel, cs, x, h, hx, hw => by
   unfold okT at h
   unfold Typed
   cases hu:P.underlying t with
   |none=>simp[hu]at h
   | some d =>
     simp only[hu]at h
     cases d with
     | bool =>
       obtain⟨b,rfl,rfl⟩:=DataW.trod_bool hu hx
       refine⟨[.bool b],⟨b,rfl⟩,rfl,by simp[T.scal],fun O j c v h1 h2=> ?_⟩
       cases j with
       |zero=>simp at h1 h2;subst h1;subst h2;exact .bool b
       |succ j=>simp at h1
     | int k =>
       obtain⟨b,rfl,rfl,hwf⟩:=DataW.trod_int hu hx
       refine⟨[.int k b],⟨b,rfl,hwf⟩,rfl,by simp[T.scal],fun O j c v h1 h2=> ?_⟩
       cases j with
       |zero=>simp at h1 h2;subst h1;subst h2;exact .int k b
       |succ j=>simp at h1
     | string =>
       obtain⟨b,rfl,rfl,hwf⟩:=DataW.trod_string hu hx
       refine⟨[.str b.data.toList],⟨_,rfl,hw _ (by simp[DataW.weights])⟩,rfl,by simp[T.scal],fun O j c v h1 h2=> ?_⟩
       cases j with
       |zero=>simp at h1 h2;subst h1;subst h2;exact .str _ _ (by simp)
       |succ j=>simp at h1
     | slice e =>
       simp only[Bool.and_eq_true,bne_iff_ne,ne_eq]at h
       rcases DataW.trod_slice hu hx with ⟨rfl,rfl⟩|⟨a,len,cap,elems,rest,n,_,rfl,rfl,hb,hl,hm,hlen,hel,_,_⟩
       ·refine⟨[.slice []],⟨[],rfl,by simp,by simp⟩,rfl,by simp[T.scal],fun O j c v h1 h2=> ?_⟩
        cases j with
        |zero=>simp at h1 h2;subst h1;subst h2;exact .slice [] none ⟨0,0,none⟩ 0 1 (fun _ _=>undef) (Nat.le_refl _) (by simp) (by simp) (by simp) (by simp) (by simp)
        |succ j=>simp at h1
       ·have each : ∀ i, i < len → ∃ ts : List T, Typed P m e ts ∧ ts.length = P.cellsOf e ∧ (∀ c ∈ ts, c.scal) ∧ ∀ (O : Nat → Option Nat) (j : Nat) (c : T), ts[j]? = some c → ∃ v, w.cell? ((a.add (i * P.cellsOf e)).add j) = some v ∧ RepT O w (seen w) c v := by
         intro i hi
         have:=hel i hi
         rw[List.getElem?_eq_getElem (by omega)]at this
         obtain⟨cs',hcs,hy⟩:=Option.bind_eq_some_iff.1 this
         obtain⟨_,hcl,hcc⟩:=World.cells?_some hcs
         obtain⟨ts,g1,g2,g3,g4⟩:=read_typed m h.2 hy fun n hn=>hw n (by
           simp only[DataW.weights,hu,List.mem_cons,List.mem_append]
           exact .inr (.inl (weightsAll_mem (elems.map (·.1)) _ (List.mem_map_of_mem (f:=fun y:DataW H×List MemPlace=>y.1) (List.getElem_mem (show i<elems.length by omega))) n hn)))
         refine⟨ts,g1,by omega,g3,fun O j c hj=> ?_⟩
         have hjl:=(List.getElem?_eq_some_iff.1 hj).1
         have hjc:cs'[j]?=some (cs'[j]'(by omega)):=List.getElem?_eq_getElem _
         exact⟨_,(hcc j (by omega)).trans hjc,g4 O j c _ hj hjc⟩
        obtain⟨f,hf⟩:=choose_lt each
        have hspot:0<len→a.spot=none:=by
         intro h0
         obtain⟨g1,g2,g3,g4⟩:=hf 0 h0
         have h1:0<P.cellsOf e:=by omega
         obtain⟨v,hv,_⟩:=g4 (fun _=>none) 0 _ (List.getElem?_eq_getElem (by omega))
         have:=World.cell?_spot hv
         simpa [Addr.add] using this
        have hadd:∀k j,0<len→(a.add k).add j=⟨a.block,a.off+k+j,none⟩:=by
         intro k j h0
         rw[Deep.add_add]
         unfold Addr.add
         have:=hspot h0
         split
         ·rename_i hz
          have:k=0∧j=0:=by omega
          cases a;simp_all
         ·simp[Nat.add_assoc]
        refine⟨[.slice ((List.range len).map fun i=>mkT P e (f i))],⟨_,rfl,?_,?_⟩,rfl,by simp[T.scal],fun O j c v h1 h2=> ?_⟩
        ·have:=hw ((elems.length+rest.length)*P.bytesOf e) (by simp[DataW.weights,hu])
         refine Nat.le_trans (Nat.mul_le_mul_right _ ?_) this
         simp;omega
        ·intro x hx
         obtain⟨i,hi,rfl⟩:=List.mem_map.1 hx
         obtain⟨g1,g2,g3,g4⟩:=hf i (by simpa using hi)
         rw[mkT_cells g1 g3 g2]
         exact⟨rfl,g1⟩
        ·cases j with
         |succ j=>simp at h1
         | zero =>
           simp at h1 h2;subst h1;subst h2
           have key:∀(i:Nat) (e':T),((List.range len).map fun i=>mkT P e (f i))[i]?=some e'→i<len∧e'=mkT P e (f i):=by
            intro i e' he
            have hi:=(List.getElem?_eq_some_iff.1 he).1
            simp at hi
            rw[List.getElem?_map,List.getElem?_range hi]at he
            exact⟨hi,(Option.some.inj he).symm⟩
           have:RepT O w (seen w) (.slice ((List.range len).map fun i=>mkT P e (f i))) (.slice (some a) ((List.range len).map fun i=>mkT P e (f i)).length cap):=by
            refine .slice _ (some a) a cap (P.cellsOf e) (fun i j=>(w.cell? ⟨a.block,a.off+i*P.cellsOf e+j,none⟩).getD undef) (by simpa using hl) (fun hne=>⟨rfl,hspot ?_⟩) ?_ ?_ ?_ ?_
            ·cases len with
             |zero=>simp at hne
             |succ n=>omega
            ·intro e' he'
             obtain⟨i,hi,rfl⟩:=List.mem_map.1 he'
             obtain⟨g1,g2,g3,g4⟩:=hf i (by simpa using hi)
             rw[mkT_cells g1 g3 g2];exact g2
            ·intro e' he'
             obtain⟨i,hi,rfl⟩:=List.mem_map.1 he'
             obtain⟨g1,g2,g3,g4⟩:=hf i (by simpa using hi)
             rw[mkT_cells g1 g3 g2];exact g3
            ·intro i j e' c he hc
             obtain⟨hi,rfl⟩:=key i e' he
             obtain⟨g1,g2,g3,g4⟩:=hf i hi
             rw[mkT_cells g1 g3 g2]at hc
             obtain⟨v,hv,_⟩:=g4 O j c hc
             rw[hadd _ _ (by omega)]at hv
             exact⟨by rw[hv];rfl,⟨v,hv⟩⟩
            ·intro i j e' c he hc
             obtain⟨hi,rfl⟩:=key i e' he
             obtain⟨g1,g2,g3,g4⟩:=hf i hi
             rw[mkT_cells g1 g3 g2]at hc
             obtain⟨v,hv,hr⟩:=g4 O j c hc
             rw[hadd _ _ (by omega)]at hv
             simp only[hv,Option.getD_some]
             exact hr
           simpa using this
     | struct fs =>
       simp only[Bool.and_eq_true,List.all_eq_true]at h
       obtain⟨xs,n,rfl,rfl,hcl,hxl,hfx⟩:=DataW.trod_struct hu hx
       have hmem:=lay_mem _ _ h.1
       obtain⟨ts,g1,g2,g3⟩:=lay_concat (P:=P) (tot:=P.cellsOf t) (R:=fun f l=>Typed P m f.type l) (Q:=fun i c=>c.scal∧∀O v,cs[i]?=some v→RepT O w (seen w) c v) fs.toList 0 h.1 (by
         intro f hf
         obtain⟨i,hi⟩:=List.getElem?_of_mem hf
         have hi':fs[i]?=some f:=by simpa using hi
         have hil:i<xs.length:=by
           have:=(Array.getElem?_eq_some_iff.1 hi').1
           omega
         have hy:=hfx i f hi'
         rw[List.getElem?_eq_getElem hil]at hy
         obtain⟨ts,g1,g2,g3,g4⟩:=read_typed m (h.2 f hf) hy fun n hn=>hw n (by
           simp only[DataW.weights,hu]
           exact DataW.weights_mem_each (j:=i) (t:=f.type) (d:=(xs[i]).1) (by simp[hi']) (by simp[List.getElem?_eq_getElem hil]) n hn)
         have:=hmem.2 f hf
         refine⟨ts,?_,g1,fun j c hj=>⟨g3 c (List.mem_of_getElem? hj),fun O v hv=>g4 O j c v hj ?_⟩⟩
         ·rw[g2];simp;omega
         · have hjl := (List.getElem?_eq_some_iff.1 hj).1
           rw[g2]at hjl
           simp at hjl
           rw[List.getElem?_take,if_pos (by omega),List.getElem?_drop]
           exact hv)
       rw[Nat.zero_add]at g1
       refine⟨ts,⟨g1,fun f hf=>by simpa using (g2 f hf).2⟩,by omega,fun c hc=> ?_,fun O j c v hj hv=> ?_⟩
       ·obtain⟨j,hj⟩:=List.getElem?_of_mem hc
        exact(g3 j c hj).1
       ·exact(g3 j c hj).2 O v (by simpa using hv)
     |_=>simp at h
theorem read_arg {m:Nat} {r:Reach} {b0:Nat} {t:TypeId} {v:Value} {d:DataW H} {p:List MemPlace} (hok:okT P m t=true) (hval:Value.okWide P w r b0 t v) (h:DataW.Trod enc P w base spare held t v d p) (hw:∀n∈d.weights P t,n≤reachBytes):
  ∃ts,Typed P m t ts∧∀O,RepT O w (seen w) (mkT P t ts) v:=by
 obtain⟨fuel,hf⟩:=h
 obtain⟨ts,g1,g2,g3,g4⟩:=read_typed m hok hf hw
 refine⟨ts,g1,fun O=> ?_⟩
 cases m with
 |zero=>simp[okT]at hok
 | succ m =>
   have hval0:=hval
   unfold Typed at g1
   unfold Value.okWide at hval
   unfold mkT
   unfold okT at hok
   cases hu:P.underlying t with
   |none=>simp[hu]at hok
   | some dd =>
     simp only[hu]at g1 hval hok
     cases dd with
     | struct fs =>
       obtain⟨cs,rfl,hcs,_⟩:=hval
       simp only[Value.cells]at g2 g4
       exact .agg ts cs (by simpa using g2.symm) g3 fun j c v hj hv=>g4 O j c v hj (by simpa using hv)
     | bool =>
       obtain⟨b,rfl,_⟩:=RowKit.open_bool hu hval0 ⟨fuel,hf⟩
       obtain⟨b',rfl⟩:=g1
       exact g4 O 0 _ _ rfl rfl
     | int k =>
       obtain⟨b,rfl,_⟩:=open_int hu hval0 ⟨fuel,hf⟩
       obtain⟨b',rfl,_⟩:=g1
       exact g4 O 0 _ _ rfl rfl
     | string =>
       obtain⟨b,rfl,_⟩:=Go.ChangeMaps.open_string hu hval0 ⟨fuel,hf⟩
       obtain⟨b',rfl,_⟩:=g1
       exact g4 O 0 _ _ rfl rfl
     | slice e =>
       obtain⟨a,len,cap,rfl⟩:=Go.WideShapes.okWide_slice hu hval0
       obtain⟨b',rfl,_⟩:=g1
       exact g4 O 0 _ _ rfl rfl
     |_=>simp at hok
def Datas (P:Program) (m:Nat):List TypeId→List T→Prop
 |[],[]=>True
 |t::ts,x::xs=>(∃l,Typed P m t l∧x=mkT P t l)∧Datas P m ts xs
 |_,_=>False
theorem read_args {m:Nat} {r:Reach} {b0:Nat}:∀{pt:List TypeId} {vs:List Value} {ds:List (DataW H)} {p:List MemPlace},pt.all (okT P m)=true→(∀(j:Nat) t v,pt[j]?=some t→vs[j]?=some v→Value.okWide P w r b0 t v)→
  DataW.TrodAll enc P w base spare held pt vs ds p→(∀n∈DataW.weightsEach P pt ds,n≤reachBytes)→
  ∃xs,Datas P m pt xs∧xs.length=vs.length∧∀(O:Nat→Option Nat) (j:Nat) (x:T) (v:Value),xs[j]?=some x→vs[j]?=some v→RepT O w (seen w) x v
 | [], vs, ds, p, _, _, h, _ => by
   obtain⟨rfl,rfl,rfl⟩:=trodAll_nil h
   exact⟨[],trivial,rfl,by simp⟩
 | t :: pt, vs, ds, p, hok, hval, h, hw => by
   obtain⟨v,vs,d,ds,p,q,rfl,rfl,rfl,h1,h2⟩:=trodAll_cons h
   simp only[List.all_cons,Bool.and_eq_true]at hok
   obtain⟨ts,g1,g2⟩:=read_arg hok.1 (hval 0 t v rfl rfl) h1 fun n hn=>hw n (by simp only[DataW.weightsEach,List.mem_append];exact .inl hn)
   obtain⟨xs,k1,k2,k3⟩:=read_args hok.2 (fun j t v h1 h2=>hval (j+1) t v h1 h2) h2 fun n hn=>hw n (by simp only[DataW.weightsEach,List.mem_append];exact .inr hn)
   refine⟨mkT P t ts::xs,⟨⟨ts,g1,rfl⟩,k1⟩,by simp[k2],fun O j x v hx hv=> ?_⟩
   cases j with
   |zero=>simp at hx hv;subst hx;subst hv;exact g2 O
   |succ j=>exact k3 O j x v (by simpa using hx) (by simpa using hv)
theorem args_back (hl:laidOutB P=true) {W W':World} (hb:Below W.heap.size W W'):∀{pt:List TypeId} {vs:List Value} {ds:List (DataW H)} {p:List MemPlace},(pt.all fun t=>P.readableRec t&&decide (t<P.types.size))=true→
  DataW.TrodAll enc P W 0 (fun _=>true) true pt vs ds p→DataW.TrodAll enc P W' 0 (fun b=>decide (b<W.heap.size)) true pt vs ds p
 | [], vs, ds, p, _, h => by
   obtain⟨rfl,rfl,rfl⟩:=trodAll_nil h
   exact rfl
 | t :: pt, vs, ds, p, hok, h => by
   obtain⟨v,vs,d,ds,p,q,rfl,rfl,rfl,h1,h2⟩:=trodAll_cons h
   simp only[List.all_cons,Bool.and_eq_true,decide_eq_true_eq]at hok
   have lt:∀x∈p,x.block<W.heap.size:=by obtain⟨m,hm⟩:=h1;exact DataW.trod_lt m _ _ _ hm
   exact trodAll_cons_mk (Below.trod hl hok.1.1 hok.1.2 h1 hb lt) (args_back hl hb hok.2 h2)
end
theorem pure_calls {P:Program} {n:FuncId} {xs:List T} {W:World} {args:Array Value} (h:Pure P n xs [.t (.bool true)]) (hlen:xs.length=args.toList.length)
  (hr:∀(O:Nat→Option Nat) (j:Nat) (x:T) (v:Value),xs[j]?=some x→args.toList[j]?=some v→RepT O W (seen W) x v):
  Calls P n args W fun e W'=>e=.returned (.bool true)∧Below W.heap.size W W':=by
 have M:Mem ⟨W,fun _=>none,seen W,fun _=>none⟩ (fun _=>none) (seen W) (fun _=>none) 0 W:=
  { inj := by simp, dom := by simp, lt := by simp, objs := by simp, stab := fun a _ => by rintro ⟨l, _⟩; simp_all, slt := fun a h => seen_lt h, nx := by simp, sub := fun _ h => h, sup := fun _ h => .inl h, grow := Nat.le_refl _,
    os:=rfl,tape:=rfl,output:=rfl,keep:=fun _ _ _=>rfl,keepS:=fun _ _ _ h=>h,old:=by simp,loc0:=by simp,objk:=by simp,fldk:=fun _ _ _ h=>(by cases h)}
 have:=Ret.use h (fun _=>none) (seen W) W args.toList (fun _ _=>rfl) M hlen.symm (fun j t v h1 h2=>hr _ j t v h1 h2)
 rw[Array.toArray_toList]at this
 refine Calls.mono this ?_
 rintro e W' ⟨v,φ',S',rfl,M',hv⟩
 refine⟨?_,⟨M'.os,M'.tape,M'.output,M'.grow,fun k hk=>M'.keep k hk (by simp)⟩⟩
 cases hv with
 |t _ _ h=>cases h;rfl
section
variable {H:Type} {enc:TypeId×Value→H}
theorem law_row {C:Checked} {os:Os} {f:FuncId} {fn:Func} {s:ChangeSpec} {m:Nat} (own:ownKnob C.prog.godebug=none) (started:os.Started) (noInit:C.prog.inits.idxOf? f=none) (hfn:C.prog.funcs[f]?=some fn)
  (witness:∃(w:World) (tape:Tape) (i:Input),w.os=os∧(w.forCall tape i).Shaped C.prog∧i.vars=[]∧Input.okWide C.prog (w.forCall tape i) .any w.heap.size f i∧
    s.pre6 enc C.prog fn [] false (w.forCall tape i).memory i.args∧Assume.holds {} C.prog (lone (Frame.enter C.prog f i.args .normal) [] (w.forCall tape i)))
  (laid:laidOutB C.prog=true) {pt:List TypeId} (hp:fn.params.toList=pt) (hok:pt.all (okT C.prog m)=true) (hrd:(pt.all fun t=>C.prog.readableRec t&&decide (t<C.prog.types.size))=true)
  {rt:TypeId} (hres:fn.resultTypes= #[rt]) (hrt:C.prog.underlying rt=some .bool) (hvars:s.vars=[])
  (hspec:∀ds:List (DataW H),ds.length=pt.length→(s.fn H ds).results=[.lit (.bool true)]∧(s.fn H ds).args=ds∧(s.fn H ds).vars=[])
  (law:∀xs,Datas C.prog m pt xs→Pure C.prog f xs [.t (.bool true)]):
  ReturnsInHanded {} C os f .any (s.pre6 enc C.prog fn [] false) (s.post enc C.prog fn false true false false):=by
 subst hp
 refine returnsInHanded_of_change_sized own started noInit hfn witness ?_
 intro W base args ds gs before hval hW hcnd hsz _
 have hW':=hW
 obtain⟨p,q,hA,hV,rfl,hfz,hnd⟩:=hW
 rw[hvars]at hV
 obtain⟨rfl,rfl⟩:=trodVars_none hV
 have hsz':∀n∈DataW.weightsEach C.prog fn.params.toList ds,n≤reachBytes:=by
  intro n hn
  have hev:s.plain.varTypes C.prog=[]:=by
   have:s.plain.vars=[]:=hvars
   simp[DataSpec.varTypes,this]
  rw[hev,List.append_nil,List.append_nil]at hsz
  simpa using List.all_eq_true.1 hsz n hn
 obtain⟨xs,h1,h2,h3⟩:=read_args hok (fun j t v hj hv=>hval j t v (by simpa using hj) (by simpa using hv)) hA hsz'
 refine(pure_calls (law xs h1) h2 h3).mono fun e W' ⟨he,bel⟩=> ?_
 subst he
 have hlen:∀{pt:List TypeId} {vs:List Value} {ds:List (DataW H)} {p:List MemPlace},DataW.TrodAll enc C.prog W 0 (fun _=>true) true pt vs ds p→ds.length=pt.length:=by
  intro pt
  induction pt with
  |nil=>intro vs ds p h;obtain⟨_,rfl,_⟩:=trodAll_nil h;rfl
  |cons t pt ih=>intro vs ds p h;obtain⟨v,vs,d,ds,p,q,rfl,rfl,rfl,h1,h2⟩:=trodAll_cons h;simp[ih h2]
 obtain⟨s1,s2,s3⟩:=hspec ds (hlen hA)
 refine⟨_,rfl,ds,[],p++[],[],p,[],hW',?_,?_,?_,bel.frame _,fun h=>by cases h⟩
 ·rw[List.append_nil,s1,hres]
  exact trodAll_mk1 (RowKit.shut_bool hrt _)
 ·rw[List.append_nil,s2]
  exact args_back laid bel hrd hA
 ·rw[List.append_nil,s3,hvars]
  exact rfl
end
end Go.Fm
namespace Go.Fm
def Obj.isRow:Obj→Bool
 |.arr ..|.map _=>true
 |_=>false
theorem Wk.rows {n:Nat} {s:St} {base:Heap} {m:Nat} (l:List (Nat×AV)) (hl:List (Lab×Obj)) (hb:∀lab,Lab.pool lab=false→base lab=none) (hn:s.nxt=m) (hloc:(hl.all fun p=> !p.1.pool&&p.2.isRow)=true)
  (h2:∀p∈hl,s.h p.1=some p.2) (h3:∀lab,Lab.pool lab=true→s.h lab=base lab) (h1:∀p∈l,s.f p.1=p.2) (h4:∀p∈l,refsIn (hl.map (·.1)) p.2=true):Wk n s ⟨ofL l,ofH base hl,m⟩:=by
 subst hn
 have hloc:∀p∈hl,Lab.pool p.1=false∧p.2.isRow=true:=fun p hp=>by
  have:=List.all_eq_true.1 hloc p hp
  simpa using this
 refine Wk.mk l hl hb h1 h2 (fun lab hp=> ?_) h4 (fun p hp _ cs hc=> ?_)
 ·have:lab∉hl.map (·.1):=fun hm=>by
   obtain⟨p,hp',rfl⟩:=List.mem_map.1 hm
   rw[(hloc p hp').1]at hp;cases hp
  rw[ofH_out this,h3 lab hp]
 ·have:=(hloc p hp).2
  rw[hc]at this;cases this
theorem Wk.mixed {n:Nat} {s:St} {base:Heap} {m:Nat} (l:List (Nat×AV)) (hb:∀lab,Lab.pool lab=false→base lab=none) (hn:s.nxt=m) (h3:∀lab,Lab.pool lab=true→s.h lab=base lab) (h1:∀p∈l,s.f p.1=p.2) (h4:∀p∈l,refsIn [] p.2=true):Wk n s ⟨ofL l,base,m⟩:=
 Wk.rows (base:=base) l [] hb hn rfl (fun _ h=>by cases h) h3 h1 h4
end Go.Fm
namespace Go.Fm
section
variable {E:Env} {F:Exit→St→Prop} {g:FuncId} {xs:List AV} {ts:List T} {ws:List (Lab×Obj)} {d:Option Tmp} {k:List Kont} {s:St}
theorem CallG.pure (rs:List RC) (he:Entry E.P g) (hP:Pure E.P g ts rs) (hn:ts.all noPtr=true) (hf:rs.all flatRC=true) (hg:Goes E F k .normal (s.put d (retVal none rs))):CallG E F g xs ts ws d k s:=
 ⟨_,he,Takes.pure rs _ hP (fun t ht=>List.all_eq_true.1 hn t ht) rfl,by
   rw[if_pos hf]
   have e:({(s.put d (retVal none rs)) with h:=s.h}:St)=s.put d (retVal none rs):=by cases d<;>rfl
   rw[e];exact hg⟩
theorem CallG.pureS (rs:List RC) (he:Entry E.P g) (hP:Pure E.P g ts rs) (hn:ts.all noPtr=true) (hf:rs.all flatRC=false) (hg:Goes E F k .normal {(s.put d (retVal none rs)) with h:=writes s.h ws}):CallG E F g xs ts ws d k s:=
 ⟨_,he,Takes.pure rs _ hP (fun t ht=>List.all_eq_true.1 hn t ht) rfl,by
   rw[if_neg (by simp[hf])];exact hg⟩
theorem poolH_eq {H h:Heap} (hb:∀l,Lab.pool l=false→h l=none) (he:∀l,Lab.pool l=true→H l=h l):poolH H=h:=by
 funext l
 unfold poolH
 split
 ·rename_i hp;exact he l hp
 ·rename_i hp;exact(hb l (by simpa using hp)).symm
theorem CallG.pool (rs:List RC) {h h':Heap} {n':Nat} (he:Entry E.P g) (hP:Ret E.P g ts h s.nxt rs h' n') (hb:∀l,Lab.pool l=false→h l=none) (hh:∀l,Lab.pool l=true→writes s.h ws l=h l)
  (hg:Goes E F k .normal (St.put ⟨killF s.f,mixH h' (writes s.h ws),n'⟩ d (retVal none rs))):CallG E F g xs ts ws d k s:=
 ⟨_,he,Takes.pool rs h' _ n' _ (by rw[poolH_eq hb hh];exact hP) rfl rfl,hg⟩
theorem CallG.lend (as:List AV) (ws2:List (Lab×Obj)) (rs:List RC) {acc:List Lab} {h h':Heap} {n':Nat} (he:Entry E.P g) (hr:(passE xs).run s.h=some ((as,ws2),acc)) (hP:RetA E.P g as h s.nxt rs h' n') (hb:∀l,Lab.pool l=false→h l=none) (hh:∀l,Lab.pool l=true→writes s.h ws2 l=h l)
  (hg:Goes E F k .normal (St.put ⟨killF s.f,mixH h' (writes s.h ws2),n'⟩ d (retVal none rs))):CallG E F g xs ts ws d k s:=
 ⟨_,he,Takes.lend as ws2 acc rs h' _ n' _ hr (by rw[poolH_eq hb hh];exact hP) rfl rfl,hg⟩
theorem CallG.pureAd (rs:List RC) (d':Nat) (he:Entry E.P g) (hP:Pure E.P g ts rs) (hn:ts.all noPtr=true) (hf:rs.all flatRC=true) (hl:∀(j size:Nat) (es:List T),rs[j]?=some (.own size es)→s.h (.loc d' j)=none)
  (hg:Goes E F k .normal {(s.put d (retVal (some d') rs)) with h:=adH d' rs s.h}):CallG E F g xs ts ws d k s:=
 ⟨_,he,Takes.pureAd rs d' s.h hP (fun t ht=>List.all_eq_true.1 hn t ht) (by rw[if_pos hf]) hl,hg⟩
end
end Go.Fm
namespace Go.Fm
theorem retVal1 (t:T):retVal none [.t t]=.t t:=rfl
theorem retVal2 (t u:T):retVal none [.t t,.t u]=.tup [.t t,.t u]:=rfl
theorem retVal3 (t u v:T):retVal none [.t t,.t u,.t v]=.tup [.t t,.t u,.t v]:=rfl
attribute [go_sem] Bool.not_false Bool.not_true retVal1 retVal2 retVal3 List.headD_cons Nat.lt_succ_self
theorem CallG.P {E:Env} {F:Exit→St→Prop} {g:FuncId} {xs:List AV} {ts:List T} {ws:List (Lab×Obj)} {d:Option Tmp} {k:List Kont} {s:St} (rs:List RC) (he:Entry E.P g) (hP:Pure E.P g ts rs) (hg:run E F 200 k .normal (s.put d (retVal none rs)))
  (hn:ts.all noPtr=true:=by first|rfl|(simp only[go_sem];done)|(simp only[go_sem];rfl)|(simp only[List.all_cons,List.all_nil,noPtr,noPtrL,noPtr_sW,noPtr_sI,noPtr_sV,noPtrL_U,noPtrL_I,noPtrL_vT,I,List.map_cons,List.map_nil,Bool.and_true,Bool.and_self])) (hf:rs.all flatRC=true:=by first|rfl|(simp only[go_sem];done)|(simp only[go_sem];rfl)):CallG E F g xs ts ws d k s:=CallG.pure rs he hP hn hf (run_sound 200 _ _ _ hg)
theorem CallG.PS {E:Env} {F:Exit→St→Prop} {g:FuncId} {xs:List AV} {ts:List T} {ws:List (Lab×Obj)} {d:Option Tmp} {k:List Kont} {s:St} (rs:List RC) (he:Entry E.P g) (hP:Pure E.P g ts rs) (hg:run E F 200 k .normal {(s.put d (retVal none rs)) with h:=writes s.h ws})
  (hn:ts.all noPtr=true:=by first|rfl|(simp only[go_sem];done)|(simp only[go_sem];rfl)|(simp only[List.all_cons,List.all_nil,noPtr,noPtrL,noPtr_sW,noPtr_sI,noPtr_sV,noPtrL_U,noPtrL_I,noPtrL_vT,I,List.map_cons,List.map_nil,Bool.and_true,Bool.and_self])) (hf:rs.all flatRC=false:=by first|rfl|(simp only[go_sem];done)|(simp only[go_sem];rfl)):CallG E F g xs ts ws d k s:=CallG.pureS rs he hP hn hf (run_sound 200 _ _ _ hg)
theorem Sm {a b:Prop} (h:b) (e:a=b:=by simp-implicitDefEqProofs+decide only[go_sem];rfl):a:=Eq.mpr e h
theorem Pure.I {P:Program} {g:FuncId} {fn:Func} {c:Code} {ts:List T} {rs:List RC} (hf:P.funcs[g]?=some fn) (rt:List Nat) (hg:run ⟨P,fn.ntmps,fun _=>false⟩ (endF rt rs (fun _=>none) 0) 200 [.code c] .normal ⟨ofL (argL 0 ts),fun _=>none,0⟩)
 (hb:fn.body=some c:=by rfl) (hres:fn.results=(rt.map ResultVar.tmp).toArray:=by rfl) (hts:ts.length≤fn.ntmps:=by exact Nat.le_of_ble_eq_true rfl) (hok:okC fn.ntmps c=true:=by decide):Pure P g ts rs:=Pure.intro hf hb hres hts hok (run_sound 200 _ _ _ hg)
theorem CallG.Q {E:Env} {F:Exit→St→Prop} {g:FuncId} {xs:List AV} {ts:List T} {ws:List (Lab×Obj)} {d:Option Tmp} {k:List Kont} {s:St} (rs:List RC) {h h':Heap} {n':Nat} (he:Entry E.P g) (hP:Ret E.P g ts h s.nxt rs h' n') (hg:run E F 200 k .normal (St.put ⟨killF s.f,mixH h' (writes s.h ws),n'⟩ d (retVal none rs)))
 (hb:∀l,Lab.pool l=false→h l=none:=by first|exact hb|exact upd_hb hb|assumption) (hh:∀l,Lab.pool l=true→writes s.h ws l=h l:=by rintro (_|_|_|_|_) hp<;>first|(cases hp;done)|(simp-implicitDefEqProofs+decide only[go_sem,hloc];done)|(simp-implicitDefEqProofs+decide only[go_sem,hl];done)|(simp-implicitDefEqProofs+decide only[go_sem];done)):CallG E F g xs ts ws d k s:=CallG.pool rs he hP hb hh (run_sound 200 _ _ _ hg)
theorem SmT {a b:Prop} (h:b) (e:a=b:=by simp only[atT,sX,List.map_cons,List.map_nil,Vx_T,v0_T];rfl):a:=Eq.mpr e h
theorem SmA {a b:Prop} (h:b) (e:a=b:=by simp-implicitDefEqProofs+decide only[go_sem,hloc];rfl):a:=Eq.mpr e h
theorem SmB {a b:Prop} (h:b) (e:a=b:=by simp-implicitDefEqProofs+decide only[go_sem,hl];rfl):a:=Eq.mpr e h
theorem SmC {a b:Prop} (h:b) (e:a=b:=by simp-implicitDefEqProofs+decide only[go_sem,hl,sW];rfl):a:=Eq.mpr e h
theorem SmD {a b:Prop} (h:b) (e:a=b:=by simp-implicitDefEqProofs+decide only[go_sem,hloc,wl10,wl11,wl20,wl21,wl22,tn0,tn1,tn2];rfl):a:=Eq.mpr e h
theorem SmE {a b:Prop} (h:b) (e:a=b:=by simp-implicitDefEqProofs+decide only[go_sem,hloc,Atr.T,I,sI,wl10,wl11,wl20,wl21,wl22,tn0,tn1,tn2];rfl):a:=Eq.mpr e h
def noPtrRC:RC→Bool
 |.t t=>noPtr t
 |.own _ es=>es.all noPtr
def isRes:Lab→Bool
 |.res _=>true
 |_=>false
theorem Pure.drop {P : Program} {g : FuncId} {ts : List T} {rs : List RC} {h' : Heap} {m' : Nat} (hR : Ret P g ts (fun _ => none) 0 rs h' m') (hrs : rs.all noPtrRC = true) : Pure P g ts rs := by
 refine⟨fun _ _=>rfl,Keeps.none _,fun φ0 S0 w0 vs hh M hlen hvs=> ?_⟩
 refine Calls.mono (hR.2.2 φ0 S0 w0 vs hh M hlen hvs) ?_
 rintro e w' ⟨v,φ',S',rfl,M',hv⟩
 let φb:Inj:=fun l=>if isRes l then φ' l else none
 have hφ0:∀l,φ0 l=none:=fun l=>M.dom l rfl
 have e1:∀l,isRes l=true→φb l=φ' l∧resH (fun _=>none) rs l=resH h' rs l:=fun l hl=>by
  cases l<;>simp[isRes]at hl
  exact⟨rfl,rfl⟩
 have e2:∀l o,resH (fun _=>none) rs l=some o→isRes l=true:=fun l o h=>by
  cases l<;>first|rfl|(simp[resH]at h)
 have e3:∀l b,φb l=some b→isRes l=true∧φ' l=some b:=fun l b h=>by
  by_cases hr:isRes l=true
  ·exact⟨hr,by rw[←(e1 l hr).1];exact h⟩
  ·have h:(if isRes l then φ' l else none)=some b:=h
   rw[if_neg hr]at h;cases h
 have tv:∀t u,noPtr t=true→RepT φ'.objs w' S' t u→RepT φb.objs w' S' t u:=fun t u hn h=>h.noObj hn _
 have one : ∀ j r, rs[j]? = some r → ∀ u, RepA φ' (resH h' rs) w' S' (rcA j r) u → RepA φb (resH (fun _ => none) rs) w' S' (rcA j r) u := by
  intro j r hj u h
  have hn:=List.all_eq_true.1 hrs r (List.mem_of_getElem? hj)
  cases r with
  |t t=>cases h with|t _ _ h=>exact .t _ _ (tv _ _ hn h)
  | own size es =>
    cases h with
    | sl _ _ _ _ _ o ho hsc h =>
      refine .sl _ _ _ _ _ o ((e1 (.res j) rfl).2.trans ho) hsc fun size es v' frz e=>⟨(h size es v' frz e).1,fun e'=> ?_⟩
      have:=(h size es v' frz e).2 e'
      unfold Hdr at this⊢
      rw[(e1 (.res j) rfl).1];exact this
 refine⟨v,φb,S',rfl,?_,?_⟩
 ·exact {
    inj:=fun l l' b h h'=>M'.inj l l' b (e3 l b h).2 (e3 l' b h').2
    dom := fun l h => by
      by_cases hr:isRes l=true
      ·rw[(e1 l hr).1];exact M'.dom l (by rw[←(e1 l hr).2];exact h)
      · show (if isRes l then φ' l else none) = none
        rw[if_neg hr]
    lt:=fun l b h=>M'.lt l b (e3 l b h).2
    objs:=fun l o ho=>by
      have hr:=e2 l o ho
      have ho':resH h' rs l=some o:=by rw[←(e1 l hr).2];exact ho
      have:=M'.objs l o ho'
      cases l<;>simp[isRes]at hr
      rename_i j
      have hrs2:∃size es,rs[j]?=some (.own size es)∧o=.arr size es 0 0:=by
        simp only[resH]at ho
        split at ho
        ·rename_i size es hj;exact⟨size,es,hj,(Option.some.inj ho).symm⟩
        ·cases ho
      obtain⟨size,es,hj,rfl⟩:=hrs2
      have hn:=List.all_eq_true.1 hrs _ (List.mem_of_getElem? hj)
      obtain⟨h1,h2,h3,h4,h5,h6⟩:=this
      refine⟨h1,h2,h3,h4,fun h=>h5 (by rw[←(e1 (.res j) rfl).1];exact h),fun b hb=> ?_⟩
      obtain⟨cs,ty,g1,g2,g3,g4⟩:=h6 b (e3 _ _ hb).2
      refine⟨cs,ty,g1,g2,fun i j' e c he hc=> ?_,g4⟩
      obtain⟨u,k1,k2⟩:=g3 i j' e c he hc
      exact⟨u,k1,tv _ _ (noPtr_cells (List.all_eq_true.1 hn e (List.mem_of_getElem? he)) c (List.mem_of_getElem? hc)) k2⟩
    stab:=fun a h hm=>by
      obtain⟨l,o,h1,h2,h3⟩:=hm
      exact M'.stab a h ⟨l,o,by rw[←(e1 l (e2 l o h1)).2];exact h1,(e3 _ _ h2).2,h3⟩
    slt:=M'.slt
    nx:=fun id _=>rfl
    sub:=M'.sub,sup:=M'.sup,grow:=M'.grow,os:=M'.os,tape:=M'.tape,output:=M'.output,keep:=M'.keep,keepS:=M'.keepS
    old:=fun l b h=>M'.old l b (e3 l b h).2
    loc0:=M'.loc0
    fldk:=fun l o _ h=>(by cases h)
    objk:=fun l b _ h=>by have:=hφ0 l;rw[show φ0 l=some b from h]at this;cases this}
 ·have key:∀(rs':List RC),rsA rs'=(match rs' with|[r]=>rcA 0 r|rs=>.tup (rsAs 0 rs)):=fun rs'=>by
   match rs' with
   |[]=>rfl
   |[x]=>rfl
   |x::y::r=>rfl
  match rs,hv,one with
  | [], hv, one =>
    cases hv with
    |tup cs vs hn hr=>exact .tup _ vs hn fun j c v hj hv=>by simp[rsAs]at hj
  |[r],hv,one=>exact one 0 r rfl v hv
  | x :: y :: r, hv, one =>
    cases hv with
    | tup cs vs hn hr =>
      refine .tup _ vs hn fun j c v hj hv=> ?_
      obtain⟨j',r',h1,h2⟩:=(show ∃r',(x::y::r)[j]?=some r'∧c=rcA (0+j) r' by
        rw[rsAs_get]at hj
        obtain⟨r',h1,h2⟩:=Option.map_eq_some_iff.1 hj
        exact⟨r',h1,h2.symm⟩)|>.imp (fun r' h=>h)|>fun⟨r',h⟩=>(⟨j,r',h.1,h.2⟩:∃j' r',(x::y::r)[j]?=some r'∧c=rcA (0+j) r')
      subst h2
      have:=hr j _ v hj hv
      rw[Nat.zero_add]at this⊢
      exact one j r' h1 v this
def Dat (P:Program) (n:Nat) (t:TypeId) (x:T):Prop:=∃l,Typed P n t l∧x=mkT P t l
theorem list_map {α:Type} {f:α→T} {Q:α→Prop}:∀{es:List T},(∀x∈es,∃y,Q y∧x=f y)→∃l:List α,es=l.map f∧∀y∈l,Q y
 |[],_=>⟨[],rfl,by simp⟩
 | x :: r, h => by
   obtain⟨y,hy,rfl⟩:=h x (by simp)
   obtain⟨l,rfl,hl⟩:=list_map (es:=r) fun x hx=>h x (by simp[hx])
   exact⟨y::l,rfl,by simpa [hy] using hl⟩
section
variable {P:Program} {n:Nat} {t:TypeId} {x:T}
theorem Dat.int {k:IntKind} (hu:P.underlying t=some (.int k)) (h:Dat P n t x):∃z:Int,(Lit.int k z).wf=true∧x=.int k z:=by
 obtain⟨l,h,rfl⟩:=h
 cases n with
 |zero=>exact h.elim
 | succ n =>
   simp only[Typed,hu]at h
   obtain⟨z,rfl,hz⟩:=h
   exact⟨z,hz,by simp[mkT,hu]⟩
theorem Dat.bool (hu:P.underlying t=some .bool) (h:Dat P n t x):∃z:Bool,x=.bool z:=by
 obtain⟨l,h,rfl⟩:=h
 cases n with
 |zero=>exact h.elim
 | succ n =>
   simp only[Typed,hu]at h
   obtain⟨z,rfl⟩:=h
   exact⟨z,by simp[mkT,hu]⟩
theorem Dat.str (hu:P.underlying t=some .string) (h:Dat P n t x):∃z:List UInt8,z.length≤reachBytes∧x=.str z:=by
 obtain⟨l,h,rfl⟩:=h
 cases n with
 |zero=>exact h.elim
 | succ n =>
   simp only[Typed,hu]at h
   obtain⟨z,rfl,hz⟩:=h
   exact⟨z,hz,by simp[mkT,hu]⟩
theorem Dat.slice {α:Type} {f:α→T} {Q:α→Prop} {e:TypeId} (hu:P.underlying t=some (.slice e)) (he:∀x,Dat P (n-1) e x→∃y,Q y∧x=f y) (h:Dat P n t x):
  ∃l:List α,(l.length*P.bytesOf e≤reachBytes∧∀y∈l,Q y)∧x=.slice (l.map f):=by
 obtain⟨l,h,rfl⟩:=h
 cases n with
 |zero=>exact h.elim
 | succ n =>
   simp only[Typed,hu]at h
   obtain⟨es,rfl,hz,hes⟩:=h
   obtain⟨l,rfl,hl⟩:=list_map (f:=f) (Q:=Q) (es:=es) fun x hx=>he x ⟨_,(hes x hx).2,(hes x hx).1⟩
   exact⟨l,⟨by simpa using hz,hl⟩,by simp[mkT,hu]⟩
theorem Datas.cons {m:Nat} {ts:List TypeId} {xs:List T} (h:Datas P m (t::ts) xs):∃x r,xs=x::r∧Dat P m t x∧Datas P m ts r:=by
 cases xs with
 |nil=>exact h.elim
 |cons x r=>exact⟨x,r,rfl,h.1,h.2⟩
theorem Datas.nil {m:Nat} {xs:List T} (h:Datas P m [] xs):xs=[]:=by
 cases xs with
 |nil=>rfl
 |cons x r=>exact h.elim
theorem wf64 {z:Int} (h:(Lit.int .i64 z).wf=true): -9223372036854775808≤z∧z≤9223372036854775807:=by
 simp[Lit.wf,IntKind.min,IntKind.max,IntKind.signed,IntKind.bits]at h
 omega
end
end Go.Fm
namespace Go.Fm
section
variable {E:Env} {F:Exit→St→Prop} {pm:Bool} {all:Array Oper} {o:Oper} {gT:List Nat} {r:List Oper} {fs:List Foot} {g:FuncId} {xs:List AV} {ts:List T} {ws:List (Lab×Obj)} {acc:List Lab} {s:St} {k:List Kont}
theorem CallD.pure (rs:List RC) (he:Entry E.P g) (hP:Pure E.P g ts rs) (hn:ts.all noPtr=true) (hf:rs.all flatRC=true)
  (h:runD E F pm all k r (fs++[⟨o.dst,gT++tmpsOf o,acc++[],[],false,calmD {v:=retVal none rs}⟩]) (s.app o.dst {v:=retVal none rs})):CallD E F pm all o gT r fs g xs ts ws acc s k:=
 ⟨{v:=retVal none rs},[],false,he,TakesD.pure rs _ hP (fun t ht=>List.all_eq_true.1 hn t ht) (by rw[if_pos hf]),runD_sound _ _ _ h⟩
theorem CallD.pureS (rs:List RC) (he:Entry E.P g) (hP:Pure E.P g ts rs) (hn:ts.all noPtr=true) (hf:rs.all flatRC=false)
  (h:runD E F pm all k r (fs++[⟨o.dst,gT++tmpsOf o,acc++[],ws.map (·.1),false,calmD {v:=retVal none rs,w:=ws}⟩]) (s.app o.dst {v:=retVal none rs,w:=ws})):CallD E F pm all o gT r fs g xs ts ws acc s k:=
 ⟨{v:=retVal none rs,w:=ws},[],false,he,TakesD.pure rs _ hP (fun t ht=>List.all_eq_true.1 hn t ht) (by rw[if_neg (by simp[hf])]),runD_sound _ _ _ h⟩
theorem CallD.look (rs:List RC) {h:Heap} (he:Entry E.P g) (hP:Ret E.P g ts h s.nxt rs h s.nxt) (hw:ws=[]) (hb:∀l,Lab.pool l=false→h l=none) (hh:∀l,Lab.pool l=true→s.h l=h l)
  (hr:runD E F pm all k r (fs++[⟨o.dst,gT++tmpsOf o,acc++[],[],true,calmD {v:=retVal none rs}⟩]) (s.app o.dst {v:=retVal none rs})):CallD E F pm all o gT r fs g xs ts ws acc s k:=
 ⟨{v:=retVal none rs},[],true,he,TakesD.look rs _ (by rw[poolH_eq hb hh];exact hP) hw rfl,runD_sound _ _ _ hr⟩
theorem CallD.lookA (as:List AV) (acc2:List Lab) (rs:List RC) {h:Heap} (he:Entry E.P g) (hp:(passE xs).run s.h=some ((as,[]),acc2)) (hP:RetA E.P g as h s.nxt rs h s.nxt) (hb:∀l,Lab.pool l=false→h l=none) (hh:∀l,Lab.pool l=true→s.h l=h l)
  (hr:runD E F pm all k r (fs++[⟨o.dst,gT++tmpsOf o,acc++acc2,[],true,calmD {v:=retVal none rs}⟩]) (s.app o.dst {v:=retVal none rs})):CallD E F pm all o gT r fs g xs ts ws acc s k:=
 ⟨{v:=retVal none rs},acc2,true,he,TakesD.lookA as acc2 rs _ hp (by rw[poolH_eq hb hh];exact hP) rfl,runD_sound _ _ _ hr⟩
end
def Clean (f:Nat→AV):Prop:=∀t,cleanA (f t)=true
theorem Clean.upd {f:Nat→AV} {d:Nat} {v:AV} (h:Clean f) (hv:cleanA v=true):Clean (upd f d v):=fun t=>by
 unfold Go.Fm.upd;split
 ·exact hv
 ·exact h t
theorem Clean.und:Clean (fun _=>.und):=fun _=>rfl
theorem Calm.pool {f:Nat→AV} {h:Heap} {m:Nat} (hf:Clean f) (hb:∀l,Lab.pool l=false→h l=none):Calm ⟨f,h,m⟩:=
 ⟨hf,fun l o ho=>by
   cases hp:Lab.pool l with
   |true=>exact .inl rfl
   |false=>have:=hb l hp;rw[show h l=some o from ho]at this;cases this⟩
theorem CallD.P {E:Env} {F:Exit→St→Prop} {pm:Bool} {all:Array Oper} {o:Oper} {gT:List Nat} {r:List Oper} {fs:List Foot} {g:FuncId} {xs:List AV} {ts:List T} {ws:List (Lab×Obj)} {acc:List Lab} {s:St} {k:List Kont} (rs:List RC) (he:Entry E.P g) (hP:Pure E.P g ts rs)
  (h:runD E F pm all k r (fs++[⟨o.dst,gT++tmpsOf o,acc++[],[],false,calmD {v:=retVal none rs}⟩]) (s.app o.dst {v:=retVal none rs}))
  (hn:ts.all noPtr=true:=by first|rfl|(simp only[go_sem];done)|(simp only[go_sem];rfl)|(simp only[List.all_cons,List.all_nil,noPtr,noPtrL,noPtr_sW,noPtr_sI,noPtr_sV,noPtrL_U,noPtrL_I,noPtrL_vT,I,List.map_cons,List.map_nil,Bool.and_true,Bool.and_self])) (hf:rs.all flatRC=true:=by first|rfl|(simp only[go_sem];done)|(simp only[go_sem];rfl)):CallD E F pm all o gT r fs g xs ts ws acc s k:=CallD.pure rs he hP hn hf h
theorem CallD.PS {E:Env} {F:Exit→St→Prop} {pm:Bool} {all:Array Oper} {o:Oper} {gT:List Nat} {r:List Oper} {fs:List Foot} {g:FuncId} {xs:List AV} {ts:List T} {ws:List (Lab×Obj)} {acc:List Lab} {s:St} {k:List Kont} (rs:List RC) (he:Entry E.P g) (hP:Pure E.P g ts rs)
  (h:runD E F pm all k r (fs++[⟨o.dst,gT++tmpsOf o,acc++[],ws.map (·.1),false,calmD {v:=retVal none rs,w:=ws}⟩]) (s.app o.dst {v:=retVal none rs,w:=ws}))
  (hn:ts.all noPtr=true:=by first|rfl|(simp only[go_sem];done)|(simp only[go_sem];rfl)|(simp only[List.all_cons,List.all_nil,noPtr,noPtrL,noPtr_sW,noPtr_sI,noPtr_sV,noPtrL_U,noPtrL_I,noPtrL_vT,I,List.map_cons,List.map_nil,Bool.and_true,Bool.and_self])) (hf:rs.all flatRC=false:=by first|rfl|(simp only[go_sem];done)|(simp only[go_sem];rfl)):CallD E F pm all o gT r fs g xs ts ws acc s k:=CallD.pureS rs he hP hn hf h
theorem CallD.L {E:Env} {F:Exit→St→Prop} {pm:Bool} {all:Array Oper} {o:Oper} {gT:List Nat} {r:List Oper} {fs:List Foot} {g:FuncId} {xs:List AV} {ts:List T} {ws:List (Lab×Obj)} {acc:List Lab} {s:St} {k:List Kont} (rs:List RC) {h:Heap} (he:Entry E.P g) (hP:Ret E.P g ts h s.nxt rs h s.nxt)
 (hr:runD E F pm all k r (fs++[⟨o.dst,gT++tmpsOf o,acc++[],[],true,calmD {v:=retVal none rs}⟩]) (s.app o.dst {v:=retVal none rs})) (hw:ws=[]:=by rfl) (hb:∀l,Lab.pool l=false→h l=none:=by first|exact hb|exact upd_hb hb|assumption) (hh:∀l,Lab.pool l=true→s.h l=h l:=by rintro (_|_|_|_|_) hp<;>first|(cases hp;done)|(simp-implicitDefEqProofs+decide only[go_sem,hloc];done)|(simp-implicitDefEqProofs+decide only[go_sem,hl];done)|(simp-implicitDefEqProofs+decide only[go_sem];done)):CallD E F pm all o gT r fs g xs ts ws acc s k:=CallD.look rs he hP hw hb hh hr
section
variable {κ:Kap} {φ:Inj} {S:Addr→Prop} {H:Heap} {n:Nat} {w:World}
theorem Mem.lend (M:Mem κ φ S H n w) {d k i:Nat} {size:Nat} {es:List T} {vr:Nat} (hl:H (.loc d k)=some (.arr size es vr 0)) (ht:H (.arg i)=none):
  Chg κ φ S H w (upd (upd φ (.loc d k) none) (.arg i) (φ (.loc d k))) S (upd (upd H (.loc d k) (some .dead)) (.arg i) (some (.arr size es vr 0))) n w:=by
 have hne:Lab.loc d k≠Lab.arg i:=by simp
 have hne':Lab.arg i≠Lab.loc d k:=by simp
 have f1:upd (upd φ (.loc d k) none) (.arg i) (φ (.loc d k)) (.arg i)=φ (.loc d k):=upd_same _ _ _
 have f2:upd (upd φ (.loc d k) none) (.arg i) (φ (.loc d k)) (.loc d k)=none:=by rw[upd_ne _ _ _ _ hne,upd_same]
 have f3:∀l,l≠.loc d k→l≠.arg i→upd (upd φ (.loc d k) none) (.arg i) (φ (.loc d k)) l=φ l:=fun l h1 h2=>by rw[upd_ne _ _ _ _ h2,upd_ne _ _ _ _ h1]
 have e1:upd (upd H (.loc d k) (some .dead)) (.arg i) (some (.arr size es vr 0)) (.arg i)=some (.arr size es vr 0):=upd_same _ _ _
 have e2:upd (upd H (.loc d k) (some .dead)) (.arg i) (some (.arr size es vr 0)) (.loc d k)=some .dead:=by rw[upd_ne _ _ _ _ hne,upd_same]
 have e3:∀l,l≠.loc d k→l≠.arg i→upd (upd H (.loc d k) (some .dead)) (.arg i) (some (.arr size es vr 0)) l=H l:=fun l h1 h2=>by rw[upd_ne _ _ _ _ h2,upd_ne _ _ _ _ h1]
 have hO:∀id' b,φ (.obj id')=some b→upd (upd φ (.loc d k) none) (.arg i) (φ (.loc d k)) (.obj id')=some b:=fun id' b h=>by rw[f3 _ (by simp) (by simp)];exact h
 have hstep:∀l' o,H l'=some o→∃o',upd (upd H (.loc d k) (some .dead)) (.arg i) (some (.arr size es vr 0)) l'=some o'∧LStep φ (upd (upd φ (.loc d k) none) (.arg i) (φ (.loc d k))) w w l' o o':=by
  intro l' o ho
  by_cases h1:l'=.loc d k
  ·subst h1
   rw[hl]at ho;cases ho
   exact⟨_,e2,trivial⟩
  ·by_cases h2:l'=.arg i
   ·subst h2
    rw[ht]at ho;cases ho
   ·refine⟨o,by rw[e3 _ h1 h2];exact ho,?_⟩
    cases o with
    |box=>exact f3 _ h1 h2
    |map=>exact f3 _ h1 h2
    |dead=>exact trivial
    |arr=>exact⟨Nat.le_refl _,fun _=>⟨rfl,Nat.le_refl _,f3 _ h1 h2,fun b cs ty fr _ h=>⟨cs,ty,fr,h,Nat.le_refl _⟩⟩⟩
 have av:∀y v,RepA φ H w S y v→RepA (upd (upd φ (.loc d k) none) (.arg i) (φ (.loc d k))) (upd (upd H (.loc d k) (some .dead)) (.arg i) (some (.arr size es vr 0))) w S y v:=fun y v h=>h.mono hO (fun _ h=>h) (fun _ _ _ h=>h) hstep
 have tv:∀t v,RepT φ.objs w S t v→RepT (Inj.objs (upd (upd φ (.loc d k) none) (.arg i) (φ (.loc d k)))) w S t v:=fun t v h=>h.mono hO (fun _ h=>h) (fun _ _ _ h=>h)
 obtain⟨o1,o2,o3,o4,o5,o6⟩:=M.objs _ _ hl
 have hinv:∀l b,upd (upd φ (.loc d k) none) (.arg i) (φ (.loc d k)) l=some b→∃l0,φ l0=some b∧l≠.loc d k∧((l=.arg i∧l0=.loc d k)∨(l≠.arg i∧l0=l)):=by
  intro l b h
  by_cases h1:l=.loc d k
  ·subst h1;rw[f2]at h;cases h
  ·by_cases h2:l=.arg i
   ·subst h2;rw[f1]at h;exact⟨_,h,h1,.inl ⟨rfl,rfl⟩⟩
   ·rw[f3 _ h1 h2]at h;exact⟨l,h,h1,.inr ⟨h2,rfl⟩⟩
 have hobjk:∀l b,Lab.isObj l=true→κ.φ0 l=some b→upd (upd φ (.loc d k) none) (.arg i) (φ (.loc d k)) l=some b∧Kept κ.w0 w b:=fun l1 b hf h=>by
  obtain⟨h1,h2⟩:=M.objk l1 b hf h
  have hne2:l1≠.arg i:=fun e=>by subst e;rw[M.dom _ ht]at h1;cases h1
  exact⟨by rw[f3 l1 (by rintro rfl;cases hf) hne2];exact h1,h2⟩
 refine⟨?_,av,tv⟩
 refine{M with inj:= ?_,dom:= ?_,lt:= ?_,objs:= ?_,stab:= ?_,nx:= ?_,old:= ?_,fldk:=M.fldk.step hstep,objk:=hobjk}
 ·intro l1 l2 b h1 h2
  obtain⟨m1,p1,q1,r1⟩:=hinv _ _ h1
  obtain⟨m2,p2,q2,r2⟩:=hinv _ _ h2
  have:=M.inj _ _ _ p1 p2
  rcases r1 with ⟨rfl,rfl⟩|⟨r1,rfl⟩<;>rcases r2 with ⟨rfl,rfl⟩|⟨r2,rfl⟩
  ·rfl
  ·exact absurd this.symm q2
  ·exact absurd this q1
  ·exact this
 ·intro l h
  by_cases h1:l=.loc d k
  ·subst h1;rw[e2]at h;cases h
  ·by_cases h2:l=.arg i
   ·subst h2;rw[e1]at h;cases h
   ·rw[e3 _ h1 h2]at h;rw[f3 _ h1 h2];exact M.dom l h
 ·intro l b h
  obtain⟨m1,p1,_,_⟩:=hinv _ _ h
  exact M.lt _ _ p1
 ·intro l o h
  by_cases h1:l=.loc d k
  ·subst h1;rw[e2]at h;cases h;exact f2
  ·by_cases h2:l=.arg i
   ·subst h2;rw[e1]at h;cases h
    refine⟨o1,o2,o3,Nat.zero_le _,fun hn=>o5 (f1▸hn),fun b hb=> ?_⟩
    obtain⟨cs,ty,g1,g2,g3,g4⟩:=o6 b (f1▸hb)
    exact⟨cs,ty,g1,g2,fun i j e c he hc=>let ⟨u,k1,k2⟩:=g3 i j e c he hc;⟨u,k1,tv _ _ k2⟩,fun i j hi=>absurd hi (Nat.not_lt_zero _)⟩
   ·rw[e3 _ h1 h2]at h
    exact(M.objs l o h).mono hO (fun _ h=>h) (fun _ _ _ h=>h) hstep (f3 _ h1 h2) fun _ _=>rfl
 ·rintro a ha ⟨l,o,h,hφ,hm⟩
  obtain⟨m1,p1,q1,r1⟩:=hinv _ _ hφ
  rcases r1 with ⟨rfl,rfl⟩|⟨r1,rfl⟩
  ·rw[e1]at h
   cases h
   exact M.stab a ha ⟨_,_,hl,p1,by simp[Obj.opn]⟩
  ·rw[e3 _ q1 r1]at h
   exact M.stab a ha ⟨_,_,h,p1,hm⟩
 ·intro id' hid
  rw[e3 _ (by simp) (by simp)];exact M.nx id' hid
 ·intro l b h hb
  obtain⟨m1,p1,q1,r1⟩:=hinv _ _ h
  rcases r1 with ⟨rfl,rfl⟩|⟨r1,rfl⟩
  ·have:=M.old _ _ p1 hb
   rw[M.loc0]at this;cases this
  ·exact M.old _ _ p1 hb
end
theorem Wk.lend {n:Nat} {s:St} {t d k i ver off len size:Nat} {es:List T} (hs:s.f t=.sl (.loc d k) ver off len) (hl:s.h (.loc d k)=some (.arr size es ver 0)) (ha:s.h (.arg i)=none):
  Wk n s ⟨upd s.f t (.sl (.arg i) ver off len),upd (upd s.h (.loc d k) (some .dead)) (.arg i) (some (.arr size es ver 0)),s.nxt⟩:=by
 rintro κ a w ⟨hdf,hsz,φ,S,M,hsl⟩
 have C:=M.lend hl ha
 have h0:=hsl t
 rw[hs]at h0
 refine⟨hdf,hsz,_,S,C.mem,fun t'=> ?_⟩
 by_cases e:t'=t
 ·subst e
  show RepA _ _ w S (upd s.f t' _ t') _
  rw[upd_same]
  cases h0 with
  | sl _ _ _ _ _ o ho hv hh =>
    rw[hl]at ho;cases ho
    refine .sl _ _ _ _ _ _ (upd_same _ _ _) hv fun size' es' v'' frz' e=> ?_
    cases e
    refine⟨Nat.le_refl _,fun _=> ?_⟩
    have:=(hh _ _ _ _ rfl).2 rfl
    unfold Hdr at this⊢
    rw[upd_same];exact this
 ·show RepA _ _ w S (upd s.f t _ t') _
  rw[upd_ne _ _ _ _ e]
  exact C.av _ _ (hsl t')
theorem adH_own1 (d size:Nat) (es:List T) (H:Heap):adH d [.own size es] H=upd H (.loc d 0) (some (.arr size es 0 0)):=by
 funext l
 cases l with
 | loc d' j =>
   by_cases e:d'=d
   ·subst e
    cases j with
    |zero=>simp[adH,upd]
    |succ j=>simp[adH,upd]
   ·simp[adH,upd,e]
 |_=>simp[adH,upd]
theorem adH_ownT (d size:Nat) (es:List T) (t:T) (H:Heap):adH d [.own size es,.t t] H=upd H (.loc d 0) (some (.arr size es 0 0)):=by
 funext l
 cases l with
 | loc d' j =>
   by_cases e:d'=d
   ·subst e
    match j with
    |0=>simp[adH,upd]
    |1=>simp[adH,upd]
    |j+2=>simp[adH,upd]
   ·simp[adH,upd,e]
 |_=>simp[adH,upd]
theorem ret_own1 (d size:Nat) (es:List T):retVal (some d) [.own size es]=.sl (.loc d 0) 0 0 es.length:=rfl
theorem ret_ownT (d size:Nat) (es:List T) (t:T):retVal (some d) [.own size es,.t t]=.tup [.sl (.loc d 0) 0 0 es.length,.t t]:=rfl
theorem ret_own1P (size:Nat) (es:List T):retVal none [.own size es]=.t (.slice es):=rfl
theorem ret_ownTP (size:Nat) (es:List T) (t:T):retVal none [.own size es,.t t]=.tup [.t (.slice es),.t t]:=rfl
theorem ret_ownTTP (size:Nat) (es:List T) (t u:T):retVal none [.own size es,.t t,.t u]=.tup [.t (.slice es),.t t,.t u]:=rfl
theorem ret_own2P (size size':Nat) (es es':List T):retVal none [.own size es,.own size' es']=.tup [.t (.slice es),.t (.slice es')]:=rfl
attribute [go_sem] adH_own1 adH_ownT ret_own1 ret_ownT ret_own1P ret_ownTP ret_ownTTP ret_own2P
theorem Goes.done {E:Env} {F:Exit→St→Prop} {e:Exit} {s:St} (h:F e s):Goes E F [] e s:=run_sound 1 [] e s h
attribute [go_sem] argA
theorem endF.oneIH {t:Nat} {k:IntKind} {x x':Int} {h':Heap} {m':Nat} {e:Exit} {s:St} (he:e=.normal∨e=.ret) (hx:s.f t=.t (.int k x)) (ex:x=x') (hh:∀l,Lab.pool l=true→h' l=s.h l) (hn:s.nxt=m'):
  endF [t] [.t (.int k x')] h' m' e s:=by
 subst ex
 exact endF.oneH he hx rfl hh hn
theorem endF.zero {h':Heap} {m':Nat} {e:Exit} {s:St} (he:e=.normal∨e=.ret) (hh:∀l,Lab.pool l=true→h' l=s.h l) (hn:s.nxt=m'):endF [] [] h' m' e s:=
 endF.mk (ws:=[]) (os:=[]) (acc:=[]) [] he rfl rfl rfl hh hn
theorem retVal0 (d:Option Nat):retVal d []=.tup []:=by cases d<;>rfl
attribute [go_sem] retVal0
theorem killP_arg {i v o n:Nat} (h:0<n):killP (.sl (.arg i) v o n)=.sl (.arg i) v o n:=by
 unfold killP;rw[if_pos (by simp[cleanA,h])]
theorem mixH_arg (h' H:Heap) (i:Nat):mixH h' H (.arg i)=h' (.arg i):=rfl
attribute [go_sem] mixH_arg
def HCalm (h:Heap):Prop:=∀l o,h l=some o→Lab.pool l=true∨notBox o=true
theorem HCalm.none:HCalm fun _=>Option.none:=fun _ _ h=>by cases h
theorem HCalm.row {h:Heap} {l:Lab} {sz v f:Nat} {es:List T} (hh:HCalm h):HCalm (upd h l (some (.arr sz es v f))):=fun l' o ho=>by
 by_cases e:l'=l
 ·subst e;rw[upd_same]at ho;cases ho;exact .inr rfl
 ·rw[upd_ne _ _ _ _ e]at ho;exact hh l' o ho
theorem HCalm.hb {h:Heap} (hb:∀l,Lab.pool l=false→h l=Option.none):HCalm h:=fun l o ho=>by
 cases hp:Lab.pool l with
 |true=>exact .inl rfl
 |false=>rw[hb l hp]at ho;cases ho
theorem Calm.of {f:Nat→AV} {h:Heap} {m:Nat} (hf:Clean f) (hh:HCalm h):Calm ⟨f,h,m⟩:=⟨hf,hh⟩
theorem cleanA_arg {i v o n:Nat} (h:0<n):cleanA (.sl (.arg i) v o n)=true:=by simp[cleanA,h]
theorem endF.own2 {t u:Nat} {la lb:Lab} {v v' n n' size size':Nat} {es es':List T} {h':Heap} {m':Nat} {e:Exit} {s:St} (he:e=.normal∨e=.ret) (hx:s.f t=.sl la v 0 n) (hl:s.h la=some (.arr size es v 0)) (hlen:n=es.length) (hp:Lab.pool la=false)
  (hy:s.f u=.sl lb v' 0 n') (hl2:s.h lb=some (.arr size' es' v' 0)) (hlen2:n'=es'.length) (hp2:Lab.pool lb=false) (hne:la≠lb) (hh:∀l,Lab.pool l=true→h' l=s.h l) (hn:s.nxt=m'):endF [t,u] [.own size es,.own size' es'] h' m' e s:=by
 subst hlen;subst hlen2
 refine endF.mk (ws:=[]) (os:=[some la,some lb]) (acc:=[la,lb]) [true,true] he rfl ?_ ?_ hh hn
 ·have:finL (([t,u].map s.f).zip [true,true])=finL [(.sl la v 0 es.length,true),(.sl lb v' 0 es'.length,true)]:=by rw[List.map_cons,List.map_cons,hx,hy];rfl
  rw[this]
  simp[finL,fin1,Rd.bind,Rd.run,hl,hl2,hp,hp2]
 ·simp[okOwn,hne.symm]
theorem finL_vals (f:Nat→AV):∀(l:List (Nat×T)),(∀p∈l,reify (f p.1)=.ret (p.2,[]))→
  finL (((l.map (·.1)).map f).zip (l.map fun _=>false))=.ret (l.map fun p=>RC.t p.2,[],l.map fun _=>none)
 |[],_=>rfl
 | p :: r, h => by
   have ih:=finL_vals f r fun q hq=>h q (by simp[hq])
   have h1:=h p (by simp)
   simp only[List.map_cons,List.zip_cons_cons,finL,fin1,ih,h1,Rd.bind,List.nil_append]
theorem okOwn_none:∀(l:List (Nat×T)) (fz:List Lab),okOwn (l.map fun _=>none) fz=true
 |[],_=>rfl
 |_::r,fz=>okOwn_none r fz
theorem endF.vals {h':Heap} {m':Nat} {e:Exit} {s:St} (l:List (Nat×T)) (he:e=.normal∨e=.ret) (hv:∀p∈l,reify (s.f p.1)=.ret (p.2,[])) (hh:∀l,Lab.pool l=true→h' l=s.h l) (hn:s.nxt=m'):
  endF (l.map (·.1)) (l.map fun p=>RC.t p.2) h' m' e s:=by
 refine endF.mk (ws:=[]) (os:=l.map fun _=>none) (acc:=[]) (l.map fun _=>false) he (by simp) ?_ (okOwn_none l _) hh hn
 rw[finL_vals s.f l hv];rfl
theorem vals_nil {f:Nat→AV}:∀p∈([]:List (Nat×T)),reify (f p.1)=.ret (p.2,[]):=fun _ h=>by cases h
theorem vals_t {f:Nat→AV} {t:Nat} {x y:T} {l:List (Nat×T)} (h:f t=.t x) (e:x=y) (r:∀p∈l,reify (f p.1)=.ret (p.2,[])):∀p∈(t,y)::l,reify (f p.1)=.ret (p.2,[]):=fun p hp=>by
 rcases List.mem_cons.1 hp with rfl|hp
 ·rw[h,e];rfl
 ·exact r p hp
theorem vals_n {f:Nat→AV} {t:Nat} {l:List (Nat×T)} (h:f t=.nil) (r:∀p∈l,reify (f p.1)=.ret (p.2,[])):∀p∈(t,T.slice [])::l,reify (f p.1)=.ret (p.2,[]):=fun p hp=>by
 rcases List.mem_cons.1 hp with rfl|hp
 ·rw[h];rfl
 ·exact r p hp
theorem endF.V {h':Heap} {m':Nat} {e:Exit} {s:St} (l:List (Nat×T)) (hv:∀p∈l,reify (s.f p.1)=.ret (p.2,[])) (he:e=.normal∨e=.ret:=by exact .inr rfl) (hh:∀l,Lab.pool l=true→h' l=s.h l:=by intro l hp;cases l<;>first|rfl|cases hp) (hn:s.nxt=m':=by rfl):
  endF (l.map (·.1)) (l.map fun p=>RC.t p.2) h' m' e s:=endF.vals l he hv hh hn
theorem endF.V1 {h':Heap} {m':Nat} {e:Exit} {s:St} (n:Nat) (x:T) (h:s.f n=.t x:=by simp-implicitDefEqProofs+decide only[go_sem]<;>rfl) (he:e=.normal∨e=.ret:=by exact .inr rfl) (hh:∀l,Lab.pool l=true→h' l=s.h l:=by intro l hp;cases l<;>first|rfl|cases hp) (hn:s.nxt=m':=by rfl):
 endF [n] [RC.t x] h' m' e s:=endF.vals [(n,x)] he (vals_t h rfl vals_nil) hh hn
end Go.Fm
