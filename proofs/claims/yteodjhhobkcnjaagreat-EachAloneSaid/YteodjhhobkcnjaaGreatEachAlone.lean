/- EachAlone: whatever the arguments, the law returns true, and the arguments read as before. Conditions: none beyond the row's. -/
import Derived.Test.YteodjhhobkcnjaaGreatHgD
import Derived.Test.YteodjhhobkcnjaaGreatRows
import Derived.WalkKit
import Derived.ProofKit
set_option linter.unusedVariables false
set_option linter.unusedSimpArgs false
namespace Go.Proofs.YteodjhhobkcnjaaGreat.eachAlone
open Go Go.Fm Go.ChangeShapes Go.WideShapes Go.ChangeAt Go.RowKit Go.Proofs
set_option maxRecDepth 100000
theorem own:ownKnob Tryz.prog.godebug=none:=by kernel_rfl
theorem laidOut:laidOutB Tryz.prog=true:=by kernel_rfl
theorem lifted (os:Os) (started:os.Started) (H:Type) (enc:TypeId×Value→H):
  ReturnsInHanded {} Tryz.checked os 6 .any (Rows.eachAloneSpec.pre6 enc Tryz.prog Tryz.f6 Rows.eachAloneRow.domain false) (Rows.eachAloneSpec.post enc Tryz.prog Tryz.f6 false true false false):=by
 refine law_row (C:=Tryz.checked) (m:=8) (pt:=[55,3,3]) (rt:=4) own started (by kernel_rfl) Tryz.func6
  (ChangeSpec.witness6 (enc:=enc) (C:=Tryz.checked) false ⟨#[],#[.agg #[.int .i64 0,.int .i64 0,.int .i64 0,.int .i64 0,.int .i64 0,.int .i64 0,.int .i64 0,.int .i64 0,.int .i64 0,.bool false,.slice none 0 0,.slice none 0 0,.slice none 0 0],.int .i64 0,.int .i64 0],[]⟩ 8 (by kernel_rfl) (by kernel_rfl) (by kernel_rfl) (by kernel_rfl)) laidOut rfl (by kernel_rfl) (by kernel_rfl) rfl Tryz.underlying4 rfl ?_ ?_
 ·intro ds hd
  match ds,hd with
  |[a0,a1,a2],_=>exact⟨rfl,rfl,rfl⟩
 ·intro xs hx
  obtain⟨x0,r0,rfl,h0,hx⟩:=Datas.cons hx
  obtain⟨x1,r1,rfl,h1,hx⟩:=Datas.cons hx
  obtain⟨x2,r2,rfl,h2,hx⟩:=Datas.cons hx
  obtain rfl:=Datas.nil hx
  obtain⟨op,x,l,out,⟨⟨hll,hw⟩,hn,hp,hq,hr,hs⟩,rfl⟩:=dat_prim (n:=0) h0
  obtain⟨which,_,rfl⟩:=Dat.int Tryz.underlying3 h1
  obtain⟨at',_,rfl⟩:=Dat.int Tryz.underlying3 h2
  exact alone_ok op x l out which at' hll hw hp hq hr hs
theorem known1:(Rows.eachAloneRow.inPlace==Tryz.prog.inPlace 6)=true:=by kernel_rfl
theorem known2:(Rows.eachAloneRow.unfollowed==Tryz.prog.unfollowed 6)=true:=by kernel_rfl
theorem known3:(Rows.eachAloneRow.recurses==Tryz.prog.recurses 6)=true:=by kernel_rfl
theorem known4:(Rows.eachAloneRow.named==Tryz.prog.varsNamed 6)=true:=by kernel_rfl
theorem closed:joinedFacts Tryz.prog 6 Tryz.f6 Rows.eachAloneSpec Rows.eachAloneRow=true:=by
 unfold joinedFacts
 rw[laidOut,known1,known2,known3,known4]
 kernel_rfl
theorem over:Rows.eachAloneRow.holds Tryz.pinned (OpenSpec.ofChange Rows.eachAloneSpec):=
 OpenClaim.holds_of_wide 6 Tryz.f6 rfl rfl rfl rfl rfl rfl rfl ⟨rfl,rfl,rfl,rfl,rfl⟩ rfl rfl rfl rfl rfl (by kernel_rfl) Tryz.func6 closed
  (of_decide_eq_true (by kernel_rfl)) (by unfold Func.isWrapper;first|(rw[if_pos (by decide+kernel)];kernel_rfl)|(rw[if_neg (by decide+kernel)];exact⟨rfl,rfl⟩))
  (fun os started H enc _=>lifted os started H enc)
theorem proved:Rows.EachAloneSaid:=over
end Go.Proofs.YteodjhhobkcnjaaGreat.eachAlone
namespace Go.Proofs.YteodjhhobkcnjaaGreat
theorem eachAlone_holds:Rows.EachAloneSaid:=eachAlone.proved
end Go.Proofs.YteodjhhobkcnjaaGreat
