/- EachSlopes: whatever the arguments, the law returns true, and the arguments read as before. Conditions: none beyond the row's. -/
import Derived.Test.YteodjhhobkcnjaaGreatXzE
import Derived.Test.YteodjhhobkcnjaaGreatRows
import Derived.WalkKit
import Derived.ProofKit
set_option linter.unusedVariables false
set_option linter.unusedSimpArgs false
namespace Go.Proofs.YteodjhhobkcnjaaGreat.eachSlopes
open Go Go.Fm Go.ChangeShapes Go.WideShapes Go.ChangeAt Go.RowKit Go.Proofs
set_option maxRecDepth 100000
theorem own:ownKnob Tryz.prog.godebug=none:=by kernel_rfl
theorem laidOut:laidOutB Tryz.prog=true:=by kernel_rfl
theorem lifted (os:Os) (started:os.Started) (H:Type) (enc:TypeId×Value→H):
  ReturnsInHanded {} Tryz.checked os 7 .any (Rows.eachSlopesSpec.pre6 enc Tryz.prog Tryz.f7 Rows.eachSlopesRow.domain false) (Rows.eachSlopesSpec.post enc Tryz.prog Tryz.f7 false true false false):=by
 refine law_row (C:=Tryz.checked) (m:=8) (pt:=[3,55,86]) (rt:=4) own started (by kernel_rfl) Tryz.func7
  (ChangeSpec.witness6 (enc:=enc) (C:=Tryz.checked) false ⟨#[],#[.int .i64 0,.agg #[.int .i64 0,.int .i64 0,.int .i64 0,.int .i64 0,.int .i64 0,.int .i64 0,.int .i64 0,.int .i64 0,.int .i64 0,.bool false,.slice none 0 0,.slice none 0 0,.slice none 0 0],.agg #[.slice none 0 0,.bool false,.slice none 0 0,.slice none 0 0,.int .u64 0,.int .i64 0,.int .i64 0,.int .i64 0,.bool false,.slice none 0 0,.slice none 0 0,.int .u64 0,.int .i64 0]],[]⟩ 8 (by kernel_rfl) (by kernel_rfl) (by kernel_rfl) (by kernel_rfl)) laidOut rfl (by kernel_rfl) (by kernel_rfl) rfl Tryz.underlying4 rfl ?_ ?_
 ·intro ds hd
  match ds,hd with
  |[a0,a1,a2],_=>exact⟨rfl,rfl,rfl⟩
 ·intro xs hx
  obtain⟨x0,r0,rfl,h0,hx⟩:=Datas.cons hx
  obtain⟨x1,r1,rfl,h1,hx⟩:=Datas.cons hx
  obtain⟨x2,r2,rfl,h2,hx⟩:=Datas.cons hx
  obtain rfl:=Datas.nil hx
  obtain⟨md,_,rfl⟩:=Dat.int Tryz.underlying3 h0
  obtain⟨op,x,l,out,⟨_,hn,hp,hq,_⟩,rfl⟩:=dat_prim (n:=0) h1
  obtain⟨X,y,pick,which,v,⟨hX,hs⟩,rfl⟩:=dat_place (n:=0) h2
  exact slopes_ok md op x l out X y pick which v hX hs hn hp hq
theorem known1:(Rows.eachSlopesRow.inPlace==Tryz.prog.inPlace 7)=true:=by kernel_rfl
theorem known2:(Rows.eachSlopesRow.unfollowed==Tryz.prog.unfollowed 7)=true:=by kernel_rfl
theorem known3:(Rows.eachSlopesRow.recurses==Tryz.prog.recurses 7)=true:=by kernel_rfl
theorem known4:(Rows.eachSlopesRow.named==Tryz.prog.varsNamed 7)=true:=by kernel_rfl
theorem closed:joinedFacts Tryz.prog 7 Tryz.f7 Rows.eachSlopesSpec Rows.eachSlopesRow=true:=by
 unfold joinedFacts
 rw[laidOut,known1,known2,known3,known4]
 kernel_rfl
theorem over:Rows.eachSlopesRow.holds Tryz.pinned (OpenSpec.ofChange Rows.eachSlopesSpec):=
 OpenClaim.holds_of_wide 7 Tryz.f7 rfl rfl rfl rfl rfl rfl rfl ⟨rfl,rfl,rfl,rfl,rfl⟩ rfl rfl rfl rfl rfl (by kernel_rfl) Tryz.func7 closed
  (of_decide_eq_true (by kernel_rfl)) (by unfold Func.isWrapper;first|(rw[if_pos (by decide+kernel)];kernel_rfl)|(rw[if_neg (by decide+kernel)];exact⟨rfl,rfl⟩))
  (fun os started H enc _=>lifted os started H enc)
theorem proved:Rows.EachSlopesSaid:=over
end Go.Proofs.YteodjhhobkcnjaaGreat.eachSlopes
namespace Go.Proofs.YteodjhhobkcnjaaGreat
theorem eachSlopes_holds:Rows.EachSlopesSaid:=eachSlopes.proved
end Go.Proofs.YteodjhhobkcnjaaGreat
