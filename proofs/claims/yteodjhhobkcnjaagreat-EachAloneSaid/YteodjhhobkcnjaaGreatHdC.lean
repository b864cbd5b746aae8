/- Doubles: their parts, by the reference. -/
import Derived.Test.YteodjhhobkcnjaaGreatHdB
set_option linter.unusedVariables false
set_option linter.unusedSimpArgs false
namespace Go.Fm
open Go.Proofs
set_option maxRecDepth 100000
attribute [local irreducible] tiOf
theorem dField_ok (b:Nat) (hb:b<18446744073709551616):Pure Tryz.prog 263 [.int .u64 b] [.t (.int .i64 (fieldD b:Nat))]:=by
 have h1:b/4503599627370496<18446744073709551616:=by omega
 have hw:=wfield b
 unfold fieldD at hw
 refine Pure.I Tryz.func263 [2] ?_
 simp-implicitDefEqProofs+decide only[go_sem,uandF h1,hw]
 exact endF.V1 2 (.int .i64 (fieldD b:Nat))
theorem dRest_ok (b:Nat) (hb:b<18446744073709551616):Pure Tryz.prog 264 [.int .u64 b] [.t (.int .u64 (restD b:Nat))]:=by
 refine Pure.I Tryz.func264 [2] ?_
 simp-implicitDefEqProofs+decide only[go_sem,uandR hb]
 exact endF.V1 2 (.int .u64 (restD b:Nat))
theorem dKind_ok (b:Nat) (hb:b<18446744073709551616):Pure Tryz.prog 211 [.int .u64 b] [.t (.int .i64 (kindD b))]:=by
 have c1:=dField_ok b hb
 have c2:=dRest_ok b hb
 obtain⟨r,hr⟩:∃r,kindD b=r:=⟨_,rfl⟩
 rw[hr]
 unfold kindD at hr
 refine Pure.I Tryz.func211 [2] ?_
 refine Sm ?_
 refine CallG.P _ Tryz.call263 (c1) ?_
 refine Sm ?_
 apply selP_dec<;>intro h1
 ·rw[if_pos (by omega)]at hr
  refine Sm ?_
  refine CallG.P _ Tryz.call264 (c2) ?_
  refine Sm ?_
  apply selP_dec<;>intro h2
  ·rw[if_pos (by omega)]at hr
   subst hr
   refine Sm ?_
   exact endF.V1 2 (.int .i64 3)
  ·rw[if_neg (by omega)]at hr
   subst hr
   refine Sm ?_
   exact endF.V1 2 (.int .i64 4)
 ·rw[if_neg (by omega)]at hr
  refine Sm ?_
  refine CallG.P _ Tryz.call263 (c1) ?_
  refine Sm ?_
  apply selP_dec<;>intro h2
  ·rw[if_neg (by omega)]at hr
   subst hr
   refine Sm ?_
   exact endF.V1 2 (.int .i64 2)
  ·rw[if_pos (by omega)]at hr
   refine Sm ?_
   refine CallG.P _ Tryz.call264 (c2) ?_
   refine Sm ?_
   apply selP_dec<;>intro h3
   ·rw[if_neg (by omega)]at hr
    subst hr
    refine Sm ?_
    exact endF.V1 2 (.int .i64 1)
   ·rw[if_pos (by omega)]at hr
    subst hr
    refine Sm ?_
    exact endF.V1 2 (.int .i64 0)
theorem dNan_ok:Pure Tryz.prog 212 [] [.t (.int .u64 (nanD:Nat))]:=by
 refine Pure.I Tryz.func212 [0] ?_
 refine Sm ?_
 exact endF.V1 0 (.int .u64 (nanD:Nat))
theorem dClean_ok (b:Nat) (hb:b<18446744073709551616):Pure Tryz.prog 157 [.int .u64 b] [.t (.int .u64 (cleanD b:Nat))]:=by
 have c1:=dKind_ok b hb
 have c2:=dNan_ok
 unfold cleanD
 refine Pure.I Tryz.func157 [2] ?_
 refine Sm ?_
 refine CallG.P _ Tryz.call211 (c1) ?_
 refine Sm ?_
 apply selP_dec<;>intro h1
 ·rw[if_pos h1]
  refine Sm ?_
  refine CallG.P _ Tryz.call212 (c2) ?_
  refine Sm ?_
  exact endF.V1 2 (.int .u64 (nanD:Nat))
 ·rw[if_neg h1]
  refine Sm ?_
  exact endF.V1 2 (.int .u64 (b:Nat))
end Go.Fm
