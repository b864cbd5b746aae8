/- The reference's numbers: Len, Bits, a bit set. -/
import Derived.Test.YteodjhhobkcnjaaGreatHcA
import Derived.Test.YteodjhhobkcnjaaGreatHbA
import Derived.Test.YteodjhhobkcnjaaGreatHbC
import Derived.Test.YteodjhhobkcnjaaGreatHcB
set_option linter.unusedVariables false
set_option linter.unusedSimpArgs false
namespace Go.Fm
open Go.Proofs
set_option maxRecDepth 100000
attribute [local irreducible] tiOf
theorem bitLen_zero:bitLen 0=0:=rfl
theorem words_one:wordsOf 1=[1]:=wordsOf_small (by decide) (by decide)
def ZB (r:Rat) (k:Nat):Prop:=tz r.den≤k
theorem tz_mul {a b:Nat} (ha:a≠0) (hb:b≠0):tz (a*b)=tz a+tz b:=by
 obtain⟨x,x1,x2,x3⟩:=tz_spec a ha
 obtain⟨y,y1,y2,y3⟩:=tz_spec b hb
 have hxy:(x*y)%2=1:=by rw[Nat.mul_mod,x1,y1]
 have key:∀(k o:Nat),o%2=1→tz (2^k*o)=k:=fun k o ho=>by
  induction k with
  |zero=>rw[Nat.pow_zero,Nat.one_mul];exact tz_odd ho
  | succ k ih =>
    have ho0:o≠0:=by omega
    have hne:2^(k+1)*o≠0:=Nat.mul_ne_zero (by have:=Nat.pow_pos (n:=k+1) (show 0<2 by decide);omega) ho0
    have e:2^(k+1)*o=2*(2^k*o):=by rw[Nat.pow_succ,Nat.mul_comm (2^k) 2,Nat.mul_assoc]
    rw[tz_even (by rw[e];omega) hne,e,Nat.mul_div_cancel_left _ (by decide),ih]
 have e:a*b=2^(tz a+tz b)*(x*y):=by
  conv=>lhs;rw[x2,y2]
  rw[Nat.pow_add]
  simp only[Nat.mul_assoc,Nat.mul_left_comm]
 rw[e,key _ _ hxy]
def sgnI (r:Rat):Int:=if r.num=0 then 0 else if r.num<0 then-1 else 1
end Go.Fm
