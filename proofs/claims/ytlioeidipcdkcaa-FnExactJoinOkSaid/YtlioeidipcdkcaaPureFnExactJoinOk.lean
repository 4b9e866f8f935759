/- FnExactJoinOk: the program's JoinOk and the reference's answer alike. No conditions but that the text is one that a machine holds. -/
import Derived.Test.YtlioeidipcdkcaaPFnExactJoinOkx1
import Derived.Test.YtlioeidipcdkcaaAux
namespace Go.Proofs.Ytlioeidipcdkcaa.Pure
open Go Go.RowKit Go.Proofs.Ytlioeidipcdkcaa.PFnExactJoinOk Go.Proofs.YtlioeidipcdkcaaW.PrintWords Go.Proofs.YtlioeidipcdkcaaW.PrintLast Go.Proofs.Ytlioeidipcdkcaa.Aux

theorem FnExactJoinOk (a : Bool) (s : ByteArray) (_ : s.size ≤ 9223372036854775807) : laws_FnExactJoinOk.f a s = some true := by
  simp only [laws_FnExactJoinOk.f, laws_szJoin.f, spec_JoinOk.f, impl_JoinOk.f, spec_l7Most.f, laws_toJoin.f, Option.bind_some]
  by_cases h1 : wrap64 (1048576 - (s.size : Int)) < 0
  · simp [h1]
  · by_cases h2 : (s.size : Int) ≤ 106 <;> cases a <;> simp [h1, h2]

end Go.Proofs.Ytlioeidipcdkcaa.Pure
