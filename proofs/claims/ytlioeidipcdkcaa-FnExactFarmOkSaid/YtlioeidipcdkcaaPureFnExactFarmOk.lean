/- FnExactFarmOk: the law's function answers true at all fields. No conditions but that the numbers are ints. -/
import Derived.Test.YtlioeidipcdkcaaPFnExactFarmOkx1
namespace Go.Proofs.Ytlioeidipcdkcaa.Pure
open Go.RowKit Go.Proofs.Ytlioeidipcdkcaa.PFnExactFarmOk Go.Proofs.YtlioeidipcdkcaaW.PrintWords Go.Proofs.YtlioeidipcdkcaaW.PrintLast

theorem FnExactFarmOk (a b c : Bool) (d e : Int) (_ : (Lit.int .i64 d).wf = true) (_ : (Lit.int .i64 e).wf = true) : laws_FnExactFarmOk.f a b c d e = some true := by
  simp only [laws_FnExactFarmOk.f, laws_toFarm.f, spec_FarmOk.f, impl_FarmOk.f, spec_l1In.f, impl_within.f, Option.bind_some]
  cases a <;> cases b <;> cases c <;> by_cases h1 : d ≥ 0 <;> by_cases h2 : d ≤ 3 <;> by_cases h3 : e ≥ 0 <;> by_cases h4 : e ≤ 255 <;> simp [h1, h2, h3, h4]

end Go.Proofs.Ytlioeidipcdkcaa.Pure
