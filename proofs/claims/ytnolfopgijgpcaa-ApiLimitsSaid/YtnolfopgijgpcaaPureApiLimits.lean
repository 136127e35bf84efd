/- The closed law ApiLimits returns true: every limit of package api has the number that the document gives it. Conditions: none. -/
import Derived.Test.YtnolfopgijgpcaaPApiLimitsx1
namespace Go.Proofs.Ytnolfopgijgpcaa.Pure
open Go.RowKit Go.Proofs.Ytnolfopgijgpcaa.PApiLimits Go.Proofs.YtnolfopgijgpcaaW.PrintWords Go.Proofs.YtnolfopgijgpcaaW.PrintLast

/-- YOURS: ∃ k, satchellaw0_ApiLimits.f k  = some true
What it reaches (each with k first where it has rounds; `.mono`: more rounds tell the same; `.l0`, ..: its loops, with `.mono_l`): satchellaw0_all.f, satchellaw0_limits.f, satchellaw0_ApiLimits.f -/
theorem ApiLimits : satchellaw0_ApiLimits.Pure := by
  exact ⟨60, by decide +kernel⟩

end Go.Proofs.Ytnolfopgijgpcaa.Pure
