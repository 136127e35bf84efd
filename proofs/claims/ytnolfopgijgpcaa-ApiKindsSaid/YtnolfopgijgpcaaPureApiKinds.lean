/- The closed law ApiKinds returns true: every kind, mode and way of package api has its number. Conditions: none. -/
import Derived.Test.YtnolfopgijgpcaaPApiKindsx1
namespace Go.Proofs.Ytnolfopgijgpcaa.Pure
open Go.RowKit Go.Proofs.Ytnolfopgijgpcaa.PApiKinds Go.Proofs.YtnolfopgijgpcaaW.PrintWords Go.Proofs.YtnolfopgijgpcaaW.PrintLast

/-- YOURS: ∃ k, satchellaw0_ApiKinds.f k  = some true
What it reaches (each with k first where it has rounds; `.mono`: more rounds tell the same; `.l0`, ..: its loops, with `.mono_l`): satchellaw0_all.f, satchellaw0_kinds.f, satchellaw0_ApiKinds.f -/
theorem ApiKinds : satchellaw0_ApiKinds.Pure := by
  exact ⟨60, by decide +kernel⟩

end Go.Proofs.Ytnolfopgijgpcaa.Pure
