-- PRINTED BY print.sh 35421559b90ae4d0a3588c463048766b98c2df88dd9212a6774a882060cdf62d: not written by this session
import Derived.Test.YtnolfopgijgpcaaDoorProg
import Derived.Below
import Derived.Deep.Draws
import Derived.Deep.AppendLies
import Derived.Maps.AppendAt
import Derived.OwnWalk
import Derived.Laws.BytesArg
import Derived.Laws.MakeOwn
import Derived.Laws.OwnMore
import Derived.Deep.OwnRows
import Derived.Tactics
import Derived.Lib.ConvBytes
import Derived.Laws.Slices
import Derived.WalkKit
import Derived.KernelRfl
import Derived.RowKit3
import Derived.Deep.LoopGhost
import Derived.Deep.QuietTactic
import Derived.BigQuiet
import Derived.WideLaws
import Derived.Deep.DeepCutAuto
import Derived.Deep.CutBlock
import Derived.Deep.RegionHeld3
import Derived.Laws.Rows
import Derived.Lib.AppendStr
import Derived.ArgAppend
import Derived.Laws.IdiomCopy
import Derived.OrdersHeld
import Derived.Laws.BitsLemmas
import Derived.RowKit
import Derived.Test.YtnolfopgijgpcaaDoorWWords
import Derived.Test.YtnolfopgijgpcaaDoorWLast
import Derived.Test.YtnolfopgijgpcaaDoorWTab
import Derived.Test.YtnolfopgijgpcaaDoorWFour
import Derived.Test.YtnolfopgijgpcaaDoorWQPut
import Derived.Test.YtnolfopgijgpcaaDoorWApart
import Derived.Test.YtnolfopgijgpcaaDoorWArr
import Derived.Test.YtnolfopgijgpcaaDoorWZeros
import Derived.Test.YtnolfopgijgpcaaDoorWFoot
import Derived.Test.YtnolfopgijgpcaaDoorWKept
import Derived.Test.YtnolfopgijgpcaaDoorWShare
import Derived.Test.YtnolfopgijgpcaaDoorWN
import Derived.Test.YtnolfopgijgpcaaDoorWFootNe
import Derived.Test.YtnolfopgijgpcaaDoorWAt
import Derived.Test.YtnolfopgijgpcaaDoorWEqStruct
import Derived.Test.YtnolfopgijgpcaaDoorWRepsOne
import Derived.Test.YtnolfopgijgpcaaDoorWInv
import Derived.Test.YtnolfopgijgpcaaDoorWInvWords
import Derived.Test.YtnolfopgijgpcaaDoorWGuard
import Derived.Test.YtnolfopgijgpcaaDoorWNEv
import Derived.Test.YtnolfopgijgpcaaDoorWMore
namespace Go.Proofs.YtnolfopgijgpcaaDoor.PRefsNames
open Go.RowKit Go.Proofs.YtnolfopgijgpcaaDoorW.PrintWords Go.Proofs.YtnolfopgijgpcaaDoorW.PrintLast Go.Proofs.YtnolfopgijgpcaaDoorW.PrintMore
attribute [local go_sem] max2_int min2_int max_two min_two max_three min_three max_four min_four   -- for this text's walks alone
set_option linter.unusedVariables false
set_option linter.unusedSimpArgs false



def errW : Option Int → Value
  | none => .nilIface
  | some c => .iface 0 (.int .i64 c)
theorem errW_none : errW none = .nilIface := rfl
theorem errW_some (c : Int) : errW (some c) = .iface 0 (.int .i64 c) := rfl

theorem info9 : (Tryd.prog.info? 9).map (fun i => (i.zero, i.size, i.bytes)) = some (some (.string ⟨#[]⟩), 1, 16) := by kernel_rfl
-- the values' own types

end Go.Proofs.YtnolfopgijgpcaaDoor.PRefsNames
