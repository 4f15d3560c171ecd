/- Contracts of functions that the law FnIntegers reaches: called with any arguments they return what the plain functions here say, and nothing that lay in memory before is changed; no other conditions. -/
import Derived.Test.YtkgdofogalfhjaaDoorProg
import Derived.Below
import Derived.Deep.Draws
import Derived.Deep.AppendLies
import Derived.Maps.AppendAt
import Derived.OwnWalk
import Derived.Laws.BytesArg
import Derived.Laws.MakeOwn
import Derived.Laws.OwnMore
import Derived.Deep.OwnRows
import Derived.Tactics
import Derived.Lib.ConvBytes
import Derived.Laws.Slices
import Derived.WalkKit
import Derived.KernelRfl
import Derived.RowKit3
import Derived.Deep.LoopGhost
import Derived.Deep.QuietTactic
import Derived.BigQuiet
import Derived.WideLaws
import Derived.Deep.DeepCutAuto
import Derived.Deep.CutBlock
import Derived.Deep.RegionHeld3
import Derived.Laws.Rows
import Derived.Lib.AppendStr
import Derived.ArgAppend
import Derived.Laws.IdiomCopy
import Derived.OrdersHeld
import Derived.Laws.BitsLemmas
import Derived.RowKit
import Derived.Test.YtkgdofogalfhjaaDoorWWords
import Derived.Test.YtkgdofogalfhjaaDoorWLast
import Derived.Test.YtkgdofogalfhjaaDoorWTab
import Derived.Test.YtkgdofogalfhjaaDoorWFour
import Derived.Test.YtkgdofogalfhjaaDoorWQPut
import Derived.Test.YtkgdofogalfhjaaDoorWApart
import Derived.Test.YtkgdofogalfhjaaDoorWArr
import Derived.Test.YtkgdofogalfhjaaDoorWZeros
import Derived.Test.YtkgdofogalfhjaaDoorWFoot
import Derived.Test.YtkgdofogalfhjaaDoorWKept
import Derived.Test.YtkgdofogalfhjaaDoorWShare
import Derived.Test.YtkgdofogalfhjaaDoorWN
import Derived.Test.YtkgdofogalfhjaaDoorWFootNe
import Derived.Test.YtkgdofogalfhjaaDoorWAt
import Derived.Test.YtkgdofogalfhjaaDoorWEqStruct
import Derived.Test.YtkgdofogalfhjaaDoorWRepsOne
import Derived.Test.YtkgdofogalfhjaaDoorWInv
import Derived.Test.YtkgdofogalfhjaaDoorWInvWords
import Derived.Test.YtkgdofogalfhjaaDoorWGuard
import Derived.Test.YtkgdofogalfhjaaDoorWNEv
import Derived.Test.YtkgdofogalfhjaaDoorWMore
namespace Go.Proofs.YtkgdofogalfhjaaDoor.PFnIntegers
open Go.RowKit Go.Proofs.YtkgdofogalfhjaaDoorW.PrintWords Go.Proofs.YtkgdofogalfhjaaDoorW.PrintLast Go.Proofs.YtkgdofogalfhjaaDoorW.PrintMore
attribute [local go_sem] max2_int min2_int max_two min_two max_three min_three max_four min_four   -- for this text's walks alone
set_option linter.unusedVariables false
set_option linter.unusedSimpArgs false



def errW : Option Int → Value
  | none => .nilIface
  | some c => .iface 0 (.int .i64 c)
theorem errW_none : errW none = .nilIface := rfl
theorem errW_some (c : Int) : errW (some c) = .iface 0 (.int .i64 c) := rfl

theorem info3 : (Tryd.prog.info? 3).map (fun i => (i.zero, i.size, i.bytes)) = some (some (.int .i64 0), 1, 8) := by kernel_rfl
theorem info5 : (Tryd.prog.info? 5).map (fun i => (i.zero, i.size, i.bytes)) = some (some (.int .u8 0), 1, 1) := by kernel_rfl
theorem info9 : (Tryd.prog.info? 9).map (fun i => (i.zero, i.size, i.bytes)) = some (some (.string ⟨#[]⟩), 1, 16) := by kernel_rfl
-- the values' own types

end Go.Proofs.YtkgdofogalfhjaaDoor.PFnIntegers
