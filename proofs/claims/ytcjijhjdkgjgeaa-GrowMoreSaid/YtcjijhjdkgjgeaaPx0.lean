-- Written by a program of this session out of the translation. Lean checks it.
import Derived.Test.YtcjijhjdkgjgeaaProg
import Derived.Below
import Derived.Deep.Draws
import Derived.Deep.AppendLies
import Derived.Maps.AppendAt
import Derived.OwnWalk
import Derived.Laws.BytesArg
import Derived.Laws.MakeOwn
import Derived.Laws.OwnMore
import Derived.Deep.OwnRows
import Derived.Tactics
import Derived.Lib.ConvBytes
import Derived.Laws.Slices
import Derived.WalkKit
import Derived.KernelRfl
import Derived.RowKit3
import Derived.Deep.LoopGhost
import Derived.Deep.QuietTactic
import Derived.BigQuiet
import Derived.WideLaws
import Derived.Deep.DeepCutAuto
import Derived.Deep.CutBlock
import Derived.Deep.RegionHeld3
import Derived.Laws.Rows
import Derived.Lib.AppendStr
import Derived.ArgAppend
import Derived.Laws.IdiomCopy
import Derived.OrdersHeld
import Derived.Laws.BitsLemmas
import Derived.RowKit
import Derived.WalkSpells
import Derived.BigRegion
import Derived.Outline
import Derived.IntWalk
import Derived.Deep.RegionLaw
import Derived.Deep.RegionHeld3
import Derived.Lib.SliceRun
import Derived.Test.YtcjijhjdkgjgeaaWWords
import Derived.Test.YtcjijhjdkgjgeaaWLast
import Derived.Test.YtcjijhjdkgjgeaaWTab
import Derived.Test.YtcjijhjdkgjgeaaWFour
import Derived.Test.YtcjijhjdkgjgeaaWQPut
import Derived.Test.YtcjijhjdkgjgeaaWApart
import Derived.Test.YtcjijhjdkgjgeaaWArr
import Derived.Test.YtcjijhjdkgjgeaaWZeros
import Derived.Test.YtcjijhjdkgjgeaaWFoot
import Derived.Test.YtcjijhjdkgjgeaaWKept
import Derived.Test.YtcjijhjdkgjgeaaWShare
import Derived.Test.YtcjijhjdkgjgeaaWN
import Derived.Test.YtcjijhjdkgjgeaaWFootNe
import Derived.Test.YtcjijhjdkgjgeaaWAt
import Derived.Test.YtcjijhjdkgjgeaaWEqStruct
import Derived.Test.YtcjijhjdkgjgeaaWRepsOne
import Derived.Test.YtcjijhjdkgjgeaaWInv
import Derived.Test.YtcjijhjdkgjgeaaWInvWords
import Derived.Test.YtcjijhjdkgjgeaaWGuard
import Derived.Test.YtcjijhjdkgjgeaaWNEv
import Derived.Test.YtcjijhjdkgjgeaaWMore
namespace Go.Proofs.Ytcjijhjdkgjgeaa.P
open Go.RowKit Go.Proofs.YtcjijhjdkgjgeaaW.PrintWords Go.Proofs.YtcjijhjdkgjgeaaW.PrintLast Go.Proofs.YtcjijhjdkgjgeaaW.PrintMore
attribute [local go_sem] max2_int min2_int max_two min_two max_three min_three max_four min_four   -- for this text's walks alone
set_option linter.unusedVariables false
set_option linter.unusedSimpArgs false



def errW : Option Int → Value
  | none => .nilIface
  | some c => .iface 0 (.int .i64 c)
theorem errW_none : errW none = .nilIface := rfl
theorem errW_some (c : Int) : errW (some c) = .iface 0 (.int .i64 c) := rfl

theorem info3 : (Try.prog.info? 3).map (fun i => (i.zero, i.size, i.bytes)) = some (some (.int .i64 0), 1, 8) := by kernel_rfl
theorem info5 : (Try.prog.info? 5).map (fun i => (i.zero, i.size, i.bytes)) = some (some (.int .u8 0), 1, 1) := by kernel_rfl
-- the values' own types

end Go.Proofs.Ytcjijhjdkgjgeaa.P
