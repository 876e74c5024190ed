-- Written by a program of this session out of the translation. Lean checks it.
import Derived.Test.YtcmpeffaikjemaaProg
import Derived.Below
import Derived.Deep.Draws
import Derived.Deep.AppendLies
import Derived.Maps.AppendAt
import Derived.OwnWalk
import Derived.Laws.BytesArg
import Derived.Laws.MakeOwn
import Derived.Laws.OwnMore
import Derived.Deep.OwnRows
import Derived.Tactics
import Derived.Lib.ConvBytes
import Derived.Laws.Slices
import Derived.WalkKit
import Derived.KernelRfl
import Derived.RowKit3
import Derived.Deep.LoopGhost
import Derived.Deep.QuietTactic
import Derived.BigQuiet
import Derived.WideLaws
import Derived.Deep.DeepCutAuto
import Derived.Deep.CutBlock
import Derived.Deep.RegionHeld3
import Derived.Laws.Rows
import Derived.Lib.AppendStr
import Derived.ArgAppend
import Derived.Laws.IdiomCopy
import Derived.OrdersHeld
import Derived.Laws.BitsLemmas
import Derived.RowKit
import Derived.WalkSpells
import Derived.BigRegion
import Derived.Outline
import Derived.IntWalk
import Derived.Deep.RegionLaw
import Derived.Deep.RegionHeld3
import Derived.Test.YtcmpeffaikjemaaWWords
import Derived.Test.YtcmpeffaikjemaaWLast
import Derived.Test.YtcmpeffaikjemaaWTab
import Derived.Test.YtcmpeffaikjemaaWFour
import Derived.Test.YtcmpeffaikjemaaWQPut
import Derived.Test.YtcmpeffaikjemaaWApart
import Derived.Test.YtcmpeffaikjemaaWArr
import Derived.Test.YtcmpeffaikjemaaWZeros
import Derived.Test.YtcmpeffaikjemaaWFoot
import Derived.Test.YtcmpeffaikjemaaWKept
import Derived.Test.YtcmpeffaikjemaaWShare
import Derived.Test.YtcmpeffaikjemaaWN
import Derived.Test.YtcmpeffaikjemaaWFootNe
import Derived.Test.YtcmpeffaikjemaaWAt
import Derived.Test.YtcmpeffaikjemaaWEqStruct
import Derived.Test.YtcmpeffaikjemaaWRepsOne
import Derived.Test.YtcmpeffaikjemaaWInv
import Derived.Test.YtcmpeffaikjemaaWInvWords
import Derived.Test.YtcmpeffaikjemaaWGuard
import Derived.Test.YtcmpeffaikjemaaWNEv
import Derived.Test.YtcmpeffaikjemaaWMore
namespace Go.Proofs.Ytcmpeffaikjemaa.P
open Go.RowKit Go.Proofs.YtcmpeffaikjemaaW.PrintWords Go.Proofs.YtcmpeffaikjemaaW.PrintLast Go.Proofs.YtcmpeffaikjemaaW.PrintMore
attribute [local go_sem] max2_int min2_int max_two min_two max_three min_three max_four min_four   -- for this text's walks alone
set_option linter.unusedVariables false
set_option linter.unusedSimpArgs false



def errW : Option Int → Value
  | none => .nilIface
  | some c => .iface 0 (.int .i64 c)
theorem errW_none : errW none = .nilIface := rfl
theorem errW_some (c : Int) : errW (some c) = .iface 0 (.int .i64 c) := rfl

theorem info3 : (Try.prog.info? 3).map (fun i => (i.zero, i.size, i.bytes)) = some (some (.int .i64 0), 1, 8) := by kernel_rfl
theorem info5 : (Try.prog.info? 5).map (fun i => (i.zero, i.size, i.bytes)) = some (some (.int .u8 0), 1, 1) := by kernel_rfl
-- the values' own types

end Go.Proofs.Ytcmpeffaikjemaa.P
